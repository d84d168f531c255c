/- The contracts of the tree: building. -/
import Derived.Test.YtaolgnmpgnamnaaTw
set_option linter.unusedVariables false
set_option linter.unusedSimpArgs false
namespace Kb
open Go Go.Proofs
set_option maxRecDepth 10000 in
theorem build_ct (v : List DThing) (vs : SV) (texts : List ByteArray) (textss : SV) (values : List Int) (valuess : SV) (blinds : List Int) (blindss : SV) :
    Ct Try.prog 16 #[ag (DVault.mk ⟨v, vs⟩), textss.v, valuess.v, blindss.v] [fs true v vs, fs true texts textss, fs true values valuess, fs true blinds blindss] [] (fun g => .tuple #[ag (DVault.mk ⟨Tm.buildT v texts values blinds, (g.ss 0)⟩), iv (Tm.buildR v texts values blinds), ((g.ss 1)).v, iv (Tm.buildE v texts values blinds)]) (fun g => [fs true (Tm.buildT v texts values blinds) (g.ss 0), fs true (Tm.buildL v texts values blinds) (g.ss 1)]) (fun g => []) (fun g => []) := by
  refine V.fn mo Try.func16 151 7 (by kernel_rfl) fun w H ε k0 => ?_
  obtain ⟨⟨kl1, -⟩, ⟨kl2, -⟩, ⟨kl3, -⟩, ⟨kl4, -⟩, -⟩ : Lq v vs.v ∧ Lq texts textss.v ∧ Lq values valuess.v ∧ Lq blinds blindss.v ∧ True := kn k0 (by kernel_rfl)
  clear k0
  refine V.go [.nb 0 0 (fun b => pp b 0) 24 (fun _ => ca (DVault.mk ⟨v, vs⟩)),
    .nb 1 1 (fun b => pp b 0) 24 (fun _ => ca (DVault.mk ⟨[], {}⟩)),
    .k (iv 0),
    .k (.slice none 0 0),
    .k (iv 0)] (fun _ _ => by kernel_rfl) fun _ _ G1 => ?_
  intro S1 t1
  refine V.go [.k (textss.v),
    .ln (kf false (.f 1) texts (fun _ => textss)),
    .k (iv (texts.length : Int))] (fun _ _ => by kernel_rfl) fun _ _ G2 => ?_
  intro S2 t2
  refine nm ((!(decide (Tm.Sound v))) || (decide ((texts.length : Int) = 0)) : Bool) fun p1 hp1 => ?_
  refine nm (p1 || (!(decide ((values.length : Int) = (texts.length : Int)))) : Bool) fun p2 hp2 => ?_
  refine nm (p2 || (!(decide ((blinds.length : Int) = (texts.length : Int)))) : Bool) fun p3 hp3 => ?_
  refine V.go [.ld 0 0 true (fun _ => Dat.cells (DVault.mk ⟨v, vs⟩)),
    .cp g0 1 26 [(kf false (.f 0) v (fun _ => vs)).a] (fun _ G => sound_ct v vs),
    .k (bv (!(decide (Tm.Sound v)))),
    .k (bv (!(decide (Tm.Sound v)))),
    .k (iv (texts.length : Int)),
    .k (bv (decide ((texts.length : Int) = 0))),
    .orn g0 false (!(decide (Tm.Sound v))) (decide ((texts.length : Int) = 0)) p1 hp1,
    .k (bv p1),
    .k (valuess.v),
    .ln (kf false (.f 2) values (fun _ => valuess)),
    .k (iv (texts.length : Int)),
    .k (bv (!(decide ((values.length : Int) = (texts.length : Int))))),
    .orn g0 false p1 (!(decide ((values.length : Int) = (texts.length : Int)))) p2 hp2,
    .k (bv p2),
    .k (blindss.v),
    .ln (kf false (.f 3) blinds (fun _ => blindss)),
    .k (iv (texts.length : Int)),
    .k (bv (!(decide ((blinds.length : Int) = (texts.length : Int))))),
    .orn g0 false p2 (!(decide ((blinds.length : Int) = (texts.length : Int)))) p3 hp3] (fun _ _ => by kernel_rfl) fun _ _ G3 => ?_
  intro S3 t3
  refine V.cond (b := p3) (iN hp3 (iOT (iN hp2 (iOT (iN hp1 (iOT (iNT iDF) iDT)) (iNT iDF))) (iNT iDF))) (iN hp3 (iOF (iN hp2 (iOF (iN hp1 (iOF (iNF iDT) iDF)) (iNF iDT))) (iNF iDT))) (by kernel_rfl) (fun q1 => ?_) (fun q2 => ?_)
  · skip
    have hB := Tm.build_arg (v := v) (texts := texts) (values := values) (blinds := blinds) (by rintro ⟨a1, a2, a3, a4, _⟩; rcases q1 with ((h | h) | h) | h <;> first | exact h a1 | omega)
    refine V.go [.k (ag (DVault.mk ⟨[], {}⟩)),
      .st 1 (fun _ => .blk ((G1 1).b) (ca (DVault.mk ⟨[], {}⟩)) 24),
      .k (iv (-1)),
      .k (.slice none 0 0),
      .k (iv 1)] (fun _ _ => by kernel_rfl) fun _ _ G4 => ?_
    intro S4 t4
    refine V.nilF (α := DThing) ?_
    refine V.nilF (α := Int) ?_
    have e0 : ([] : List DThing) = Tm.buildT v texts values blinds := by
      rw [hB.2.1]
    rw [← e0]
    have e2 : ([] : List Int) = Tm.buildL v texts values blinds := by
      rw [hB.2.2.2]
    rw [← e2]
    have e1 : (-1 : Int) = Tm.buildR v texts values blinds := by
      rw [hB.2.2.1]
    have e3 : (1 : Int) = Tm.buildE v texts values blinds := by
      rw [hB.1]
    exact V.ret [1, 0, 0, 0] [{}, {}] [fun _ => {}, fun _ => {}] [] [4, 5] [] (.tuple #[ag (DVault.mk ⟨([] : List DThing), {}⟩), iv (-1), SV.v ({}), iv 1]) (fun _ _ => by kernel_rfl) (fun _ _ => (Eq.trans (by kernel_rfl) (cong2 (fun (x1 : Int) (x3 : Int) => (.tuple #[.agg #[SV.v ({})], iv x1, SV.v ({}), iv x3] : Value)) e1 e3)).trans (by kernel_rfl)) (fun _ _ => trivial)
  · skip
    have hS : Tm.Sound v := by rcases q2 with ⟨⟨⟨h, _⟩, _⟩, _⟩; first | exact h | exact Decidable.not_not.1 h
    have hS1 := hS.1
    have hn : texts.length ≠ 0 ∧ values.length = texts.length ∧ blinds.length = texts.length := by omega
    refine V.go [.k (textss.v),
      .ln (kf false (.f 1) texts (fun _ => textss)),
      .k (iv 0)] (fun _ _ => by kernel_rfl) fun _ _ G5 => ?_
    intro S5 t5
    refine V.loop (γ := Int) (fun k0 => ⟨[(1, textss.v), (2, valuess.v), (3, blindss.v), (4, pp ((G1 0).b) 0), (8, pp ((G1 1).b) 0), (10, .slice none 0 0), (12, iv (texts.length : Int)), (42, iv (texts.length : Int)), (43, iv k0)], [fs false texts textss, fs false values valuess, fs false blinds blindss, fs false v vs], [.blk ((G1 0).b) (ca (DVault.mk ⟨v, vs⟩)) 24, .blk ((G1 1).b) (ca (DVault.mk ⟨[], {}⟩)) 24, .no, .no, .no, .no, .no]⟩) (fun k0 => (0 ≤ k0) ∧ (k0 ≤ (texts.length : Int)) ∧ (∀ i, i < k0.toNat → Tm.isLeaf (Tm.leafAt texts values blinds i))) (fun k0 => ((texts.length : Int) - k0).toNat) 0 (by kernel_rfl) [1, 2, 3, 0] (by kernel_rfl) ?_ ?_
    · skip
      refine ⟨?_, ?_, ?_⟩
      · show 0 ≤ (0 : Int)
        first | omega | rfl | (simp; done) | (subst_vars; simp; done)
      · show (0 : Int) ≤ (texts.length : Int)
        first | omega | rfl | (simp; done) | (subst_vars; simp; done)
      · show ∀ i, i < (0 : Int).toNat → Tm.isLeaf (Tm.leafAt texts values blinds i)
        intro i hi; simp at hi
    · rintro k0 hF1 kw6 Z1 hZ1
      have hF1 : (0 ≤ k0) ∧ (k0 ≤ (texts.length : Int)) ∧ (∀ i, i < k0.toNat → Tm.isLeaf (Tm.leafAt texts values blinds i)) := hF1
      obtain ⟨hf1, hf2, hf3⟩ := hF1
      clear kw6
      refine V.go [.k (bv (decide (k0 < (texts.length : Int))))] (fun _ _ => by kernel_rfl) fun _ _ G6 => ?_
      intro S6 t6
      refine V.cond (b := decide (k0 < (texts.length : Int))) iDT iDF (by kernel_rfl) (fun q3 => ?_) (fun q4 => ?_)
      · skip
        refine V.go [.k (iv k0),
          .k (iv k0)] (fun _ _ => by kernel_rfl) fun _ _ G7 => ?_
        intro S7 t7
        refine nm (texts.getD k0.toNat default : ByteArray) fun x1 hx1 => ?_
        refine nm (values.getD k0.toNat default : Int) fun v1 hv1 => ?_
        refine nm (blinds.getD k0.toNat default : Int) fun v2 hv2 => ?_
        refine V.reg [.k (textss.v),
          .k (iv k0),
          .ix g0 (kf false (.f 0) texts (fun _ => textss)) k0 (fun _ => ⟨by omega, by omega⟩),
          .le g0 (kf false (.f 0) texts (fun _ => textss)) k0 none false x1 hx1 (fun _ => ⟨by omega, by omega⟩) false (fun _ => [tv x1]),
          .k (valuess.v),
          .k (iv k0),
          .ix g0 (kf false (.f 1) values (fun _ => valuess)) k0 (fun _ => ⟨by omega, by omega⟩),
          .le g0 (kf false (.f 1) values (fun _ => valuess)) k0 none false v1 hv1 (fun _ => ⟨by omega, by omega⟩) false (fun _ => [iv v1]),
          .k (blindss.v),
          .k (iv k0),
          .ix g0 (kf false (.f 2) blinds (fun _ => blindss)) k0 (fun _ => ⟨by omega, by omega⟩),
          .le g0 (kf false (.f 2) blinds (fun _ => blindss)) k0 none false v2 hv2 (fun _ => ⟨by omega, by omega⟩) false (fun _ => [iv v2]),
          .cp g0 12 42 [] (fun _ G => tleaf_ct x1 v1 v2),
          .nr 13 true 44 ([DThing.mk x1 v1 v2 (-1) (-1)] : List DThing) [] (fun _ _ _ _ _ => trivial) (fun _ => #[tv x1, iv v1, iv v2, iv (-1), iv (-1)]),
          .v fun G => ag (DVault.mk ⟨([DThing.mk x1 v1 v2 (-1) (-1)] : List DThing), ⟨atB (G 13).b, 1, 1⟩⟩),
          .cp g0 15 26 [(kf true (.g 13 0) ([DThing.mk x1 v1 v2 (-1) (-1)] : List DThing) (fun G => ⟨atB (G 13).b, 1, 1⟩)).a] (fun _ G => sound_ct ([DThing.mk x1 v1 v2 (-1) (-1)] : List DThing) ⟨atB (G 13).b, 1, 1⟩),
          .k (bv (!(decide (Tm.Sound ([DThing.mk x1 v1 v2 (-1) (-1)] : List DThing)))))] (fun _ _ => by kernel_rfl) fun _ _ G8 kw9 => ?_
        intro S8 t8
        obtain ⟨⟨kl5, -⟩, -⟩ : Lq ([DThing.mk x1 v1 v2 (-1) (-1)] : List DThing) (SV.v ⟨atB (G8 13).b, 1, 1⟩) ∧ True := kn kw9 (by kernel_rfl)
        clear kw9
        refine V.cond (b := !(decide (Tm.Sound ([DThing.mk x1 v1 v2 (-1) (-1)] : List DThing)))) (iNT iDF) (iNF iDT) (by kernel_rfl) (fun q5 => ?_) (fun q6 => ?_)
        · skip
          have hB := Tm.build_arg (Tm.leaf_no (v := v) (texts := texts) (values := values) (blinds := blinds) (k := k0) (by omega) (by omega) (by assumption) (by assumption) (by assumption) q5)
          refine V.go [.k (ag (DVault.mk ⟨[], {}⟩)),
            .st 1 (fun _ => .blk ((G1 1).b) (ca (DVault.mk ⟨[], {}⟩)) 24),
            .k (iv (-1)),
            .k (.slice none 0 0),
            .k (iv 1)] (fun _ _ => by kernel_rfl) fun _ _ G9 => ?_
          intro S9 t9
          refine V.nilF (α := DThing) ?_
          refine V.nilF (α := Int) ?_
          have e0 : ([] : List DThing) = Tm.buildT v texts values blinds := by
            rw [hB.2.1]
          rw [← e0]
          have e2 : ([] : List Int) = Tm.buildL v texts values blinds := by
            rw [hB.2.2.2]
          rw [← e2]
          have e1 : (-1 : Int) = Tm.buildR v texts values blinds := by
            rw [hB.2.2.1]
          have e3 : (1 : Int) = Tm.buildE v texts values blinds := by
            rw [hB.1]
          exact V.ret [1, 0, 0, 0] [{}, {}] [fun _ => {}, fun _ => {}] [] [5, 6] [] (.tuple #[ag (DVault.mk ⟨([] : List DThing), {}⟩), iv (-1), SV.v ({}), iv 1]) (fun _ _ => by kernel_rfl) (fun _ _ => (Eq.trans (by kernel_rfl) (cong2 (fun (x1 : Int) (x3 : Int) => (.tuple #[.agg #[SV.v ({})], iv x1, SV.v ({}), iv x3] : Value)) e1 e3)).trans (by kernel_rfl)) (fun _ _ => trivial)
        · skip
          refine V.go [.a (k0 + 1) (by omega) (by omega),
            .k (iv (k0 + 1))] (fun _ _ => by kernel_rfl) fun _ _ G10 => ?_
          intro S10 t10
          refine V.rnd hZ1 (k0 + 1) [0, 1, 2, 3] (by kernel_rfl) ?_ ?_
          · skip
            refine ⟨?_, ?_, ?_⟩
            · show 0 ≤ (k0 + 1)
              first | omega | rfl | (simp; done) | (subst_vars; simp; done)
            · show (k0 + 1) ≤ (texts.length : Int)
              first | omega | rfl | (simp; done) | (subst_vars; simp; done)
            · show ∀ i, i < (k0 + 1).toNat → Tm.isLeaf (Tm.leafAt texts values blinds i)
              exact Tm.leaf_step hf3 (by omega) rfl (by assumption) (by assumption) (by assumption) q6
          · show ((texts.length : Int) - (k0 + 1)).toNat < ((texts.length : Int) - k0).toNat
            omega
      · skip
        have hOK : Tm.argsOK v texts values blinds := ⟨hS, hn.1, hn.2.1, hn.2.2, fun i hi => hf3 i (by omega)⟩
        have hTB := Tm.tot_bound hOK
        refine nm (2 * (texts.length : Int) : Int) fun n1 hn1 => ?_
        refine nm ((v.length : Int) + n1 : Int) fun n2 hn2 => ?_
        refine nm ((decide (64 < (texts.length : Int))) || (decide (2000 < n2 - 1)) : Bool) fun p4 hp4 => ?_
        refine V.go [.k (iv (texts.length : Int)),
          .k (bv (decide (64 < (texts.length : Int)))),
          .k (bv (decide (64 < (texts.length : Int)))),
          .k (pp ((G1 0).b) 0),
          .ld 0 0 false (fun _ => [vs.v]),
          .ln (kf false (.f 3) v (fun _ => vs)),
          .k (iv (texts.length : Int)),
          .arg (gF (b := decide (64 < (texts.length : Int))) iDF) (2 * (texts.length : Int)) n1 hn1 (fun hg => by omega),
          .arg (gF (b := decide (64 < (texts.length : Int))) iDF) ((v.length : Int) + n1) n2 hn2 (fun hg => by omega),
          .arg (gF (b := decide (64 < (texts.length : Int))) iDF) (n2 - 1) (n2 - 1) rfl (fun hg => by omega),
          .k (bv (decide (2000 < n2 - 1))),
          .orn g0 false (decide (64 < (texts.length : Int))) (decide (2000 < n2 - 1)) p4 hp4] (fun _ _ => by kernel_rfl) fun _ _ G11 => ?_
        intro S11 t11
        refine V.cond (b := p4) (iN hp4 (iOT iDT iDT)) (iN hp4 (iOF iDF iDF)) (by kernel_rfl) (fun q7 => ?_) (fun q8 => ?_)
        · skip
          have hB := Tm.build_full hOK (by omega)
          refine V.go [.k (ag (DVault.mk ⟨[], {}⟩)),
            .st 1 (fun _ => .blk ((G1 1).b) (ca (DVault.mk ⟨[], {}⟩)) 24),
            .k (iv (-1)),
            .k (.slice none 0 0),
            .k (iv 6)] (fun _ _ => by kernel_rfl) fun _ _ G12 => ?_
          intro S12 t12
          refine V.nilF (α := DThing) ?_
          refine V.nilF (α := Int) ?_
          have e0 : ([] : List DThing) = Tm.buildT v texts values blinds := by
            rw [hB.2.1]
          rw [← e0]
          have e2 : ([] : List Int) = Tm.buildL v texts values blinds := by
            rw [hB.2.2.2]
          rw [← e2]
          have e1 : (-1 : Int) = Tm.buildR v texts values blinds := by
            rw [hB.2.2.1]
          have e3 : (6 : Int) = Tm.buildE v texts values blinds := by
            rw [hB.1]
          exact V.ret [1, 0, 0, 0] [{}, {}] [fun _ => {}, fun _ => {}] [] [4, 5] [] (.tuple #[ag (DVault.mk ⟨([] : List DThing), {}⟩), iv (-1), SV.v ({}), iv 6]) (fun _ _ => by kernel_rfl) (fun _ _ => (Eq.trans (by kernel_rfl) (cong2 (fun (x1 : Int) (x3 : Int) => (.tuple #[.agg #[SV.v ({})], iv x1, SV.v ({}), iv x3] : Value)) e1 e3)).trans (by kernel_rfl)) (fun _ _ => trivial)
        · skip
          have hB := Tm.build_ok hOK (by omega)
          refine V.go [.k (pp ((G1 0).b) 0),
            .ld 0 0 false (fun _ => [vs.v]),
            .ct g0 2 43 false [] [2] [(kf false (.f 3) v (fun _ => vs)).a] (fun _ G => clone_ct v vs (by omega)),
            .v fun G => ag (DVault.mk ⟨v, (G 2).ss 0⟩),
            .v fun G => ag (Dbuilder.mk (DVault.mk ⟨v, (G 2).ss 0⟩)),
            .nb 5 3 (fun b => pp b 0) 68 (fun _ => ca (Dbuilder.mk (DVault.mk ⟨[], {}⟩))),
            .st 3 (fun G => .blk ((G 5).b) (ca (Dbuilder.mk (DVault.mk ⟨v, (G 2).ss 0⟩))) 68)] (fun _ _ => by kernel_rfl) fun _ _ G13 => ?_
          intro S13 t13
          refine V.go [.k (textss.v),
            .ln (kf false (.f 0) texts (fun _ => textss)),
            .k (iv 0)] (fun _ _ => by kernel_rfl) fun _ _ G14 => ?_
          intro S14 t14
          refine V.on (α := Int) 4 3 (by kernel_rfl) ?_
          refine V.loop (γ := List Int × SV × Int × List DThing × SV) (fun ⟨leaves, leavess, k1, b, bs⟩ => ⟨[(1, textss.v), (2, valuess.v), (3, blindss.v), (8, pp ((G1 1).b) 0), (10, leavess.v), (14, pp ((G13 5).b) 0), (84, iv (texts.length : Int)), (85, iv k1)], [fs false texts textss, fs false values valuess, fs false blinds blindss, fs false v vs], [.blk ((G1 0).b) (ca (DVault.mk ⟨v, vs⟩)) 24, .blk ((G1 1).b) (ca (DVault.mk ⟨[], {}⟩)) 24, os true 44 b bs, .blk ((G13 5).b) (ca (Dbuilder.mk (DVault.mk ⟨b, bs⟩))) 68, os true 3 leaves leavess, .no, .no]⟩) (fun ⟨leaves, leavess, k1, b, bs⟩ => (0 ≤ k1) ∧ (k1 ≤ (texts.length : Int)) ∧ (leaves = Tm.idsN v.length k1.toNat) ∧ (b = v ++ Tm.leavesN texts values blinds k1.toNat)) (fun ⟨leaves, leavess, k1, b, bs⟩ => ((texts.length : Int) - k1).toNat) (([] : List Int), {}, 0, v, (G13 2).ss 0) (by kernel_rfl) [0, 1, 2, 3] (by kernel_rfl) ?_ ?_
          · skip
            refine ⟨?_, ?_, ?_, ?_⟩
            · show 0 ≤ (0 : Int)
              first | omega | rfl | (simp; done) | (subst_vars; simp; done)
            · show (0 : Int) ≤ (texts.length : Int)
              first | omega | rfl | (simp; done) | (subst_vars; simp; done)
            · show ([] : List Int) = Tm.idsN v.length (0 : Int).toNat
              rfl
            · show v = v ++ Tm.leavesN texts values blinds (0 : Int).toNat
              simp [Tm.leavesN]
          · rintro ⟨leaves, leavess, k1, b, bs⟩ hF2 kw16 Z2 hZ2
            have hF2 : (0 ≤ k1) ∧ (k1 ≤ (texts.length : Int)) ∧ (leaves = Tm.idsN v.length k1.toNat) ∧ (b = v ++ Tm.leavesN texts values blinds k1.toNat) := hF2
            obtain ⟨hf4, hf5, hf6, hf7⟩ := hF2
            obtain ⟨-, -, -, -, ⟨kl6, -⟩, ⟨kl7, -⟩, -⟩ : Lq texts textss.v ∧ Lq values valuess.v ∧ Lq blinds blindss.v ∧ Lq v vs.v ∧ Lq b bs.v ∧ Lq leaves leavess.v ∧ True := kn kw16 (by kernel_rfl)
            clear kw16
            have hlv : leaves.length = k1.toNat := by rw [hf6]; simp
            have hbl : b.length = v.length + k1.toNat := by rw [hf7]; simp
            refine V.go [.k (bv (decide (k1 < (texts.length : Int))))] (fun _ _ => by kernel_rfl) fun _ _ G15 => ?_
            intro S15 t15
            refine V.cond (b := decide (k1 < (texts.length : Int))) iDT iDF (by kernel_rfl) (fun q9 => ?_) (fun q10 => ?_)
            · skip
              refine V.go [.k (iv k1),
                .k (iv k1)] (fun _ _ => by kernel_rfl) fun _ _ G16 => ?_
              intro S16 t16
              refine nm (texts.getD k1.toNat default : ByteArray) fun x2 hx2 => ?_
              refine nm (values.getD k1.toNat default : Int) fun v3 hv3 => ?_
              refine nm (blinds.getD k1.toNat default : Int) fun v4 hv4 => ?_
              refine nm (leaves ++ [(b.length : Int)] : List Int) fun l1 hl1 => ?_
              have hl1n := congrArg List.length hl1; try simp only [List.length_append, List.length_cons, List.length_nil, List.length_replicate, List.length_set, List.length_take, List.length_drop, List.length_map, List.length_reverse, List.length_range] at hl1n
              refine V.reg [.k (leavess.v),
                .k (textss.v),
                .k (iv k1),
                .ix g0 (kf false (.f 0) texts (fun _ => textss)) k1 (fun _ => ⟨by omega, by omega⟩),
                .le g0 (kf false (.f 0) texts (fun _ => textss)) k1 none false x2 hx2 (fun _ => ⟨by omega, by omega⟩) false (fun _ => [tv x2]),
                .k (valuess.v),
                .k (iv k1),
                .ix g0 (kf false (.f 1) values (fun _ => valuess)) k1 (fun _ => ⟨by omega, by omega⟩),
                .le g0 (kf false (.f 1) values (fun _ => valuess)) k1 none false v3 hv3 (fun _ => ⟨by omega, by omega⟩) false (fun _ => [iv v3]),
                .k (blindss.v),
                .k (iv k1),
                .ix g0 (kf false (.f 2) blinds (fun _ => blindss)) k1 (fun _ => ⟨by omega, by omega⟩),
                .le g0 (kf false (.f 2) blinds (fun _ => blindss)) k1 none false v4 hv4 (fun _ => ⟨by omega, by omega⟩) false (fun _ => [iv v4]),
                .cp g0 13 42 [] (fun _ G => tleaf_ct x2 v3 v4),
                .ct g0 14 44 false [3, 2] [] [] (fun _ G => add_ct ((G13 5).b) b bs x2 v3 v4 (-1 : Int) (-1 : Int) (by omega)),
                .nr 15 true 3 [(b.length : Int)] [] (fun _ _ _ _ _ => trivial) (fun _ => #[iv (b.length : Int)]),
                .ap 16 4 3 8 false true leaves (fun _ => leavess) (kf true (.g 15 0) [(b.length : Int)] (fun G => ⟨atB (G 15).b, 1, 1⟩)) true l1 hl1 (by (try simp only [List.length_append, List.length_cons, List.length_nil, List.length_replicate, List.length_set, List.length_take, List.length_drop, List.length_map, List.length_reverse, List.length_range]); omega) (fun h => by cases h) (.inr fun _ _ => trivial),
                .v fun G => ((G 16).s).v] (fun _ _ => by kernel_rfl) fun _ _ G17 kw19 => ?_
              intro S17 t17
              obtain ⟨⟨kl8, -⟩, -⟩ : Lq [(b.length : Int)] (SV.v ⟨atB (G17 15).b, 1, 1⟩) ∧ Lq (b ++ [DThing.mk x2 v3 v4 (-1 : Int) (-1 : Int)]) (((G17 14).ss 0).v) ∧ Lq l1 (((G17 16).s).v) ∧ True := kn kw19 (by kernel_rfl)
              clear kw19
              refine V.go [.a (k1 + 1) (by omega) (by omega),
                .k (iv (k1 + 1))] (fun _ _ => by kernel_rfl) fun _ _ G18 => ?_
              intro S18 t18
              refine V.rnd hZ2 (l1, (G17 16).s, k1 + 1, b ++ [DThing.mk x2 v3 v4 (-1 : Int) (-1 : Int)], (G17 14).ss 0) [0, 1, 2, 3] (by kernel_rfl) ?_ ?_
              · skip
                refine ⟨?_, ?_, ?_, ?_⟩
                · show 0 ≤ (k1 + 1)
                  first | omega | rfl | (simp; done) | (subst_vars; simp; done)
                · show (k1 + 1) ≤ (texts.length : Int)
                  first | omega | rfl | (simp; done) | (subst_vars; simp; done)
                · show l1 = Tm.idsN v.length (k1 + 1).toNat
                  exact Tm.ids_step hf6 (by omega) rfl hl1 (by omega)
                · show (b ++ [DThing.mk x2 v3 v4 (-1 : Int) (-1 : Int)]) = v ++ Tm.leavesN texts values blinds (k1 + 1).toNat
                  exact Tm.leaves_step hf7 (by omega) rfl (by assumption) (by assumption) (by assumption) rfl
              · show ((texts.length : Int) - (k1 + 1)).toNat < ((texts.length : Int) - k1).toNat
                omega
            · skip
              have hk1 : k1.toNat = texts.length := by omega
              rw [hk1] at hf6 hf7
              have hbl2 : b.length = v.length + texts.length := by rw [hf7]; simp
              have hll2 : leaves.length = texts.length := by rw [hf6]; simp
              refine V.go [.k (leavess.v),
                .ct g0 1 45 false [] [5] [(ko true 3 4 leaves (fun _ => leavess)).a] (fun _ G => clonei_ct leaves leavess (by omega)),
                .v fun G => ((G 1).ss 0).v] (fun _ _ => by kernel_rfl) fun _ _ G19 => ?_
              intro S19 t19
              refine V.frz 5 true 3 leaves ((G19 1).ss 0) (by kernel_rfl) ?_
              refine V.loop (γ := List Int × SV × List DThing × SV) (fun ⟨level, levels, b_1, b_1s⟩ => ⟨[(8, pp ((G1 1).b) 0), (10, leavess.v), (14, pp ((G13 5).b) 0), (16, levels.v)], [fs true level levels, fs false v vs], [.blk ((G1 0).b) (ca (DVault.mk ⟨v, vs⟩)) 24, .blk ((G1 1).b) (ca (DVault.mk ⟨[], {}⟩)) 24, os true 44 b_1 b_1s, .blk ((G13 5).b) (ca (Dbuilder.mk (DVault.mk ⟨b_1, b_1s⟩))) 68, os true 3 leaves leavess, .no, .no]⟩) (fun ⟨level, levels, b_1, b_1s⟩ => (Tm.Lev b_1 level (Tm.totV values texts.length) (Tm.totV blinds texts.length)) ∧ (Tm.up texts.length (v ++ Tm.leavesN texts values blinds texts.length) (Tm.idsN v.length texts.length) = Tm.up level.length b_1 level) ∧ (b_1.length + level.length = v.length + 2 * texts.length) ∧ (1 ≤ level.length)) (fun ⟨level, levels, b_1, b_1s⟩ => level.length) (leaves, (G19 1).ss 0, b, bs) (by kernel_rfl) [4, 3] (by kernel_rfl) ?_ ?_
              · skip
                refine ⟨?_, ?_, ?_, ?_⟩
                · show Tm.Lev b leaves (Tm.totV values texts.length) (Tm.totV blinds texts.length)
                  rw [hf6, hf7]; exact Tm.lev_start hOK
                · show Tm.up texts.length (v ++ Tm.leavesN texts values blinds texts.length) (Tm.idsN v.length texts.length) = Tm.up leaves.length b leaves
                  rw [hll2, hf6, hf7]
                · show b.length + leaves.length = v.length + 2 * texts.length
                  first | omega | rfl | (simp; done) | (subst_vars; simp; done)
                · show 1 ≤ leaves.length
                  first | omega | rfl | (simp; done) | (subst_vars; simp; done)
              · rintro ⟨level, levels, b_1, b_1s⟩ hF3 kw22 Z3 hZ3
                have hF3 : (Tm.Lev b_1 level (Tm.totV values texts.length) (Tm.totV blinds texts.length)) ∧ (Tm.up texts.length (v ++ Tm.leavesN texts values blinds texts.length) (Tm.idsN v.length texts.length) = Tm.up level.length b_1 level) ∧ (b_1.length + level.length = v.length + 2 * texts.length) ∧ (1 ≤ level.length) := hF3
                obtain ⟨hf8, hf9, hf10, hf11⟩ := hF3
                obtain ⟨⟨kl9, -⟩, -, ⟨kl10, -⟩, -, -⟩ : Lq level levels.v ∧ Lq v vs.v ∧ Lq b_1 b_1s.v ∧ Lq leaves leavess.v ∧ True := kn kw22 (by kernel_rfl)
                clear kw22
                refine V.go [.k (levels.v),
                  .ln (kf true (.f 0) level (fun _ => levels)),
                  .k (bv (decide (1 < (level.length : Int))))] (fun _ _ => by kernel_rfl) fun _ _ G20 => ?_
                intro S20 t20
                refine V.cond (b := decide (1 < (level.length : Int))) iDT iDF (by kernel_rfl) (fun q11 => ?_) (fun q12 => ?_)
                · skip
                  refine V.go [.k (.slice none 0 0)] (fun _ _ => by kernel_rfl) fun _ _ G21 => ?_
                  intro S21 t21
                  refine V.go [.k (iv 0)] (fun _ _ => by kernel_rfl) fun _ _ G22 => ?_
                  intro S22 t22
                  refine V.on (α := Int) 6 3 (by kernel_rfl) ?_
                  refine V.loop (γ := List Int × SV × Int × List DThing × SV) (fun ⟨next, nexts, i, b_2, b_2s⟩ => ⟨[(8, pp ((G1 1).b) 0), (10, leavess.v), (14, pp ((G13 5).b) 0), (16, levels.v), (17, nexts.v), (18, iv i)], [fs true level levels, fs false v vs], [.blk ((G1 0).b) (ca (DVault.mk ⟨v, vs⟩)) 24, .blk ((G1 1).b) (ca (DVault.mk ⟨[], {}⟩)) 24, os true 44 b_2 b_2s, .blk ((G13 5).b) (ca (Dbuilder.mk (DVault.mk ⟨b_2, b_2s⟩))) 68, os true 3 leaves leavess, .no, os true 3 next nexts]⟩) (fun ⟨next, nexts, i, b_2, b_2s⟩ => (Tm.Lev b_2 (next ++ level.drop i.toNat) (Tm.totV values texts.length) (Tm.totV blinds texts.length)) ∧ (Tm.pairUp b_1 level = ((Tm.pairUp b_2 (level.drop i.toNat)).1, next ++ (Tm.pairUp b_2 (level.drop i.toNat)).2)) ∧ (0 ≤ i) ∧ (i ≤ level.length) ∧ (i = 2 * next.length) ∧ ((b_2.length : Int) = b_1.length + next.length)) (fun ⟨next, nexts, i, b_2, b_2s⟩ => ((level.length : Int) - i).toNat) (([] : List Int), {}, 0, b_1, b_1s) (by kernel_rfl) [0, 1] (by kernel_rfl) ?_ ?_
                  · skip
                    refine ⟨?_, ?_, ?_, ?_, ?_, ?_⟩
                    · show Tm.Lev b_1 (([] : List Int) ++ level.drop (0 : Int).toNat) (Tm.totV values texts.length) (Tm.totV blinds texts.length)
                      simpa using hf8
                    · show Tm.pairUp b_1 level = ((Tm.pairUp b_1 (level.drop (0 : Int).toNat)).1, ([] : List Int) ++ (Tm.pairUp b_1 (level.drop (0 : Int).toNat)).2)
                      simp
                    · show 0 ≤ (0 : Int)
                      first | omega | rfl | (simp; done) | (subst_vars; simp; done)
                    · show (0 : Int) ≤ level.length
                      first | omega | rfl | (simp; done) | (subst_vars; simp; done)
                    · show (0 : Int) = 2 * ([] : List Int).length
                      simp
                    · show (b_1.length : Int) = b_1.length + ([] : List Int).length
                      simp
                  · rintro ⟨next, nexts, i, b_2, b_2s⟩ hF4 kw26 Z4 hZ4
                    have hF4 : (Tm.Lev b_2 (next ++ level.drop i.toNat) (Tm.totV values texts.length) (Tm.totV blinds texts.length)) ∧ (Tm.pairUp b_1 level = ((Tm.pairUp b_2 (level.drop i.toNat)).1, next ++ (Tm.pairUp b_2 (level.drop i.toNat)).2)) ∧ (0 ≤ i) ∧ (i ≤ level.length) ∧ (i = 2 * next.length) ∧ ((b_2.length : Int) = b_1.length + next.length) := hF4
                    obtain ⟨hf12, hf13, hf14, hf15, hf16, hf17⟩ := hF4
                    obtain ⟨-, -, ⟨kl11, -⟩, -, ⟨kl12, -⟩, -⟩ : Lq level levels.v ∧ Lq v vs.v ∧ Lq b_2 b_2s.v ∧ Lq leaves leavess.v ∧ Lq next nexts.v ∧ True := kn kw26 (by kernel_rfl)
                    clear kw26
                    refine V.go [.k (iv i),
                      .a (i + 1) (by omega) (by omega),
                      .k (levels.v),
                      .ln (kf true (.f 0) level (fun _ => levels)),
                      .k (bv (decide (i + 1 < (level.length : Int))))] (fun _ _ => by kernel_rfl) fun _ _ G23 => ?_
                    intro S23 t23
                    refine V.cond (b := decide (i + 1 < (level.length : Int))) iDT iDF (by kernel_rfl) (fun q13 => ?_) (fun q14 => ?_)
                    · skip
                      refine nm (level.getD i.toNat default : Int) fun v5 hv5 => ?_
                      refine nm (level.getD (i + 1).toNat default : Int) fun v6 hv6 => ?_
                      refine nm (next ++ [(b_2.length : Int)] : List Int) fun l2 hl2 => ?_
                      have hl2n := congrArg List.length hl2; try simp only [List.length_append, List.length_cons, List.length_nil, List.length_replicate, List.length_set, List.length_take, List.length_drop, List.length_map, List.length_reverse, List.length_range] at hl2n
                      have hd2 := Tm.drop2 (i := i) (by omega) rfl (by omega) hv5 hv6
                      have h2 := Tm.Lev.two hf12 hd2 (by omega) (by omega)
                      refine V.reg [.k (nexts.v),
                        .k (levels.v),
                        .k (iv i),
                        .ix g0 (kf true (.f 0) level (fun _ => levels)) i (fun _ => ⟨by omega, by omega⟩),
                        .le g0 (kf true (.f 0) level (fun _ => levels)) i none false v5 hv5 (fun _ => ⟨by omega, by omega⟩) false (fun _ => [iv v5]),
                        .k (levels.v),
                        .k (iv i),
                        .a (i + 1) (by omega) (by omega),
                        .ix g0 (kf true (.f 0) level (fun _ => levels)) (i + 1) (fun _ => ⟨by omega, by omega⟩),
                        .le g0 (kf true (.f 0) level (fun _ => levels)) (i + 1) none false v6 hv6 (fun _ => ⟨by omega, by omega⟩) false (fun _ => [iv v6]),
                        .ct g0 10 46 false [3, 2] [] [] (fun _ G => bpair_ct ((G13 5).b) b_2 b_2s v5 v6 (by omega) h2.1 h2.2.1 h2.2.2.1 h2.2.2.2),
                        .nr 11 true 3 [(b_2.length : Int)] [] (fun _ _ _ _ _ => trivial) (fun _ => #[iv (b_2.length : Int)]),
                        .ap 12 6 3 8 false true next (fun _ => nexts) (kf true (.g 11 0) [(b_2.length : Int)] (fun G => ⟨atB (G 11).b, 1, 1⟩)) true l2 hl2 (by (try simp only [List.length_append, List.length_cons, List.length_nil, List.length_replicate, List.length_set, List.length_take, List.length_drop, List.length_map, List.length_reverse, List.length_range]); omega) (fun h => by cases h) (.inr fun _ _ => trivial),
                        .v fun G => ((G 12).s).v] (fun _ _ => by kernel_rfl) fun _ _ G24 kw28 => ?_
                      intro S24 t24
                      obtain ⟨⟨kl13, -⟩, -⟩ : Lq [(b_2.length : Int)] (SV.v ⟨atB (G24 11).b, 1, 1⟩) ∧ Lq (b_2 ++ [Tm.pairX b_2 v5 v6]) (((G24 10).ss 0).v) ∧ Lq leaves leavess.v ∧ Lq l2 (((G24 12).s).v) ∧ True := kn kw28 (by kernel_rfl)
                      clear kw28
                      refine V.go [.k (iv i),
                        .a (i + 2) (by omega) (by omega),
                        .k (iv (i + 2))] (fun _ _ => by kernel_rfl) fun _ _ G25 => ?_
                      intro S25 t25
                      have hps := Tm.pair_step (i := i) (i' := i + 2) (j := i + 1) hf12 hf13 (by omega) rfl (by omega) hv5 hv6 rfl rfl rfl hl2
                      refine V.rnd hZ4 (l2, (G24 12).s, i + 2, b_2 ++ [Tm.pairX b_2 v5 v6], (G24 10).ss 0) [0, 1] (by kernel_rfl) ?_ ?_
                      · skip
                        refine ⟨?_, ?_, ?_, ?_, ?_, ?_⟩
                        · show Tm.Lev (b_2 ++ [Tm.pairX b_2 v5 v6]) (l2 ++ level.drop (i + 2).toNat) (Tm.totV values texts.length) (Tm.totV blinds texts.length)
                          exact hps.1
                        · show Tm.pairUp b_1 level = ((Tm.pairUp (b_2 ++ [Tm.pairX b_2 v5 v6]) (level.drop (i + 2).toNat)).1, l2 ++ (Tm.pairUp (b_2 ++ [Tm.pairX b_2 v5 v6]) (level.drop (i + 2).toNat)).2)
                          exact hps.2
                        · show 0 ≤ (i + 2)
                          omega
                        · show (i + 2) ≤ level.length
                          omega
                        · show (i + 2) = 2 * l2.length
                          omega
                        · show ((b_2 ++ [Tm.pairX b_2 v5 v6]).length : Int) = b_1.length + l2.length
                          rw [hl2]; simp; omega
                      · show ((level.length : Int) - (i + 2)).toNat < ((level.length : Int) - i).toNat
                        omega
                    · skip
                      refine nm ((level.length : Int) % 2 : Int) fun n3 hn3 => ?_
                      refine V.go [.k (levels.v),
                        .ln (kf true (.f 0) level (fun _ => levels)),
                        .rem g0 (level.length : Int) 2 n3 hn3 (fun _ => by omega),
                        .k (bv (decide (n3 = 1)))] (fun _ _ => by kernel_rfl) fun _ _ G26 => ?_
                      intro S26 t26
                      refine V.cond (b := decide (n3 = 1)) iDT iDF (by kernel_rfl) (fun q15 => ?_) (fun q16 => ?_)
                      · skip
                        refine nm ((level.length : Int) - 1 : Int) fun n4 hn4 => ?_
                        refine nm (level.getD n4.toNat default : Int) fun v7 hv7 => ?_
                        refine nm (next ++ [v7] : List Int) fun l3 hl3 => ?_
                        have hl3n := congrArg List.length hl3; try simp only [List.length_append, List.length_cons, List.length_nil, List.length_replicate, List.length_set, List.length_take, List.length_drop, List.length_map, List.length_reverse, List.length_range] at hl3n
                        refine V.reg [.k (nexts.v),
                          .k (levels.v),
                          .k (levels.v),
                          .ln (kf true (.f 0) level (fun _ => levels)),
                          .ar ((level.length : Int) - 1) n4 hn4 (by omega) (by omega),
                          .ix g0 (kf true (.f 0) level (fun _ => levels)) n4 (fun _ => ⟨by omega, by omega⟩),
                          .le g0 (kf true (.f 0) level (fun _ => levels)) n4 none false v7 hv7 (fun _ => ⟨by omega, by omega⟩) false (fun _ => [iv v7]),
                          .nr 7 true 3 [v7] [] (fun _ _ _ _ _ => trivial) (fun _ => #[iv v7]),
                          .ap 8 6 3 8 false true next (fun _ => nexts) (kf true (.g 7 0) [v7] (fun G => ⟨atB (G 7).b, 1, 1⟩)) true l3 hl3 (by (try simp only [List.length_append, List.length_cons, List.length_nil, List.length_replicate, List.length_set, List.length_take, List.length_drop, List.length_map, List.length_reverse, List.length_range]); omega) (fun h => by cases h) (.inr fun _ _ => trivial),
                          .v fun G => ((G 8).s).v] (fun _ _ => by kernel_rfl) fun _ _ G27 kw31 => ?_
                        intro S27 t27
                        obtain ⟨⟨kl14, -⟩, -⟩ : Lq [v7] (SV.v ⟨atB (G27 7).b, 1, 1⟩) ∧ Lq b_2 b_2s.v ∧ Lq leaves leavess.v ∧ Lq l3 (((G27 8).s).v) ∧ True := kn kw31 (by kernel_rfl)
                        clear kw31
                        have hpe := Tm.pair_odd hf13 (by omega) (by omega) (by omega) hv7 hl3
                        have hle := Tm.lev_odd hf12 (by omega) (by omega) (by omega) hv7 hl3
                        refine V.go [.k (((G27 8).s).v),
                          .k (((G27 8).s).v)] (fun _ _ => by kernel_rfl) fun _ _ G28 => ?_
                        intro S28 t28
                        refine V.frz 6 true 3 l3 ((G27 8).s) (by kernel_rfl) ?_
                        refine V.rnd hZ3 (l3, (G27 8).s, b_2, b_2s) [3, 1] (by kernel_rfl) ?_ ?_
                        · skip
                          refine ⟨?_, ?_, ?_, ?_⟩
                          · show Tm.Lev b_2 l3 (Tm.totV values texts.length) (Tm.totV blinds texts.length)
                            exact hle
                          · show Tm.up texts.length (v ++ Tm.leavesN texts values blinds texts.length) (Tm.idsN v.length texts.length) = Tm.up l3.length b_2 l3
                            rw [hf9]; exact Tm.up_step (by omega) hpe
                          · show b_2.length + l3.length = v.length + 2 * texts.length
                            omega
                          · show 1 ≤ l3.length
                            omega
                        · show l3.length < level.length
                          omega
                      · skip
                        have hpe := Tm.pair_end hf13 (by omega)
                        have hle := Tm.lev_end hf12 (by omega)
                        refine V.go [.k (nexts.v),
                          .k (nexts.v)] (fun _ _ => by kernel_rfl) fun _ _ G29 => ?_
                        intro S29 t29
                        refine V.frz 6 true 3 next nexts (by kernel_rfl) ?_
                        refine V.rnd hZ3 (next, nexts, b_2, b_2s) [2, 1] (by kernel_rfl) ?_ ?_
                        · skip
                          refine ⟨?_, ?_, ?_, ?_⟩
                          · show Tm.Lev b_2 next (Tm.totV values texts.length) (Tm.totV blinds texts.length)
                            exact hle
                          · show Tm.up texts.length (v ++ Tm.leavesN texts values blinds texts.length) (Tm.idsN v.length texts.length) = Tm.up next.length b_2 next
                            rw [hf9]; exact Tm.up_step (by omega) hpe
                          · show b_2.length + next.length = v.length + 2 * texts.length
                            omega
                          · show 1 ≤ next.length
                            omega
                        · show next.length < level.length
                          omega
                · skip
                  refine nm (level.getD (0 : Int).toNat default : Int) fun v8 hv8 => ?_
                  refine V.go [.k (pp ((G13 5).b) 0),
                    .ld 3 0 true (fun _ => Dat.cells (DVault.mk ⟨b_1, b_1s⟩)),
                    .k (levels.v),
                    .ix g0 (kf true (.f 0) level (fun _ => levels)) 0 (fun _ => ⟨by omega, by omega⟩),
                    .le g0 (kf true (.f 0) level (fun _ => levels)) (0 : Int) none false v8 hv8 (fun _ => ⟨by omega, by omega⟩) false (fun _ => [iv v8]),
                    .k (leavess.v),
                    .st 1 (fun _ => .blk ((G1 1).b) (ca (DVault.mk ⟨b_1, b_1s⟩)) 24),
                    .k (iv v8),
                    .k (leavess.v),
                    .k (iv 0)] (fun _ _ => by kernel_rfl) fun _ _ G30 => ?_
                  intro S30 t30
                  refine V.frz 2 true 44 b_1 b_1s (by kernel_rfl) ?_
                  refine V.frz 4 true 3 leaves leavess (by kernel_rfl) ?_
                  have e0 : b_1 = Tm.buildT v texts values blinds := by
                    rw [hB.2.1]
                    unfold Tm.built; rw [hf9, Tm.up_one (by omega)]
                  subst e0
                  have e2 : leaves = Tm.buildL v texts values blinds := by
                    rw [hB.2.2.2]
                    rw [hf6]
                  subst e2
                  have e1 : v8 = Tm.buildR v texts values blinds := by
                    rw [hB.2.2.1]
                    unfold Tm.built; rw [hf9, Tm.up_one (by omega)]; assumption
                  have e3 : (0 : Int) = Tm.buildE v texts values blinds := by
                    rw [hB.1]
                  exact V.ret [1, 0, 0, 0] [b_1s, leavess] [fun _ => {}, fun _ => {}] [] [2, 3] [] (.tuple #[ag (DVault.mk ⟨(Tm.buildT v texts values blinds), b_1s⟩), iv v8, leavess.v, iv 0]) (fun _ _ => by kernel_rfl) (fun _ _ => (Eq.trans (by kernel_rfl) (cong2 (fun (x1 : Int) (x3 : Int) => (.tuple #[.agg #[b_1s.v], iv x1, leavess.v, iv x3] : Value)) e1 e3)).trans (by kernel_rfl)) (fun _ _ => trivial)

end Kb
