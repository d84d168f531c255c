/- The law of hides. -/
import Derived.Test.YtaolgnmpgnamnaaVs
import Derived.Test.YtaolgnmpgnamnaaRu
set_option linter.unusedVariables false
set_option linter.unusedSimpArgs false
namespace Kb
open Go Go.Proofs
set_option maxRecDepth 10000 in
theorem rhides_ct (v : List DThing) (vs : SV) (texts : List ByteArray) (textss : SV) (values : List Int) (valuess : SV) (blinds : List Int) (blindss : SV) (others : List ByteArray) (otherss : SV) (numbers : List Int) (numberss : SV) (owns : List Int) (ownss : SV) (at_ : List UInt8) (at_s : SV) :
    Cp Try.prog 11 #[ag (DVault.mk ⟨v, vs⟩), textss.v, valuess.v, blindss.v, otherss.v, numberss.v, ownss.v, at_s.v] [fs true v vs, fs true texts textss, fs true values valuess, fs true blinds blindss, fs true others otherss, fs true numbers numberss, fs true owns ownss, fs true at_ at_s] (bv true) := by
  refine V.fn mo Try.func11 262 3 (by kernel_rfl) fun w H ε k0 => ?_
  obtain ⟨⟨kl1, -⟩, ⟨kl2, -⟩, ⟨kl3, -⟩, ⟨kl4, -⟩, ⟨kl5, -⟩, ⟨kl6, -⟩, ⟨kl7, -⟩, ⟨kl8, -⟩, -⟩ : Lq v vs.v ∧ Lq texts textss.v ∧ Lq values valuess.v ∧ Lq blinds blindss.v ∧ Lq others otherss.v ∧ Lq numbers numberss.v ∧ Lq owns ownss.v ∧ Lq at_ at_s.v ∧ True := kn k0 (by kernel_rfl)
  clear k0
  refine V.go [.nb 0 0 (fun b => pp b 0) 24 (fun _ => ca (DVault.mk ⟨v, vs⟩)),
    .k (bv false)] (fun _ _ => by kernel_rfl) fun _ _ G1 => ?_
  intro S1 t1
  refine V.go [.cp g0 0 28 [] (fun _ G => sane_ct ),
    .k (bv true)] (fun _ _ => by kernel_rfl) fun _ _ G2 => ?_
  intro S2 t2
  refine nm ((!(decide (Tm.fewP v (60 : Int)))) || (!(decide (Tm.fewS texts (20 : Int)))) : Bool) fun p1 hp1 => ?_
  refine nm ((p1 || (!(decide (Tm.fewS others (20 : Int))))) || (!(decide ((texts.length : Int) = (others.length : Int)))) : Bool) fun p2 hp2 => ?_
  refine nm ((p2 || (decide (20 < (at_.length : Int)))) || (decide (20 < (values.length : Int))) : Bool) fun p3 hp3 => ?_
  refine nm ((p3 || (decide (20 < (numbers.length : Int)))) || (decide (20 < (blinds.length : Int))) : Bool) fun p4 hp4 => ?_
  refine V.go [.ld 0 0 true (fun _ => Dat.cells (DVault.mk ⟨v, vs⟩)),
    .cp g0 1 14 [(kf false (.f 0) v (fun _ => vs)).a] (fun _ G => fewv_ct v vs (60 : Int)),
    .k (bv (!(decide (Tm.fewP v (60 : Int))))),
    .k (bv (!(decide (Tm.fewP v (60 : Int))))),
    .k (textss.v),
    .cp (gF (b := !(decide (Tm.fewP v (60 : Int)))) (iNF iDT)) 5 15 [(kf false (.f 1) texts (fun _ => textss)).a] (fun hg G => fews_ct texts textss (20 : Int)),
    .k (bv (!(decide (Tm.fewS texts (20 : Int))))),
    .orn g0 false (!(decide (Tm.fewP v (60 : Int)))) (!(decide (Tm.fewS texts (20 : Int)))) p1 hp1,
    .k (bv p1),
    .k (otherss.v),
    .cp (gF (b := p1) (iN hp1 (iOF (iNF iDT) (iNF iDT)))) 10 15 [(kf false (.f 4) others (fun _ => otherss)).a] (fun hg G => fews_ct others otherss (20 : Int)),
    .k (bv (!(decide (Tm.fewS others (20 : Int))))),
    .or g0 false p1 (!(decide (Tm.fewS others (20 : Int)))),
    .k (bv (p1 || (!(decide (Tm.fewS others (20 : Int)))))),
    .k (textss.v),
    .ln (kf false (.f 1) texts (fun _ => textss)),
    .k (otherss.v),
    .ln (kf false (.f 4) others (fun _ => otherss)),
    .k (bv (!(decide ((texts.length : Int) = (others.length : Int))))),
    .orn g0 false (p1 || (!(decide (Tm.fewS others (20 : Int))))) (!(decide ((texts.length : Int) = (others.length : Int)))) p2 hp2,
    .k (bv p2),
    .k (at_s.v),
    .ln (kf false (.f 7) at_ (fun _ => at_s)),
    .k (bv (decide (20 < (at_.length : Int)))),
    .or g0 false p2 (decide (20 < (at_.length : Int))),
    .k (bv (p2 || (decide (20 < (at_.length : Int))))),
    .k (valuess.v),
    .ln (kf false (.f 2) values (fun _ => valuess)),
    .k (bv (decide (20 < (values.length : Int)))),
    .orn g0 false (p2 || (decide (20 < (at_.length : Int)))) (decide (20 < (values.length : Int))) p3 hp3,
    .k (bv p3),
    .k (numberss.v),
    .ln (kf false (.f 5) numbers (fun _ => numberss)),
    .k (bv (decide (20 < (numbers.length : Int)))),
    .or g0 false p3 (decide (20 < (numbers.length : Int))),
    .k (bv (p3 || (decide (20 < (numbers.length : Int))))),
    .k (blindss.v),
    .ln (kf false (.f 3) blinds (fun _ => blindss)),
    .k (bv (decide (20 < (blinds.length : Int)))),
    .orn g0 false (p3 || (decide (20 < (numbers.length : Int)))) (decide (20 < (blinds.length : Int))) p4 hp4,
    .k (bv p4),
    .k (ownss.v),
    .ln (kf false (.f 6) owns (fun _ => ownss)),
    .k (bv (decide (20 < (owns.length : Int)))),
    .or g0 false p4 (decide (20 < (owns.length : Int)))] (fun _ _ => by kernel_rfl) fun _ _ G3 => ?_
  intro S3 t3
  refine V.cond (b := p4 || (decide (20 < (owns.length : Int)))) (iOT (iN hp4 (iOT (iOT (iN hp3 (iOT (iOT (iN hp2 (iOT (iOT (iN hp1 (iOT (iNT iDF) (iNT iDF))) (iNT iDF)) (iNT iDF))) iDT) iDT)) iDT) iDT)) iDT) (iOF (iN hp4 (iOF (iOF (iN hp3 (iOF (iOF (iN hp2 (iOF (iOF (iN hp1 (iOF (iNF iDT) (iNF iDT))) (iNF iDT)) (iNF iDT))) iDF) iDF)) iDF) iDF)) iDF) (by kernel_rfl) (fun q1 => ?_) (fun q2 => ?_)
  · skip
    refine V.go [.k (bv true),
      .k (bv true)] (fun _ _ => by kernel_rfl) fun _ _ G4 => ?_
    intro S4 t4
    exact V.ret [0] [] [] [] [] [] (bv true) (fun _ _ => by kernel_rfl) (fun _ _ => by kernel_rfl) (fun _ _ => trivial)
  · skip
    refine V.reg [.ld 0 0 true (fun _ => Dat.cells (DVault.mk ⟨v, vs⟩)),
      .k (textss.v),
      .k (valuess.v),
      .k (blindss.v),
      .ct g0 4 16 false [] [] [(kf false (.f 0) v (fun _ => vs)).a, (kf false (.f 1) texts (fun _ => textss)).a, (kf false (.f 2) values (fun _ => valuess)).a, (kf false (.f 3) blinds (fun _ => blindss)).a] (fun _ G => build_ct v vs texts textss values valuess blinds blindss),
      .v fun G => .tuple #[ag (DVault.mk ⟨Tm.buildT v texts values blinds, (G 4).ss 0⟩), iv (Tm.buildR v texts values blinds), ((G 4).ss 1).v, iv (Tm.buildE v texts values blinds)],
      .v fun G => ag (DVault.mk ⟨Tm.buildT v texts values blinds, (G 4).ss 0⟩),
      .k (iv (Tm.buildR v texts values blinds)),
      .v fun G => ((G 4).ss 1).v,
      .k (iv (Tm.buildE v texts values blinds)),
      .nb 10 1 (fun b => pp b 0) 24 (fun _ => ca (DVault.mk ⟨[], {}⟩)),
      .st 1 (fun G => .blk ((G 10).b) (ca (DVault.mk ⟨Tm.buildT v texts values blinds, (G 4).ss 0⟩)) 24),
      .k (iv (Tm.buildR v texts values blinds)),
      .v fun G => ((G 4).ss 1).v,
      .k (iv (Tm.buildE v texts values blinds))] (fun _ _ => by kernel_rfl) fun _ _ G5 kw5 => ?_
    intro S5 t5
    obtain ⟨⟨kl9, -⟩, ⟨kl10, -⟩, -⟩ : Lq (Tm.buildT v texts values blinds) (((G5 4).ss 0).v) ∧ Lq (Tm.buildL v texts values blinds) (((G5 4).ss 1).v) ∧ True := kn kw5 (by kernel_rfl)
    clear kw5
    refine V.reg [.ld 0 0 true (fun _ => Dat.cells (DVault.mk ⟨v, vs⟩)),
      .k (otherss.v),
      .k (numberss.v),
      .k (ownss.v),
      .ct g0 4 16 false [] [] [(kf false (.f 0) v (fun _ => vs)).a, (kf false (.f 4) others (fun _ => otherss)).a, (kf false (.f 5) numbers (fun _ => numberss)).a, (kf false (.f 6) owns (fun _ => ownss)).a] (fun _ G => build_ct v vs others otherss numbers numberss owns ownss),
      .v fun G => .tuple #[ag (DVault.mk ⟨Tm.buildT v others numbers owns, (G 4).ss 0⟩), iv (Tm.buildR v others numbers owns), ((G 4).ss 1).v, iv (Tm.buildE v others numbers owns)],
      .v fun G => ag (DVault.mk ⟨Tm.buildT v others numbers owns, (G 4).ss 0⟩),
      .k (iv (Tm.buildR v others numbers owns)),
      .v fun G => ((G 4).ss 1).v,
      .k (iv (Tm.buildE v others numbers owns)),
      .nb 10 2 (fun b => pp b 0) 24 (fun _ => ca (DVault.mk ⟨[], {}⟩)),
      .st 2 (fun G => .blk ((G 10).b) (ca (DVault.mk ⟨Tm.buildT v others numbers owns, (G 4).ss 0⟩)) 24),
      .k (iv (Tm.buildR v others numbers owns)),
      .v fun G => ((G 4).ss 1).v,
      .k (iv (Tm.buildE v others numbers owns))] (fun _ _ => by kernel_rfl) fun _ _ G6 kw6 => ?_
    intro S6 t6
    obtain ⟨⟨kl11, -⟩, ⟨kl12, -⟩, -⟩ : Lq (Tm.buildT v others numbers owns) (((G6 4).ss 0).v) ∧ Lq (Tm.buildL v others numbers owns) (((G6 4).ss 1).v) ∧ True := kn kw6 (by kernel_rfl)
    clear kw6
    refine V.reg [.k (((G5 4).ss 1).v),
      .k (at_s.v),
      .ct g0 2 39 false [] [] [(kf true (.f 9) (Tm.buildL v texts values blinds) (fun _ => (G5 4).ss 1)).a, (kf false (.f 7) at_ (fun _ => at_s)).a] (fun _ G => places_ct (Tm.buildL v texts values blinds) ((G5 4).ss 1) at_ at_s (by omega)),
      .v fun G => .tuple #[((G 2).ss 0).v, ((G 2).ss 1).v],
      .v fun G => ((G 2).ss 0).v,
      .v fun G => ((G 2).ss 1).v,
      .v fun G => ((G 2).ss 0).v,
      .v fun G => ((G 2).ss 1).v] (fun _ _ => by kernel_rfl) fun _ _ G7 kw7 => ?_
    intro S7 t7
    obtain ⟨⟨kl13, -⟩, ⟨kl14, -⟩, -⟩ : Lq ((Rv.plN (Tm.buildL v texts values blinds) at_).1) (((G7 2).ss 0).v) ∧ Lq ((Rv.plN (Tm.buildL v texts values blinds) at_).2) (((G7 2).ss 1).v) ∧ True := kn kw7 (by kernel_rfl)
    clear kw7
    refine nm ((!(decide (Tm.buildE v texts values blinds = 0))) || (!(decide (Tm.buildE v others numbers owns = 0))) : Bool) fun p5 hp5 => ?_
    refine nm (p5 || (decide ((((Rv.plN (Tm.buildL v texts values blinds) at_).1).length : Int) = 0)) : Bool) fun p6 hp6 => ?_
    refine nm (p6 || (!(decide ((values.length : Int) = (numbers.length : Int)))) : Bool) fun p7 hp7 => ?_
    refine nm (p7 || (!(decide ((blinds.length : Int) = (owns.length : Int)))) : Bool) fun p8 hp8 => ?_
    refine nm (p8 || (!(decide ((values.length : Int) = (blinds.length : Int)))) : Bool) fun p9 hp9 => ?_
    refine nm (p9 || (!(decide ((values.length : Int) = (texts.length : Int)))) : Bool) fun p10 hp10 => ?_
    refine V.go [.k (iv (Tm.buildE v texts values blinds)),
      .k (bv (!(decide (Tm.buildE v texts values blinds = 0)))),
      .k (bv (!(decide (Tm.buildE v texts values blinds = 0)))),
      .k (iv (Tm.buildE v others numbers owns)),
      .k (bv (!(decide (Tm.buildE v others numbers owns = 0)))),
      .orn g0 false (!(decide (Tm.buildE v texts values blinds = 0))) (!(decide (Tm.buildE v others numbers owns = 0))) p5 hp5,
      .k (bv p5),
      .k (((G7 2).ss 0).v),
      .ln (kf true (.f 12) ((Rv.plN (Tm.buildL v texts values blinds) at_).1) (fun _ => (G7 2).ss 0)),
      .k (bv (decide ((((Rv.plN (Tm.buildL v texts values blinds) at_).1).length : Int) = 0))),
      .orn g0 false p5 (decide ((((Rv.plN (Tm.buildL v texts values blinds) at_).1).length : Int) = 0)) p6 hp6,
      .k (bv p6),
      .k (valuess.v),
      .ln (kf false (.f 2) values (fun _ => valuess)),
      .k (numberss.v),
      .ln (kf false (.f 5) numbers (fun _ => numberss)),
      .k (bv (!(decide ((values.length : Int) = (numbers.length : Int))))),
      .orn g0 false p6 (!(decide ((values.length : Int) = (numbers.length : Int)))) p7 hp7,
      .k (bv p7),
      .k (blindss.v),
      .ln (kf false (.f 3) blinds (fun _ => blindss)),
      .k (ownss.v),
      .ln (kf false (.f 6) owns (fun _ => ownss)),
      .k (bv (!(decide ((blinds.length : Int) = (owns.length : Int))))),
      .orn g0 false p7 (!(decide ((blinds.length : Int) = (owns.length : Int)))) p8 hp8,
      .k (bv p8),
      .k (valuess.v),
      .ln (kf false (.f 2) values (fun _ => valuess)),
      .k (blindss.v),
      .ln (kf false (.f 3) blinds (fun _ => blindss)),
      .k (bv (!(decide ((values.length : Int) = (blinds.length : Int))))),
      .orn g0 false p8 (!(decide ((values.length : Int) = (blinds.length : Int)))) p9 hp9,
      .k (bv p9),
      .k (valuess.v),
      .ln (kf false (.f 2) values (fun _ => valuess)),
      .k (textss.v),
      .ln (kf false (.f 1) texts (fun _ => textss)),
      .k (bv (!(decide ((values.length : Int) = (texts.length : Int))))),
      .orn g0 false p9 (!(decide ((values.length : Int) = (texts.length : Int)))) p10 hp10] (fun _ _ => by kernel_rfl) fun _ _ G8 => ?_
    intro S8 t8
    refine V.cond (b := p10) (iN hp10 (iOT (iN hp9 (iOT (iN hp8 (iOT (iN hp7 (iOT (iN hp6 (iOT (iN hp5 (iOT (iNT iDF) (iNT iDF))) iDT)) (iNT iDF))) (iNT iDF))) (iNT iDF))) (iNT iDF))) (iN hp10 (iOF (iN hp9 (iOF (iN hp8 (iOF (iN hp7 (iOF (iN hp6 (iOF (iN hp5 (iOF (iNF iDT) (iNF iDT))) iDF)) (iNF iDT))) (iNF iDT))) (iNF iDT))) (iNF iDT))) (by kernel_rfl) (fun q3 => ?_) (fun q4 => ?_)
    · skip
      refine V.go [.k (bv true),
        .k (bv true)] (fun _ _ => by kernel_rfl) fun _ _ G9 => ?_
      intro S9 t9
      exact V.ret [0] [] [] [] [] [] (bv true) (fun _ _ => by kernel_rfl) (fun _ _ => by kernel_rfl) (fun _ _ => trivial)
    · skip
      obtain ⟨⟨⟨⟨⟨⟨he, he2⟩, hop⟩, hl1⟩, hl2⟩, hl3⟩, hl4⟩ := q4
      have hq20 : (at_.length : Int) ≤ 20 := by omega
      obtain ⟨hO, hW⟩ := Rv.pl_wh he hq20 hop
      have hne := hW.ne; have hle := hW.le
      obtain ⟨hOK, h64, _, _, _, _, _, _, _, _⟩ := Tm.built_is he
      obtain ⟨hOK2, h642, _, _, _, _, _, _, _, _⟩ := Tm.built_is he2
      have hLV := Tm.leaf_vals hOK; have hLV2 := Tm.leaf_vals hOK2
      have hvl := hOK.2.2.1; have hbl := hOK.2.2.2.1; have hvl2 := hOK2.2.2.1; have hbl2 := hOK2.2.2.2.1
      have hto : texts.length = others.length := by omega
      refine V.go [.k (iv 0)] (fun _ _ => by kernel_rfl) fun _ _ G10 => ?_
      intro S10 t10
      refine V.go [.k (iv 0)] (fun _ _ => by kernel_rfl) fun _ _ G11 => ?_
      intro S11 t11
      refine V.go [.k (bv true)] (fun _ _ => by kernel_rfl) fun _ _ G12 => ?_
      intro S12 t12
      refine V.go [.k (iv 0)] (fun _ _ => by kernel_rfl) fun _ _ G13 => ?_
      intro S13 t13
      refine V.loop (γ := Int × Int × Bool × Int) (fun ⟨sum, all, same, i⟩ => ⟨[(1, textss.v), (2, valuess.v), (3, blindss.v), (4, otherss.v), (5, numberss.v), (6, ownss.v), (17, bv true), (18, pp ((G5 10).b) 0), (19, iv (Tm.buildR v texts values blinds)), (22, pp ((G6 10).b) 0), (23, iv (Tm.buildR v others numbers owns)), (26, ((G7 2).ss 0).v), (27, ((G7 2).ss 1).v), (28, iv sum), (29, iv all), (30, bv same), (31, iv i)], [fs false texts textss, fs false values valuess, fs false blinds blindss, fs false others otherss, fs false numbers numberss, fs false owns ownss, fs true ((Rv.plN (Tm.buildL v texts values blinds) at_).1) ((G7 2).ss 0), fs true ((Rv.plN (Tm.buildL v texts values blinds) at_).2) ((G7 2).ss 1), fs false v vs, fs true (Tm.buildT v texts values blinds) ((G5 4).ss 0), fs true (Tm.buildT v others numbers owns) ((G6 4).ss 0)], [.blk ((G1 0).b) (ca (DVault.mk ⟨v, vs⟩)) 24, .blk ((G5 10).b) (ca (DVault.mk ⟨Tm.buildT v texts values blinds, (G5 4).ss 0⟩)) 24, .blk ((G6 10).b) (ca (DVault.mk ⟨Tm.buildT v others numbers owns, (G6 4).ss 0⟩)) 24]⟩) (fun ⟨sum, all, same, i⟩ => (0 ≤ i) ∧ (i ≤ (values.length : Int)) ∧ (sum = Tm.totV values i.toNat - Tm.totV numbers i.toNat) ∧ (all = Tm.totV blinds i.toNat - Tm.totV owns i.toNat) ∧ (same = true ↔ ∀ j : Nat, j < i.toNat → (j : Int) ∈ (Rv.plN (Tm.buildL v texts values blinds) at_).2 → (texts.getD j default = others.getD j default ∧ values.getD j default = numbers.getD j default) ∧ blinds.getD j default = owns.getD j default) ∧ (0 ≤ i) ∧ (i ≤ values.length)) (fun ⟨sum, all, same, i⟩ => ((values.length : Int) - i).toNat) (0, 0, true, 0) (by kernel_rfl) [1, 2, 3, 4, 5, 6, 12, 13, 0, 8, 10] (by kernel_rfl) ?_ ?_
      · skip
        refine ⟨?_, ?_, ?_, ?_, ?_, ?_, ?_⟩
        · show 0 ≤ (0 : Int)
          omega
        · show (0 : Int) ≤ (values.length : Int)
          omega
        · show (0 : Int) = Tm.totV values (0 : Int).toNat - Tm.totV numbers (0 : Int).toNat
          rfl
        · show (0 : Int) = Tm.totV blinds (0 : Int).toNat - Tm.totV owns (0 : Int).toNat
          rfl
        · show true = true ↔ ∀ j : Nat, j < (0 : Int).toNat → (j : Int) ∈ (Rv.plN (Tm.buildL v texts values blinds) at_).2 → (texts.getD j default = others.getD j default ∧ values.getD j default = numbers.getD j default) ∧ blinds.getD j default = owns.getD j default
          simp
        · show 0 ≤ (0 : Int)
          omega
        · show (0 : Int) ≤ values.length
          omega
      · rintro ⟨sum, all, same, i⟩ hF1 kw14 Z1 hZ1
        have hF1 : (0 ≤ i) ∧ (i ≤ (values.length : Int)) ∧ (sum = Tm.totV values i.toNat - Tm.totV numbers i.toNat) ∧ (all = Tm.totV blinds i.toNat - Tm.totV owns i.toNat) ∧ (same = true ↔ ∀ j : Nat, j < i.toNat → (j : Int) ∈ (Rv.plN (Tm.buildL v texts values blinds) at_).2 → (texts.getD j default = others.getD j default ∧ values.getD j default = numbers.getD j default) ∧ blinds.getD j default = owns.getD j default) ∧ (0 ≤ i) ∧ (i ≤ values.length) := hF1
        obtain ⟨hf1, hf2, hf3, hf4, hf5, hf6, hf7⟩ := hF1
        clear kw14
        refine V.go [.k (iv i),
          .k (valuess.v),
          .ln (kf false (.f 1) values (fun _ => valuess)),
          .k (bv (decide (i < (values.length : Int))))] (fun _ _ => by kernel_rfl) fun _ _ G14 => ?_
        intro S14 t14
        refine V.cond (b := decide (i < (values.length : Int))) iDT iDF (by kernel_rfl) (fun q5 => ?_) (fun q6 => ?_)
        · skip
          refine nm (values.getD i.toNat default : Int) fun v1 hv1 => ?_
          refine nm (numbers.getD i.toNat default : Int) fun v2 hv2 => ?_
          have hu15 := Tm.tot_step h64 hLV.1 (i := i) (by omega) (by omega) rfl hv1
          have hv15 := Tm.tot_step h642 hLV2.1 (i := i) (by omega) (by omega) rfl hv2
          refine V.go [.k (iv sum),
            .k (valuess.v),
            .k (iv i),
            .ix g0 (kf false (.f 1) values (fun _ => valuess)) i (fun _ => ⟨by omega, by omega⟩),
            .le g0 (kf false (.f 1) values (fun _ => valuess)) i none false v1 hv1 (fun _ => ⟨by omega, by omega⟩) false (fun _ => [iv v1]),
            .a (sum + v1) (by omega) (by omega),
            .k (numberss.v),
            .k (iv i),
            .ix g0 (kf false (.f 4) numbers (fun _ => numberss)) i (fun _ => ⟨by omega, by omega⟩),
            .le g0 (kf false (.f 4) numbers (fun _ => numberss)) i none false v2 hv2 (fun _ => ⟨by omega, by omega⟩) false (fun _ => [iv v2]),
            .a (sum + v1 - v2) (by omega) (by omega),
            .k (iv (sum + v1 - v2))] (fun _ _ => by kernel_rfl) fun _ _ G15 => ?_
          intro S15 t15
          refine nm (blinds.getD i.toNat default : Int) fun v3 hv3 => ?_
          refine nm (owns.getD i.toNat default : Int) fun v4 hv4 => ?_
          have hu16 := Tm.tot_step h64 hLV.2 (i := i) (by omega) (by omega) rfl hv3
          have hv16 := Tm.tot_step h642 hLV2.2 (i := i) (by omega) (by omega) rfl hv4
          refine V.go [.k (iv all),
            .k (blindss.v),
            .k (iv i),
            .ix g0 (kf false (.f 2) blinds (fun _ => blindss)) i (fun _ => ⟨by omega, by omega⟩),
            .le g0 (kf false (.f 2) blinds (fun _ => blindss)) i none false v3 hv3 (fun _ => ⟨by omega, by omega⟩) false (fun _ => [iv v3]),
            .a (all + v3) (by omega) (by omega),
            .k (ownss.v),
            .k (iv i),
            .ix g0 (kf false (.f 5) owns (fun _ => ownss)) i (fun _ => ⟨by omega, by omega⟩),
            .le g0 (kf false (.f 5) owns (fun _ => ownss)) i none false v4 hv4 (fun _ => ⟨by omega, by omega⟩) false (fun _ => [iv v4]),
            .a (all + v3 - v4) (by omega) (by omega),
            .k (iv (all + v3 - v4))] (fun _ _ => by kernel_rfl) fun _ _ G16 => ?_
          intro S16 t16
          refine nm (texts.getD i.toNat default : ByteArray) fun x1 hx1 => ?_
          refine nm (others.getD i.toNat default : ByteArray) fun x2 hx2 => ?_
          refine nm (((decide (x1 = x2)) && (decide (v1 = v2))) && (decide (v3 = v4)) : Bool) fun p11 hp11 => ?_
          refine nm ((!(decide (i ∈ ((Rv.plN (Tm.buildL v texts values blinds) at_).2)))) || p11 : Bool) fun p12 hp12 => ?_
          refine V.go [.k (bv same),
            .k (bv same),
            .k (((G7 2).ss 1).v),
            .k (iv i),
            .cp (gT (b := same) Iff.rfl) 4 40 [(kf true (.f 7) ((Rv.plN (Tm.buildL v texts values blinds) at_).2) (fun _ => (G7 2).ss 1)).a] (fun hg G => has49_ct ((Rv.plN (Tm.buildL v texts values blinds) at_).2) ((G7 2).ss 1) i),
            .k (bv (!(decide (i ∈ ((Rv.plN (Tm.buildL v texts values blinds) at_).2))))),
            .k (bv (!(decide (i ∈ ((Rv.plN (Tm.buildL v texts values blinds) at_).2))))),
            .k (textss.v),
            .k (iv i),
            .ix ((gT (b := same) Iff.rfl).F (b := !(decide (i ∈ ((Rv.plN (Tm.buildL v texts values blinds) at_).2)))) (iNF iDT)) (kf false (.f 0) texts (fun _ => textss)) i (fun hg => ⟨by omega, by omega⟩),
            .le ((gT (b := same) Iff.rfl).F (b := !(decide (i ∈ ((Rv.plN (Tm.buildL v texts values blinds) at_).2)))) (iNF iDT)) (kf false (.f 0) texts (fun _ => textss)) i none false x1 hx1 (fun hg => ⟨by omega, by omega⟩) false (fun _ => [tv x1]),
            .k (otherss.v),
            .k (iv i),
            .ix ((gT (b := same) Iff.rfl).F (b := !(decide (i ∈ ((Rv.plN (Tm.buildL v texts values blinds) at_).2)))) (iNF iDT)) (kf false (.f 3) others (fun _ => otherss)) i (fun hg => ⟨by omega, by omega⟩),
            .le ((gT (b := same) Iff.rfl).F (b := !(decide (i ∈ ((Rv.plN (Tm.buildL v texts values blinds) at_).2)))) (iNF iDT)) (kf false (.f 3) others (fun _ => otherss)) i none false x2 hx2 (fun hg => ⟨by omega, by omega⟩) false (fun _ => [tv x2]),
            .seq x1 x2,
            .k (bv (decide (x1 = x2))),
            .k (valuess.v),
            .k (iv i),
            .ix (((gT (b := same) Iff.rfl).F (b := !(decide (i ∈ ((Rv.plN (Tm.buildL v texts values blinds) at_).2)))) (iNF iDT)).T (b := decide (x1 = x2)) iDT) (kf false (.f 1) values (fun _ => valuess)) i (fun hg => ⟨by omega, by omega⟩),
            .le (((gT (b := same) Iff.rfl).F (b := !(decide (i ∈ ((Rv.plN (Tm.buildL v texts values blinds) at_).2)))) (iNF iDT)).T (b := decide (x1 = x2)) iDT) (kf false (.f 1) values (fun _ => valuess)) i none false v1 hv1 (fun hg => ⟨by omega, by omega⟩) false (fun _ => [iv v1]),
            .k (numberss.v),
            .k (iv i),
            .ix (((gT (b := same) Iff.rfl).F (b := !(decide (i ∈ ((Rv.plN (Tm.buildL v texts values blinds) at_).2)))) (iNF iDT)).T (b := decide (x1 = x2)) iDT) (kf false (.f 4) numbers (fun _ => numberss)) i (fun hg => ⟨by omega, by omega⟩),
            .le (((gT (b := same) Iff.rfl).F (b := !(decide (i ∈ ((Rv.plN (Tm.buildL v texts values blinds) at_).2)))) (iNF iDT)).T (b := decide (x1 = x2)) iDT) (kf false (.f 4) numbers (fun _ => numberss)) i none false v2 hv2 (fun hg => ⟨by omega, by omega⟩) false (fun _ => [iv v2]),
            .k (bv (decide (v1 = v2))),
            .and ((gT (b := same) Iff.rfl).F (b := !(decide (i ∈ ((Rv.plN (Tm.buildL v texts values blinds) at_).2)))) (iNF iDT)) false (decide (x1 = x2)) (decide (v1 = v2)),
            .k (bv ((decide (x1 = x2)) && (decide (v1 = v2)))),
            .k (blindss.v),
            .k (iv i),
            .ix (((gT (b := same) Iff.rfl).F (b := !(decide (i ∈ ((Rv.plN (Tm.buildL v texts values blinds) at_).2)))) (iNF iDT)).T (b := (decide (x1 = x2)) && (decide (v1 = v2))) (iAT iDT iDT)) (kf false (.f 2) blinds (fun _ => blindss)) i (fun hg => ⟨by omega, by omega⟩),
            .le (((gT (b := same) Iff.rfl).F (b := !(decide (i ∈ ((Rv.plN (Tm.buildL v texts values blinds) at_).2)))) (iNF iDT)).T (b := (decide (x1 = x2)) && (decide (v1 = v2))) (iAT iDT iDT)) (kf false (.f 2) blinds (fun _ => blindss)) i none false v3 hv3 (fun hg => ⟨by omega, by omega⟩) false (fun _ => [iv v3]),
            .k (ownss.v),
            .k (iv i),
            .ix (((gT (b := same) Iff.rfl).F (b := !(decide (i ∈ ((Rv.plN (Tm.buildL v texts values blinds) at_).2)))) (iNF iDT)).T (b := (decide (x1 = x2)) && (decide (v1 = v2))) (iAT iDT iDT)) (kf false (.f 5) owns (fun _ => ownss)) i (fun hg => ⟨by omega, by omega⟩),
            .le (((gT (b := same) Iff.rfl).F (b := !(decide (i ∈ ((Rv.plN (Tm.buildL v texts values blinds) at_).2)))) (iNF iDT)).T (b := (decide (x1 = x2)) && (decide (v1 = v2))) (iAT iDT iDT)) (kf false (.f 5) owns (fun _ => ownss)) i none false v4 hv4 (fun hg => ⟨by omega, by omega⟩) false (fun _ => [iv v4]),
            .k (bv (decide (v3 = v4))),
            .andn ((gT (b := same) Iff.rfl).F (b := !(decide (i ∈ ((Rv.plN (Tm.buildL v texts values blinds) at_).2)))) (iNF iDT)) false ((decide (x1 = x2)) && (decide (v1 = v2))) (decide (v3 = v4)) p11 hp11,
            .orn (gT (b := same) Iff.rfl) false (!(decide (i ∈ ((Rv.plN (Tm.buildL v texts values blinds) at_).2)))) p11 p12 hp12,
            .and g0 false same p12,
            .k (bv (same && p12))] (fun _ _ => by kernel_rfl) fun _ _ G17 => ?_
          intro S17 t17
          refine V.go [.k (iv i),
            .a (i + 1) (by omega) (by omega),
            .k (iv (i + 1))] (fun _ _ => by kernel_rfl) fun _ _ G18 => ?_
          intro S18 t18
          refine V.rnd hZ1 (sum + v1 - v2, all + v3 - v4, same && p12, i + 1) [0, 1, 2, 3, 4, 5, 6, 7, 8, 9, 10] (by kernel_rfl) ?_ ?_
          · skip
            refine ⟨?_, ?_, ?_, ?_, ?_, ?_, ?_⟩
            · show 0 ≤ (i + 1)
              omega
            · show (i + 1) ≤ (values.length : Int)
              omega
            · show (sum + v1 - v2) = Tm.totV values (i + 1).toNat - Tm.totV numbers (i + 1).toNat
              have e1 := hu15.2.2.2.2; have e2 := hv15.2.2.2.2; omega
            · show (all + v3 - v4) = Tm.totV blinds (i + 1).toNat - Tm.totV owns (i + 1).toNat
              have e1 := hu16.2.2.2.2; have e2 := hv16.2.2.2.2; omega
            · show (same && p12) = true ↔ ∀ j : Nat, j < (i + 1).toNat → (j : Int) ∈ (Rv.plN (Tm.buildL v texts values blinds) at_).2 → (texts.getD j default = others.getD j default ∧ values.getD j default = numbers.getD j default) ∧ blinds.getD j default = owns.getD j default
              exact Iff.trans (iAT Iff.rfl (iN hp12 (iOT (iNT iDF) (iN hp11 (iAT (iAT iDT iDT) iDT))))) (Rv.hides_step hf5 (by omega) hx1 hx2 hv1 hv2 hv3 hv4)
            · show 0 ≤ (i + 1)
              omega
            · show (i + 1) ≤ values.length
              omega
          · show ((values.length : Int) - (i + 1)).toNat < ((values.length : Int) - i).toNat
            omega
        · skip
          refine nm ((!(decide (sum = 0))) || (!(decide (all = 0))) : Bool) fun p13 hp13 => ?_
          refine V.go [.k (iv sum),
            .k (bv (!(decide (sum = 0)))),
            .k (bv (!(decide (sum = 0)))),
            .k (iv all),
            .k (bv (!(decide (all = 0)))),
            .orn g0 false (!(decide (sum = 0))) (!(decide (all = 0))) p13 hp13,
            .k (bv p13),
            .k (bv same),
            .k (bv (!same)),
            .or g0 false p13 (!same)] (fun _ _ => by kernel_rfl) fun _ _ G19 => ?_
          intro S19 t19
          refine V.cond (b := p13 || (!same)) (iOT (iN hp13 (iOT (iNT iDF) (iNT iDF))) (iNT Iff.rfl)) (iOF (iN hp13 (iOF (iNF iDT) (iNF iDT))) (iNF Iff.rfl)) (by kernel_rfl) (fun q7 => ?_) (fun q8 => ?_)
          · skip
            refine V.go [.k (bv true),
              .k (bv true)] (fun _ _ => by kernel_rfl) fun _ _ G20 => ?_
            intro S20 t20
            exact V.ret [0] [] [] [] [] [] (bv true) (fun _ _ => by kernel_rfl) (fun _ _ => by kernel_rfl) (fun _ _ => trivial)
          · skip
            obtain ⟨⟨hz1, hz2⟩, hz3⟩ := q8
            have hlen : i.toNat = texts.length := by omega
            obtain ⟨hH1, hH2, hH3, hH4⟩ := Rv.hides_is he he2 hto hO hW (by rw [← hz1]; exact hf3) (by rw [← hz2]; exact hf4) hlen (hf5.1 hz3)
            refine V.reg [.ld 1 0 true (fun _ => Dat.cells (DVault.mk ⟨Tm.buildT v texts values blinds, (G5 4).ss 0⟩)),
              .k (iv (Tm.buildR v texts values blinds)),
              .k (((G7 2).ss 0).v),
              .ct g0 3 30 false [] [] [(kf true (.f 9) (Tm.buildT v texts values blinds) (fun _ => (G5 4).ss 0)).a, (kf true (.f 6) ((Rv.plN (Tm.buildL v texts values blinds) at_).1) (fun _ => (G7 2).ss 0)).a] (fun _ G => show_ct (Tm.buildT v texts values blinds) ((G5 4).ss 0) (Tm.buildR v texts values blinds) ((Rv.plN (Tm.buildL v texts values blinds) at_).1) ((G7 2).ss 0)),
              .v fun G => .tuple #[((G 3).ss 0).v, ((G 3).ss 1).v, iv (Rv.showE (Tm.buildT v texts values blinds) (Tm.buildR v texts values blinds) ((Rv.plN (Tm.buildL v texts values blinds) at_).1))],
              .v fun G => ((G 3).ss 0).v,
              .v fun G => ((G 3).ss 1).v,
              .k (iv (Rv.showE (Tm.buildT v texts values blinds) (Tm.buildR v texts values blinds) ((Rv.plN (Tm.buildL v texts values blinds) at_).1))),
              .v fun G => ((G 3).ss 0).v,
              .v fun G => ((G 3).ss 1).v,
              .k (iv (Rv.showE (Tm.buildT v texts values blinds) (Tm.buildR v texts values blinds) ((Rv.plN (Tm.buildL v texts values blinds) at_).1)))] (fun _ _ => by kernel_rfl) fun _ _ G21 kw22 => ?_
            intro S21 t21
            obtain ⟨⟨kl15, -⟩, ⟨kl16, -⟩, -⟩ : Lq (fats (Rv.showP (Tm.buildT v texts values blinds) (Tm.buildR v texts values blinds) ((Rv.plN (Tm.buildL v texts values blinds) at_).1)) ((G21 3).sl 0)) (((G21 3).ss 0).v) ∧ Lq (fats (Rv.showS (Tm.buildT v texts values blinds) (Tm.buildR v texts values blinds) ((Rv.plN (Tm.buildL v texts values blinds) at_).1)) ((G21 3).sl 1)) (((G21 3).ss 1).v) ∧ True := kn kw22 (by kernel_rfl)
            clear kw22
            refine V.reg [.ld 2 0 true (fun _ => Dat.cells (DVault.mk ⟨Tm.buildT v others numbers owns, (G6 4).ss 0⟩)),
              .k (iv (Tm.buildR v others numbers owns)),
              .k (((G7 2).ss 0).v),
              .ct g0 3 30 false [] [] [(kf true (.f 10) (Tm.buildT v others numbers owns) (fun _ => (G6 4).ss 0)).a, (kf true (.f 6) ((Rv.plN (Tm.buildL v texts values blinds) at_).1) (fun _ => (G7 2).ss 0)).a] (fun _ G => show_ct (Tm.buildT v others numbers owns) ((G6 4).ss 0) (Tm.buildR v others numbers owns) ((Rv.plN (Tm.buildL v texts values blinds) at_).1) ((G7 2).ss 0)),
              .v fun G => .tuple #[((G 3).ss 0).v, ((G 3).ss 1).v, iv (Rv.showE (Tm.buildT v others numbers owns) (Tm.buildR v others numbers owns) ((Rv.plN (Tm.buildL v texts values blinds) at_).1))],
              .v fun G => ((G 3).ss 0).v,
              .v fun G => ((G 3).ss 1).v,
              .k (iv (Rv.showE (Tm.buildT v others numbers owns) (Tm.buildR v others numbers owns) ((Rv.plN (Tm.buildL v texts values blinds) at_).1))),
              .v fun G => ((G 3).ss 0).v,
              .v fun G => ((G 3).ss 1).v,
              .k (iv (Rv.showE (Tm.buildT v others numbers owns) (Tm.buildR v others numbers owns) ((Rv.plN (Tm.buildL v texts values blinds) at_).1)))] (fun _ _ => by kernel_rfl) fun _ _ G22 kw23 => ?_
            intro S22 t22
            obtain ⟨⟨kl17, -⟩, ⟨kl18, -⟩, -⟩ : Lq (fats (Rv.showP (Tm.buildT v others numbers owns) (Tm.buildR v others numbers owns) ((Rv.plN (Tm.buildL v texts values blinds) at_).1)) ((G22 3).sl 0)) (((G22 3).ss 0).v) ∧ Lq (fats (Rv.showS (Tm.buildT v others numbers owns) (Tm.buildR v others numbers owns) ((Rv.plN (Tm.buildL v texts values blinds) at_).1)) ((G22 3).sl 1)) (((G22 3).ss 1).v) ∧ True := kn kw23 (by kernel_rfl)
            clear kw23
            refine nm ((decide (Rv.showE (Tm.buildT v texts values blinds) (Tm.buildR v texts values blinds) ((Rv.plN (Tm.buildL v texts values blinds) at_).1) = 0)) && (decide (Rv.showE (Tm.buildT v others numbers owns) (Tm.buildR v others numbers owns) ((Rv.plN (Tm.buildL v texts values blinds) at_).1) = 0)) : Bool) fun p14 hp14 => ?_
            refine nm (p14 && (decide (Rv.ls (fats (Rv.showP (Tm.buildT v texts values blinds) (Tm.buildR v texts values blinds) ((Rv.plN (Tm.buildL v texts values blinds) at_).1)) ((G21 3).sl 0)) = Rv.ls (fats (Rv.showP (Tm.buildT v others numbers owns) (Tm.buildR v others numbers owns) ((Rv.plN (Tm.buildL v texts values blinds) at_).1)) ((G22 3).sl 0)) ∧ Rv.ls (fats (Rv.showS (Tm.buildT v texts values blinds) (Tm.buildR v texts values blinds) ((Rv.plN (Tm.buildL v texts values blinds) at_).1)) ((G21 3).sl 1)) = Rv.ls (fats (Rv.showS (Tm.buildT v others numbers owns) (Tm.buildR v others numbers owns) ((Rv.plN (Tm.buildL v texts values blinds) at_).1)) ((G22 3).sl 1)))) : Bool) fun p15 hp15 => ?_
            refine V.go [.k (bv true),
              .k (bv true),
              .k (iv (Rv.showE (Tm.buildT v texts values blinds) (Tm.buildR v texts values blinds) ((Rv.plN (Tm.buildL v texts values blinds) at_).1))),
              .k (bv (decide (Rv.showE (Tm.buildT v texts values blinds) (Tm.buildR v texts values blinds) ((Rv.plN (Tm.buildL v texts values blinds) at_).1) = 0))),
              .k (bv (decide (Rv.showE (Tm.buildT v texts values blinds) (Tm.buildR v texts values blinds) ((Rv.plN (Tm.buildL v texts values blinds) at_).1) = 0))),
              .k (bv (decide (Rv.showE (Tm.buildT v texts values blinds) (Tm.buildR v texts values blinds) ((Rv.plN (Tm.buildL v texts values blinds) at_).1) = 0))),
              .k (iv (Rv.showE (Tm.buildT v others numbers owns) (Tm.buildR v others numbers owns) ((Rv.plN (Tm.buildL v texts values blinds) at_).1))),
              .k (bv (decide (Rv.showE (Tm.buildT v others numbers owns) (Tm.buildR v others numbers owns) ((Rv.plN (Tm.buildL v texts values blinds) at_).1) = 0))),
              .andn g0 false (decide (Rv.showE (Tm.buildT v texts values blinds) (Tm.buildR v texts values blinds) ((Rv.plN (Tm.buildL v texts values blinds) at_).1) = 0)) (decide (Rv.showE (Tm.buildT v others numbers owns) (Tm.buildR v others numbers owns) ((Rv.plN (Tm.buildL v texts values blinds) at_).1) = 0)) p14 hp14,
              .k (bv p14),
              .k (((G21 3).ss 0).v),
              .k (((G21 3).ss 1).v),
              .k (((G22 3).ss 0).v),
              .k (((G22 3).ss 1).v),
              .cp (gT (b := p14) (iN hp14 (iAT iDT iDT))) 14 34 [(kf true (.f 11) (fats (Rv.showP (Tm.buildT v texts values blinds) (Tm.buildR v texts values blinds) ((Rv.plN (Tm.buildL v texts values blinds) at_).1)) ((G21 3).sl 0)) (fun _ => (G21 3).ss 0)).a, (kf true (.f 12) (fats (Rv.showS (Tm.buildT v texts values blinds) (Tm.buildR v texts values blinds) ((Rv.plN (Tm.buildL v texts values blinds) at_).1)) ((G21 3).sl 1)) (fun _ => (G21 3).ss 1)).a, (kf true (.f 13) (fats (Rv.showP (Tm.buildT v others numbers owns) (Tm.buildR v others numbers owns) ((Rv.plN (Tm.buildL v texts values blinds) at_).1)) ((G22 3).sl 0)) (fun _ => (G22 3).ss 0)).a, (kf true (.f 14) (fats (Rv.showS (Tm.buildT v others numbers owns) (Tm.buildR v others numbers owns) ((Rv.plN (Tm.buildL v texts values blinds) at_).1)) ((G22 3).sl 1)) (fun _ => (G22 3).ss 1)).a] (fun hg G => same49_ct (fats (Rv.showP (Tm.buildT v texts values blinds) (Tm.buildR v texts values blinds) ((Rv.plN (Tm.buildL v texts values blinds) at_).1)) ((G21 3).sl 0)) ((G21 3).ss 0) (fats (Rv.showS (Tm.buildT v texts values blinds) (Tm.buildR v texts values blinds) ((Rv.plN (Tm.buildL v texts values blinds) at_).1)) ((G21 3).sl 1)) ((G21 3).ss 1) (fats (Rv.showP (Tm.buildT v others numbers owns) (Tm.buildR v others numbers owns) ((Rv.plN (Tm.buildL v texts values blinds) at_).1)) ((G22 3).sl 0)) ((G22 3).ss 0) (fats (Rv.showS (Tm.buildT v others numbers owns) (Tm.buildR v others numbers owns) ((Rv.plN (Tm.buildL v texts values blinds) at_).1)) ((G22 3).sl 1)) ((G22 3).ss 1)),
              .andn g0 false p14 (decide (Rv.ls (fats (Rv.showP (Tm.buildT v texts values blinds) (Tm.buildR v texts values blinds) ((Rv.plN (Tm.buildL v texts values blinds) at_).1)) ((G21 3).sl 0)) = Rv.ls (fats (Rv.showP (Tm.buildT v others numbers owns) (Tm.buildR v others numbers owns) ((Rv.plN (Tm.buildL v texts values blinds) at_).1)) ((G22 3).sl 0)) ∧ Rv.ls (fats (Rv.showS (Tm.buildT v texts values blinds) (Tm.buildR v texts values blinds) ((Rv.plN (Tm.buildL v texts values blinds) at_).1)) ((G21 3).sl 1)) = Rv.ls (fats (Rv.showS (Tm.buildT v others numbers owns) (Tm.buildR v others numbers owns) ((Rv.plN (Tm.buildL v texts values blinds) at_).1)) ((G22 3).sl 1)))) p15 hp15,
              .k (bv p15)] (fun _ _ => by kernel_rfl) fun _ _ G23 => ?_
            intro S23 t23
            have e0 : p15 = true := by
              refine (iN hp15 (iAT (iN hp14 (iAT iDT iDT)) iDT)).2 ?_
              exact ⟨⟨hH1, hH2⟩, by rw [Rv.ls_fats, Rv.ls_fats]; exact hH3, by rw [Rv.ls_fats, Rv.ls_fats]; exact hH4⟩
            exact V.ret [0] [] [] [] [] [] (bv p15) (fun _ _ => by kernel_rfl) (fun _ _ => (Eq.trans (by kernel_rfl) (cong1 (fun (x0 : Bool) => (bv x0 : Value)) e0)).trans (by kernel_rfl)) (fun _ _ => trivial)

end Kb
