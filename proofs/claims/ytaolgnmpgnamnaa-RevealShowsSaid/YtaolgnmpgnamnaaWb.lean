/- The law of shows. -/
import Derived.Test.YtaolgnmpgnamnaaVs
import Derived.Test.YtaolgnmpgnamnaaRu
set_option linter.unusedVariables false
set_option linter.unusedSimpArgs false
namespace Kb
open Go Go.Proofs
set_option maxRecDepth 10000 in
theorem shows_ct (v : List DThing) (vs : SV) (texts : List ByteArray) (textss : SV) (values : List Int) (valuess : SV) (blinds : List Int) (blindss : SV) (at_ : List UInt8) (at_s : SV) :
    Cp Try.prog 9 #[ag (DVault.mk ⟨v, vs⟩), textss.v, valuess.v, blindss.v, at_s.v] [fs true v vs, fs true texts textss, fs true values valuess, fs true blinds blindss, fs true at_ at_s] (bv true) := by
  refine V.fn mo Try.func9 230 4 (by kernel_rfl) fun w H ε k0 => ?_
  obtain ⟨⟨kl1, -⟩, ⟨kl2, -⟩, ⟨kl3, -⟩, ⟨kl4, -⟩, ⟨kl5, -⟩, -⟩ : Lq v vs.v ∧ Lq texts textss.v ∧ Lq values valuess.v ∧ Lq blinds blindss.v ∧ Lq at_ at_s.v ∧ True := kn k0 (by kernel_rfl)
  clear k0
  refine V.go [.nb 0 0 (fun b => pp b 0) 24 (fun _ => ca (DVault.mk ⟨v, vs⟩)),
    .k (bv false)] (fun _ _ => by kernel_rfl) fun _ _ G1 => ?_
  intro S1 t1
  refine V.go [.cp g0 0 28 [] (fun _ G => sane_ct ),
    .k (bv true)] (fun _ _ => by kernel_rfl) fun _ _ G2 => ?_
  intro S2 t2
  refine nm ((!(decide (Tm.fewP v (60 : Int)))) || (!(decide (Tm.fewS texts (20 : Int)))) : Bool) fun p1 hp1 => ?_
  refine nm ((p1 || (decide (20 < (values.length : Int)))) || (decide (20 < (blinds.length : Int))) : Bool) fun p2 hp2 => ?_
  refine V.go [.ld 0 0 true (fun _ => Dat.cells (DVault.mk ⟨v, vs⟩)),
    .cp g0 1 14 [(kf false (.f 0) v (fun _ => vs)).a] (fun _ G => fewv_ct v vs (60 : Int)),
    .k (bv (!(decide (Tm.fewP v (60 : Int))))),
    .k (bv (!(decide (Tm.fewP v (60 : Int))))),
    .k (textss.v),
    .cp (gF (b := !(decide (Tm.fewP v (60 : Int)))) (iNF iDT)) 5 15 [(kf false (.f 1) texts (fun _ => textss)).a] (fun hg G => fews_ct texts textss (20 : Int)),
    .k (bv (!(decide (Tm.fewS texts (20 : Int))))),
    .orn g0 false (!(decide (Tm.fewP v (60 : Int)))) (!(decide (Tm.fewS texts (20 : Int)))) p1 hp1,
    .k (bv p1),
    .k (valuess.v),
    .ln (kf false (.f 2) values (fun _ => valuess)),
    .k (bv (decide (20 < (values.length : Int)))),
    .or g0 false p1 (decide (20 < (values.length : Int))),
    .k (bv (p1 || (decide (20 < (values.length : Int))))),
    .k (blindss.v),
    .ln (kf false (.f 3) blinds (fun _ => blindss)),
    .k (bv (decide (20 < (blinds.length : Int)))),
    .orn g0 false (p1 || (decide (20 < (values.length : Int)))) (decide (20 < (blinds.length : Int))) p2 hp2,
    .k (bv p2),
    .k (at_s.v),
    .ln (kf false (.f 4) at_ (fun _ => at_s)),
    .k (bv (decide (20 < (at_.length : Int)))),
    .or g0 false p2 (decide (20 < (at_.length : Int)))] (fun _ _ => by kernel_rfl) fun _ _ G3 => ?_
  intro S3 t3
  refine V.cond (b := p2 || (decide (20 < (at_.length : Int)))) (iOT (iN hp2 (iOT (iOT (iN hp1 (iOT (iNT iDF) (iNT iDF))) iDT) iDT)) iDT) (iOF (iN hp2 (iOF (iOF (iN hp1 (iOF (iNF iDT) (iNF iDT))) iDF) iDF)) iDF) (by kernel_rfl) (fun q1 => ?_) (fun q2 => ?_)
  · skip
    refine V.go [.k (bv true),
      .k (bv true)] (fun _ _ => by kernel_rfl) fun _ _ G4 => ?_
    intro S4 t4
    exact V.ret [0] [] [] [] [] [] (bv true) (fun _ _ => by kernel_rfl) (fun _ _ => by kernel_rfl) (fun _ _ => trivial)
  · skip
    refine V.reg [.ld 0 0 true (fun _ => Dat.cells (DVault.mk ⟨v, vs⟩)),
      .k (textss.v),
      .k (valuess.v),
      .k (blindss.v),
      .ct g0 4 16 false [] [] [(kf false (.f 0) v (fun _ => vs)).a, (kf false (.f 1) texts (fun _ => textss)).a, (kf false (.f 2) values (fun _ => valuess)).a, (kf false (.f 3) blinds (fun _ => blindss)).a] (fun _ G => build_ct v vs texts textss values valuess blinds blindss),
      .v fun G => .tuple #[ag (DVault.mk ⟨Tm.buildT v texts values blinds, (G 4).ss 0⟩), iv (Tm.buildR v texts values blinds), ((G 4).ss 1).v, iv (Tm.buildE v texts values blinds)],
      .v fun G => ag (DVault.mk ⟨Tm.buildT v texts values blinds, (G 4).ss 0⟩),
      .k (iv (Tm.buildR v texts values blinds)),
      .v fun G => ((G 4).ss 1).v,
      .k (iv (Tm.buildE v texts values blinds)),
      .nb 10 1 (fun b => pp b 0) 24 (fun _ => ca (DVault.mk ⟨[], {}⟩)),
      .st 1 (fun G => .blk ((G 10).b) (ca (DVault.mk ⟨Tm.buildT v texts values blinds, (G 4).ss 0⟩)) 24),
      .k (iv (Tm.buildR v texts values blinds)),
      .v fun G => ((G 4).ss 1).v,
      .k (iv (Tm.buildE v texts values blinds))] (fun _ _ => by kernel_rfl) fun _ _ G5 kw5 => ?_
    intro S5 t5
    obtain ⟨⟨kl6, -⟩, ⟨kl7, -⟩, -⟩ : Lq (Tm.buildT v texts values blinds) (((G5 4).ss 0).v) ∧ Lq (Tm.buildL v texts values blinds) (((G5 4).ss 1).v) ∧ True := kn kw5 (by kernel_rfl)
    clear kw5
    refine V.reg [.k (((G5 4).ss 1).v),
      .k (at_s.v),
      .ct g0 2 39 false [] [] [(kf true (.f 6) (Tm.buildL v texts values blinds) (fun _ => (G5 4).ss 1)).a, (kf false (.f 4) at_ (fun _ => at_s)).a] (fun _ G => places_ct (Tm.buildL v texts values blinds) ((G5 4).ss 1) at_ at_s (by omega)),
      .v fun G => .tuple #[((G 2).ss 0).v, ((G 2).ss 1).v],
      .v fun G => ((G 2).ss 0).v,
      .v fun G => ((G 2).ss 1).v,
      .v fun G => ((G 2).ss 0).v,
      .v fun G => ((G 2).ss 1).v] (fun _ _ => by kernel_rfl) fun _ _ G6 kw6 => ?_
    intro S6 t6
    obtain ⟨⟨kl8, -⟩, ⟨kl9, -⟩, -⟩ : Lq ((Rv.plN (Tm.buildL v texts values blinds) at_).1) (((G6 2).ss 0).v) ∧ Lq ((Rv.plN (Tm.buildL v texts values blinds) at_).2) (((G6 2).ss 1).v) ∧ True := kn kw6 (by kernel_rfl)
    clear kw6
    refine nm ((!(decide (Tm.buildE v texts values blinds = 0))) || (decide ((((Rv.plN (Tm.buildL v texts values blinds) at_).1).length : Int) = 0)) : Bool) fun p3 hp3 => ?_
    refine nm (p3 || (!(decide ((values.length : Int) = (texts.length : Int)))) : Bool) fun p4 hp4 => ?_
    refine nm (p4 || (!(decide ((blinds.length : Int) = (texts.length : Int)))) : Bool) fun p5 hp5 => ?_
    refine V.go [.k (iv (Tm.buildE v texts values blinds)),
      .k (bv (!(decide (Tm.buildE v texts values blinds = 0)))),
      .k (bv (!(decide (Tm.buildE v texts values blinds = 0)))),
      .k (((G6 2).ss 0).v),
      .ln (kf true (.f 7) ((Rv.plN (Tm.buildL v texts values blinds) at_).1) (fun _ => (G6 2).ss 0)),
      .k (bv (decide ((((Rv.plN (Tm.buildL v texts values blinds) at_).1).length : Int) = 0))),
      .orn g0 false (!(decide (Tm.buildE v texts values blinds = 0))) (decide ((((Rv.plN (Tm.buildL v texts values blinds) at_).1).length : Int) = 0)) p3 hp3,
      .k (bv p3),
      .k (valuess.v),
      .ln (kf false (.f 2) values (fun _ => valuess)),
      .k (textss.v),
      .ln (kf false (.f 1) texts (fun _ => textss)),
      .k (bv (!(decide ((values.length : Int) = (texts.length : Int))))),
      .orn g0 false p3 (!(decide ((values.length : Int) = (texts.length : Int)))) p4 hp4,
      .k (bv p4),
      .k (blindss.v),
      .ln (kf false (.f 3) blinds (fun _ => blindss)),
      .k (textss.v),
      .ln (kf false (.f 1) texts (fun _ => textss)),
      .k (bv (!(decide ((blinds.length : Int) = (texts.length : Int))))),
      .orn g0 false p4 (!(decide ((blinds.length : Int) = (texts.length : Int)))) p5 hp5] (fun _ _ => by kernel_rfl) fun _ _ G7 => ?_
    intro S7 t7
    refine V.cond (b := p5) (iN hp5 (iOT (iN hp4 (iOT (iN hp3 (iOT (iNT iDF) iDT)) (iNT iDF))) (iNT iDF))) (iN hp5 (iOF (iN hp4 (iOF (iN hp3 (iOF (iNF iDT) iDF)) (iNF iDT))) (iNF iDT))) (by kernel_rfl) (fun q3 => ?_) (fun q4 => ?_)
    · skip
      refine V.go [.k (bv true),
        .k (bv true)] (fun _ _ => by kernel_rfl) fun _ _ G8 => ?_
      intro S8 t8
      exact V.ret [0] [] [] [] [] [] (bv true) (fun _ _ => by kernel_rfl) (fun _ _ => by kernel_rfl) (fun _ _ => trivial)
    · skip
      obtain ⟨⟨⟨he, hop⟩, hvl⟩, hbl⟩ := q4
      have hq20 : (at_.length : Int) ≤ 20 := by omega
      obtain ⟨hO, hW⟩ := Rv.pl_wh he hq20 hop
      obtain ⟨hI1, hI2, hI3, hI4, hI5, hI6, hI7⟩ := Rv.shows_is he hO hW
      have hne := hW.ne; have hle := hW.le
      obtain ⟨hOK, h64, _, _, _, _, _, _, _, _⟩ := Tm.built_is he
      have hLV := Tm.leaf_vals hOK
      refine V.reg [.ld 1 0 true (fun _ => Dat.cells (DVault.mk ⟨Tm.buildT v texts values blinds, (G5 4).ss 0⟩)),
        .k (iv (Tm.buildR v texts values blinds)),
        .k (((G6 2).ss 0).v),
        .ct g0 3 30 false [] [] [(kf true (.f 5) (Tm.buildT v texts values blinds) (fun _ => (G5 4).ss 0)).a, (kf true (.f 7) ((Rv.plN (Tm.buildL v texts values blinds) at_).1) (fun _ => (G6 2).ss 0)).a] (fun _ G => show_ct (Tm.buildT v texts values blinds) ((G5 4).ss 0) (Tm.buildR v texts values blinds) ((Rv.plN (Tm.buildL v texts values blinds) at_).1) ((G6 2).ss 0)),
        .v fun G => .tuple #[((G 3).ss 0).v, ((G 3).ss 1).v, iv (Rv.showE (Tm.buildT v texts values blinds) (Tm.buildR v texts values blinds) ((Rv.plN (Tm.buildL v texts values blinds) at_).1))],
        .v fun G => ((G 3).ss 0).v,
        .v fun G => ((G 3).ss 1).v,
        .k (iv (Rv.showE (Tm.buildT v texts values blinds) (Tm.buildR v texts values blinds) ((Rv.plN (Tm.buildL v texts values blinds) at_).1))),
        .v fun G => ((G 3).ss 0).v,
        .v fun G => ((G 3).ss 1).v,
        .k (iv (Rv.showE (Tm.buildT v texts values blinds) (Tm.buildR v texts values blinds) ((Rv.plN (Tm.buildL v texts values blinds) at_).1)))] (fun _ _ => by kernel_rfl) fun _ _ G9 kw9 => ?_
      intro S9 t9
      obtain ⟨⟨kl10, -⟩, ⟨kl11, -⟩, -⟩ : Lq (fats (Rv.showP (Tm.buildT v texts values blinds) (Tm.buildR v texts values blinds) ((Rv.plN (Tm.buildL v texts values blinds) at_).1)) ((G9 3).sl 0)) (((G9 3).ss 0).v) ∧ Lq (fats (Rv.showS (Tm.buildT v texts values blinds) (Tm.buildR v texts values blinds) ((Rv.plN (Tm.buildL v texts values blinds) at_).1)) ((G9 3).sl 1)) (((G9 3).ss 1).v) ∧ True := kn kw9 (by kernel_rfl)
      clear kw9
      refine nm ((!(decide (Rv.showE (Tm.buildT v texts values blinds) (Tm.buildR v texts values blinds) ((Rv.plN (Tm.buildL v texts values blinds) at_).1) = 0))) || (!(decide (((fats (Rv.showP (Tm.buildT v texts values blinds) (Tm.buildR v texts values blinds) ((Rv.plN (Tm.buildL v texts values blinds) at_).1)) ((G9 3).sl 0)).length : Int) = (((Rv.plN (Tm.buildL v texts values blinds) at_).1).length : Int)))) : Bool) fun p6 hp6 => ?_
      refine nm (p6 || (!(decide (((fats (Rv.showS (Tm.buildT v texts values blinds) (Tm.buildR v texts values blinds) ((Rv.plN (Tm.buildL v texts values blinds) at_).1)) ((G9 3).sl 1)).length : Int) = (((Rv.plN (Tm.buildL v texts values blinds) at_).1).length : Int)))) : Bool) fun p7 hp7 => ?_
      refine nm (p7 || (!(decide (Rv.CheckP (Tm.buildT v texts values blinds) (Rv.ls (fats (Rv.showP (Tm.buildT v texts values blinds) (Tm.buildR v texts values blinds) ((Rv.plN (Tm.buildL v texts values blinds) at_).1)) ((G9 3).sl 0))) (Rv.ls (fats (Rv.showS (Tm.buildT v texts values blinds) (Tm.buildR v texts values blinds) ((Rv.plN (Tm.buildL v texts values blinds) at_).1)) ((G9 3).sl 1)))))) : Bool) fun p8 hp8 => ?_
      refine V.go [.k (iv (Rv.showE (Tm.buildT v texts values blinds) (Tm.buildR v texts values blinds) ((Rv.plN (Tm.buildL v texts values blinds) at_).1))),
        .k (bv (!(decide (Rv.showE (Tm.buildT v texts values blinds) (Tm.buildR v texts values blinds) ((Rv.plN (Tm.buildL v texts values blinds) at_).1) = 0)))),
        .k (bv (!(decide (Rv.showE (Tm.buildT v texts values blinds) (Tm.buildR v texts values blinds) ((Rv.plN (Tm.buildL v texts values blinds) at_).1) = 0)))),
        .k (((G9 3).ss 0).v),
        .ln (kf true (.f 9) (fats (Rv.showP (Tm.buildT v texts values blinds) (Tm.buildR v texts values blinds) ((Rv.plN (Tm.buildL v texts values blinds) at_).1)) ((G9 3).sl 0)) (fun _ => (G9 3).ss 0)),
        .k (((G6 2).ss 0).v),
        .ln (kf true (.f 7) ((Rv.plN (Tm.buildL v texts values blinds) at_).1) (fun _ => (G6 2).ss 0)),
        .k (bv (!(decide (((fats (Rv.showP (Tm.buildT v texts values blinds) (Tm.buildR v texts values blinds) ((Rv.plN (Tm.buildL v texts values blinds) at_).1)) ((G9 3).sl 0)).length : Int) = (((Rv.plN (Tm.buildL v texts values blinds) at_).1).length : Int))))),
        .orn g0 false (!(decide (Rv.showE (Tm.buildT v texts values blinds) (Tm.buildR v texts values blinds) ((Rv.plN (Tm.buildL v texts values blinds) at_).1) = 0))) (!(decide (((fats (Rv.showP (Tm.buildT v texts values blinds) (Tm.buildR v texts values blinds) ((Rv.plN (Tm.buildL v texts values blinds) at_).1)) ((G9 3).sl 0)).length : Int) = (((Rv.plN (Tm.buildL v texts values blinds) at_).1).length : Int)))) p6 hp6,
        .k (bv p6),
        .k (((G9 3).ss 1).v),
        .ln (kf true (.f 10) (fats (Rv.showS (Tm.buildT v texts values blinds) (Tm.buildR v texts values blinds) ((Rv.plN (Tm.buildL v texts values blinds) at_).1)) ((G9 3).sl 1)) (fun _ => (G9 3).ss 1)),
        .k (((G6 2).ss 0).v),
        .ln (kf true (.f 7) ((Rv.plN (Tm.buildL v texts values blinds) at_).1) (fun _ => (G6 2).ss 0)),
        .k (bv (!(decide (((fats (Rv.showS (Tm.buildT v texts values blinds) (Tm.buildR v texts values blinds) ((Rv.plN (Tm.buildL v texts values blinds) at_).1)) ((G9 3).sl 1)).length : Int) = (((Rv.plN (Tm.buildL v texts values blinds) at_).1).length : Int))))),
        .orn g0 false p6 (!(decide (((fats (Rv.showS (Tm.buildT v texts values blinds) (Tm.buildR v texts values blinds) ((Rv.plN (Tm.buildL v texts values blinds) at_).1)) ((G9 3).sl 1)).length : Int) = (((Rv.plN (Tm.buildL v texts values blinds) at_).1).length : Int)))) p7 hp7,
        .k (bv p7),
        .ld 1 0 true (fun _ => Dat.cells (DVault.mk ⟨Tm.buildT v texts values blinds, (G5 4).ss 0⟩)),
        .k (((G9 3).ss 0).v),
        .k (((G9 3).ss 1).v),
        .cp (gF (b := p7) (iN hp7 (iOF (iN hp6 (iOF (iNF iDT) (iNF iDT))) (iNF iDT)))) 20 35 [(kf true (.f 5) (Tm.buildT v texts values blinds) (fun _ => (G5 4).ss 0)).a, (kf true (.f 9) (fats (Rv.showP (Tm.buildT v texts values blinds) (Tm.buildR v texts values blinds) ((Rv.plN (Tm.buildL v texts values blinds) at_).1)) ((G9 3).sl 0)) (fun _ => (G9 3).ss 0)).a, (kf true (.f 10) (fats (Rv.showS (Tm.buildT v texts values blinds) (Tm.buildR v texts values blinds) ((Rv.plN (Tm.buildL v texts values blinds) at_).1)) ((G9 3).sl 1)) (fun _ => (G9 3).ss 1)).a] (fun hg G => rcheck_ct (Tm.buildT v texts values blinds) ((G5 4).ss 0) (fats (Rv.showP (Tm.buildT v texts values blinds) (Tm.buildR v texts values blinds) ((Rv.plN (Tm.buildL v texts values blinds) at_).1)) ((G9 3).sl 0)) ((G9 3).ss 0) (fats (Rv.showS (Tm.buildT v texts values blinds) (Tm.buildR v texts values blinds) ((Rv.plN (Tm.buildL v texts values blinds) at_).1)) ((G9 3).sl 1)) ((G9 3).ss 1) Rv.showP_pre),
        .k (bv (!(decide (Rv.CheckP (Tm.buildT v texts values blinds) (Rv.ls (fats (Rv.showP (Tm.buildT v texts values blinds) (Tm.buildR v texts values blinds) ((Rv.plN (Tm.buildL v texts values blinds) at_).1)) ((G9 3).sl 0))) (Rv.ls (fats (Rv.showS (Tm.buildT v texts values blinds) (Tm.buildR v texts values blinds) ((Rv.plN (Tm.buildL v texts values blinds) at_).1)) ((G9 3).sl 1))))))),
        .orn g0 false p7 (!(decide (Rv.CheckP (Tm.buildT v texts values blinds) (Rv.ls (fats (Rv.showP (Tm.buildT v texts values blinds) (Tm.buildR v texts values blinds) ((Rv.plN (Tm.buildL v texts values blinds) at_).1)) ((G9 3).sl 0))) (Rv.ls (fats (Rv.showS (Tm.buildT v texts values blinds) (Tm.buildR v texts values blinds) ((Rv.plN (Tm.buildL v texts values blinds) at_).1)) ((G9 3).sl 1)))))) p8 hp8] (fun _ _ => by kernel_rfl) fun _ _ G10 => ?_
      intro S10 t10
      refine V.cond (b := p8) (iN hp8 (iOT (iN hp7 (iOT (iN hp6 (iOT (iNT iDF) (iNT iDF))) (iNT iDF))) (iNT iDF))) (iN hp8 (iOF (iN hp7 (iOF (iN hp6 (iOF (iNF iDT) (iNF iDT))) (iNF iDT))) (iNF iDT))) (by kernel_rfl) (fun q5 => ?_) (fun q6 => ?_)
      · skip
        rcases q5 with ((h | h) | h) | h
        · exact (h hI1).elim
        · rw [fats_length] at h; omega
        · rw [fats_length] at h; omega
        · exact (h (by rw [Rv.ls_fats, Rv.ls_fats]; exact hI2)).elim
      · skip
        refine V.go [.k (iv 0)] (fun _ _ => by kernel_rfl) fun _ _ G11 => ?_
        intro S11 t11
        refine V.go [.k (iv 0)] (fun _ _ => by kernel_rfl) fun _ _ G12 => ?_
        intro S12 t12
        refine V.go [.k (iv 0)] (fun _ _ => by kernel_rfl) fun _ _ G13 => ?_
        intro S13 t13
        refine V.loop (γ := Int × Int × Int) (fun ⟨sum, total, i⟩ => ⟨[(1, textss.v), (2, valuess.v), (3, blindss.v), (11, bv true), (17, ((G6 2).ss 1).v), (18, ((G9 3).ss 0).v), (19, ((G9 3).ss 1).v), (21, iv sum), (22, iv total), (23, iv i)], [fs false texts textss, fs false values valuess, fs false blinds blindss, fs true ((Rv.plN (Tm.buildL v texts values blinds) at_).2) ((G6 2).ss 1), fs true (fats (Rv.showP (Tm.buildT v texts values blinds) (Tm.buildR v texts values blinds) ((Rv.plN (Tm.buildL v texts values blinds) at_).1)) ((G9 3).sl 0)) ((G9 3).ss 0), fs true (fats (Rv.showS (Tm.buildT v texts values blinds) (Tm.buildR v texts values blinds) ((Rv.plN (Tm.buildL v texts values blinds) at_).1)) ((G9 3).sl 1)) ((G9 3).ss 1), fs false v vs, fs true (Tm.buildT v texts values blinds) ((G5 4).ss 0)], [.blk ((G1 0).b) (ca (DVault.mk ⟨v, vs⟩)) 24, .blk ((G5 10).b) (ca (DVault.mk ⟨Tm.buildT v texts values blinds, (G5 4).ss 0⟩)) 24, .no, .no]⟩) (fun ⟨sum, total, i⟩ => (0 ≤ i) ∧ (i ≤ (values.length : Int)) ∧ (total = Tm.totV values i.toNat) ∧ (sum = Rv.others values (Rv.plN (Tm.buildL v texts values blinds) at_).2 i.toNat) ∧ (0 ≤ sum) ∧ (sum ≤ total) ∧ (0 ≤ i) ∧ (i ≤ values.length)) (fun ⟨sum, total, i⟩ => ((values.length : Int) - i).toNat) (0, 0, 0) (by kernel_rfl) [1, 2, 3, 8, 9, 10, 0, 5] (by kernel_rfl) ?_ ?_
        · skip
          refine ⟨?_, ?_, ?_, ?_, ?_, ?_, ?_, ?_⟩
          · show 0 ≤ (0 : Int)
            omega
          · show (0 : Int) ≤ (values.length : Int)
            omega
          · show (0 : Int) = Tm.totV values (0 : Int).toNat
            rfl
          · show (0 : Int) = Rv.others values (Rv.plN (Tm.buildL v texts values blinds) at_).2 (0 : Int).toNat
            rfl
          · show 0 ≤ (0 : Int)
            omega
          · show (0 : Int) ≤ (0 : Int)
            omega
          · show 0 ≤ (0 : Int)
            omega
          · show (0 : Int) ≤ values.length
            omega
        · rintro ⟨sum, total, i⟩ hF1 kw14 Z1 hZ1
          have hF1 : (0 ≤ i) ∧ (i ≤ (values.length : Int)) ∧ (total = Tm.totV values i.toNat) ∧ (sum = Rv.others values (Rv.plN (Tm.buildL v texts values blinds) at_).2 i.toNat) ∧ (0 ≤ sum) ∧ (sum ≤ total) ∧ (0 ≤ i) ∧ (i ≤ values.length) := hF1
          obtain ⟨hf1, hf2, hf3, hf4, hf5, hf6, hf7, hf8⟩ := hF1
          clear kw14
          refine V.go [.k (iv i),
            .k (valuess.v),
            .ln (kf false (.f 1) values (fun _ => valuess)),
            .k (bv (decide (i < (values.length : Int))))] (fun _ _ => by kernel_rfl) fun _ _ G14 => ?_
          intro S14 t14
          refine V.cond (b := decide (i < (values.length : Int))) iDT iDF (by kernel_rfl) (fun q7 => ?_) (fun q8 => ?_)
          · skip
            refine nm (values.getD i.toNat default : Int) fun v1 hv1 => ?_
            have hu := Tm.tot_step h64 hLV.1 (i := i) (by omega) (by omega) hf3 hv1
            refine V.go [.k (iv total),
              .k (valuess.v),
              .k (iv i),
              .ix g0 (kf false (.f 1) values (fun _ => valuess)) i (fun _ => ⟨by omega, by omega⟩),
              .le g0 (kf false (.f 1) values (fun _ => valuess)) i none false v1 hv1 (fun _ => ⟨by omega, by omega⟩) false (fun _ => [iv v1]),
              .a (total + v1) (by omega) (by omega),
              .k (iv (total + v1))] (fun _ _ => by kernel_rfl) fun _ _ G15 => ?_
            intro S15 t15
            refine V.go [.k (((G6 2).ss 1).v),
              .k (iv i),
              .cp g0 2 40 [(kf true (.f 3) ((Rv.plN (Tm.buildL v texts values blinds) at_).2) (fun _ => (G6 2).ss 1)).a] (fun _ G => has49_ct ((Rv.plN (Tm.buildL v texts values blinds) at_).2) ((G6 2).ss 1) i),
              .k (bv (!(decide (i ∈ ((Rv.plN (Tm.buildL v texts values blinds) at_).2)))))] (fun _ _ => by kernel_rfl) fun _ _ G16 => ?_
            intro S16 t16
            refine V.cond (b := !(decide (i ∈ ((Rv.plN (Tm.buildL v texts values blinds) at_).2)))) (iNT iDF) (iNF iDT) (by kernel_rfl) (fun q9 => ?_) (fun q10 => ?_)
            · skip
              refine V.go [.k (iv sum),
                .k (valuess.v),
                .k (iv i),
                .ix g0 (kf false (.f 1) values (fun _ => valuess)) i (fun _ => ⟨by omega, by omega⟩),
                .le g0 (kf false (.f 1) values (fun _ => valuess)) i none false v1 hv1 (fun _ => ⟨by omega, by omega⟩) false (fun _ => [iv v1]),
                .a (sum + v1) (by omega) (by omega),
                .k (iv (sum + v1))] (fun _ _ => by kernel_rfl) fun _ _ G17 => ?_
              intro S17 t17
              refine V.go [.k (iv i),
                .a (i + 1) (by omega) (by omega),
                .k (iv (i + 1))] (fun _ _ => by kernel_rfl) fun _ _ G18 => ?_
              intro S18 t18
              refine V.rnd hZ1 (sum + v1, total + v1, i + 1) [0, 1, 2, 3, 4, 5, 6, 7] (by kernel_rfl) ?_ ?_
              · skip
                refine ⟨?_, ?_, ?_, ?_, ?_, ?_, ?_, ?_⟩
                · show 0 ≤ (i + 1)
                  omega
                · show (i + 1) ≤ (values.length : Int)
                  omega
                · show (total + v1) = Tm.totV values (i + 1).toNat
                  rw [← hu.2.2.2.2] <;> omega
                · show (sum + v1) = Rv.others values (Rv.plN (Tm.buildL v texts values blinds) at_).2 (i + 1).toNat
                  have ho := Rv.others_step (x := values) (W := (Rv.plN (Tm.buildL v texts values blinds) at_).2) (i := i) (by omega) hf4 hv1; rw [if_neg q9] at ho; rw [ho] <;> omega
                · show 0 ≤ (sum + v1)
                  omega
                · show (sum + v1) ≤ (total + v1)
                  omega
                · show 0 ≤ (i + 1)
                  omega
                · show (i + 1) ≤ values.length
                  omega
              · show ((values.length : Int) - (i + 1)).toNat < ((values.length : Int) - i).toNat
                omega
            · skip
              refine V.go [.k (iv i),
                .a (i + 1) (by omega) (by omega),
                .k (iv (i + 1))] (fun _ _ => by kernel_rfl) fun _ _ G19 => ?_
              intro S19 t19
              refine V.rnd hZ1 (sum, total + v1, i + 1) [0, 1, 2, 3, 4, 5, 6, 7] (by kernel_rfl) ?_ ?_
              · skip
                refine ⟨?_, ?_, ?_, ?_, ?_, ?_, ?_, ?_⟩
                · show 0 ≤ (i + 1)
                  omega
                · show (i + 1) ≤ (values.length : Int)
                  omega
                · show (total + v1) = Tm.totV values (i + 1).toNat
                  rw [← hu.2.2.2.2] <;> omega
                · show sum = Rv.others values (Rv.plN (Tm.buildL v texts values blinds) at_).2 (i + 1).toNat
                  have ho := Rv.others_step (x := values) (W := (Rv.plN (Tm.buildL v texts values blinds) at_).2) (i := i) (by omega) hf4 hv1; rw [if_pos q10] at ho; rw [ho] <;> omega
                · show 0 ≤ sum
                  omega
                · show sum ≤ (total + v1)
                  omega
                · show 0 ≤ (i + 1)
                  omega
                · show (i + 1) ≤ values.length
                  omega
              · show ((values.length : Int) - (i + 1)).toNat < ((values.length : Int) - i).toNat
                omega
          · skip
            refine V.go [.k (iv 0)] (fun _ _ => by kernel_rfl) fun _ _ G20 => ?_
            intro S20 t20
            refine V.loop (γ := Int) (fun i_1 => ⟨[(1, textss.v), (2, valuess.v), (3, blindss.v), (11, bv true), (17, ((G6 2).ss 1).v), (18, ((G9 3).ss 0).v), (19, ((G9 3).ss 1).v), (21, iv sum), (22, iv total), (24, iv i_1)], [fs false texts textss, fs false values valuess, fs false blinds blindss, fs true ((Rv.plN (Tm.buildL v texts values blinds) at_).2) ((G6 2).ss 1), fs true (fats (Rv.showP (Tm.buildT v texts values blinds) (Tm.buildR v texts values blinds) ((Rv.plN (Tm.buildL v texts values blinds) at_).1)) ((G9 3).sl 0)) ((G9 3).ss 0), fs true (fats (Rv.showS (Tm.buildT v texts values blinds) (Tm.buildR v texts values blinds) ((Rv.plN (Tm.buildL v texts values blinds) at_).1)) ((G9 3).sl 1)) ((G9 3).ss 1), fs false v vs, fs true (Tm.buildT v texts values blinds) ((G5 4).ss 0)], [.blk ((G1 0).b) (ca (DVault.mk ⟨v, vs⟩)) 24, .blk ((G5 10).b) (ca (DVault.mk ⟨Tm.buildT v texts values blinds, (G5 4).ss 0⟩)) 24, .no, .no]⟩) (fun i_1 => (0 ≤ i_1) ∧ (i_1 ≤ ((fats (Rv.showS (Tm.buildT v texts values blinds) (Tm.buildR v texts values blinds) ((Rv.plN (Tm.buildL v texts values blinds) at_).1)) ((G9 3).sl 1)).length : Int))) (fun i_1 => (((fats (Rv.showS (Tm.buildT v texts values blinds) (Tm.buildR v texts values blinds) ((Rv.plN (Tm.buildL v texts values blinds) at_).1)) ((G9 3).sl 1)).length : Int) - i_1).toNat) 0 (by kernel_rfl) [0, 1, 2, 3, 4, 5, 6, 7] (by kernel_rfl) ?_ ?_
            · skip
              refine ⟨?_, ?_⟩
              · show 0 ≤ (0 : Int)
                first | omega | rfl | (simp; done) | (subst_vars; simp; done)
              · show (0 : Int) ≤ ((fats (Rv.showS (Tm.buildT v texts values blinds) (Tm.buildR v texts values blinds) ((Rv.plN (Tm.buildL v texts values blinds) at_).1)) ((G9 3).sl 1)).length : Int)
                first | omega | rfl | (simp; done) | (subst_vars; simp; done)
            · rintro i_1 hF2 kw22 Z2 hZ2
              have hF2 : (0 ≤ i_1) ∧ (i_1 ≤ ((fats (Rv.showS (Tm.buildT v texts values blinds) (Tm.buildR v texts values blinds) ((Rv.plN (Tm.buildL v texts values blinds) at_).1)) ((G9 3).sl 1)).length : Int)) := hF2
              obtain ⟨hf9, hf10⟩ := hF2
              clear kw22
              refine V.go [.k (iv i_1),
                .k (((G9 3).ss 1).v),
                .ln (kf true (.f 5) (fats (Rv.showS (Tm.buildT v texts values blinds) (Tm.buildR v texts values blinds) ((Rv.plN (Tm.buildL v texts values blinds) at_).1)) ((G9 3).sl 1)) (fun _ => (G9 3).ss 1)),
                .k (bv (decide (i_1 < ((fats (Rv.showS (Tm.buildT v texts values blinds) (Tm.buildR v texts values blinds) ((Rv.plN (Tm.buildL v texts values blinds) at_).1)) ((G9 3).sl 1)).length : Int))))] (fun _ _ => by kernel_rfl) fun _ _ G21 => ?_
              intro S21 t21
              refine V.cond (b := decide (i_1 < ((fats (Rv.showS (Tm.buildT v texts values blinds) (Tm.buildR v texts values blinds) ((Rv.plN (Tm.buildL v texts values blinds) at_).1)) ((G9 3).sl 1)).length : Int))) iDT iDF (by kernel_rfl) (fun q11 => ?_) (fun q12 => ?_)
              · skip
                refine nm ((fats (Rv.showS (Tm.buildT v texts values blinds) (Tm.buildR v texts values blinds) ((Rv.plN (Tm.buildL v texts values blinds) at_).1)) ((G9 3).sl 1)).getD i_1.toNat default : Fat DThing) fun x1 hx1 => ?_
                refine V.reg [.k (((G9 3).ss 1).v),
                  .k (iv i_1),
                  .ix g0 (kf true (.f 5) (fats (Rv.showS (Tm.buildT v texts values blinds) (Tm.buildR v texts values blinds) ((Rv.plN (Tm.buildL v texts values blinds) at_).1)) ((G9 3).sl 1)) (fun _ => (G9 3).ss 1)) i_1 (fun _ => ⟨by omega, by omega⟩),
                  .le g0 (kf true (.f 5) (fats (Rv.showS (Tm.buildT v texts values blinds) (Tm.buildR v texts values blinds) ((Rv.plN (Tm.buildL v texts values blinds) at_).1)) ((G9 3).sl 1)) (fun _ => (G9 3).ss 1)) i_1 none true x1 hx1 (fun _ => ⟨by omega, by omega⟩) false (fun _ => [x1.s.v]),
                  .ln (kx true (.g 3 0) x1 x1.l (fun _ => x1.s) (fun _ _ h => h)),
                  .k (iv (x1.l.length : Int))] (fun _ _ => by kernel_rfl) fun _ _ G22 kw24 => ?_
                intro S22 t22
                obtain ⟨⟨kl12, -⟩, -⟩ : Lq x1.l x1.s.v ∧ True := kn kw24 (by kernel_rfl)
                clear kw24
                refine nm (((Rv.plN (Tm.buildL v texts values blinds) at_).2).getD i_1.toNat default : Int) fun v2 hv2 => ?_
                refine V.go [.k (((G6 2).ss 1).v),
                  .k (iv i_1),
                  .ix g0 (kf true (.f 3) ((Rv.plN (Tm.buildL v texts values blinds) at_).2) (fun _ => (G6 2).ss 1)) i_1 (fun _ => ⟨by omega, by omega⟩),
                  .le g0 (kf true (.f 3) ((Rv.plN (Tm.buildL v texts values blinds) at_).2) (fun _ => (G6 2).ss 1)) i_1 none false v2 hv2 (fun _ => ⟨by omega, by omega⟩) false (fun _ => [iv v2]),
                  .k (iv v2)] (fun _ _ => by kernel_rfl) fun _ _ G23 => ?_
                intro S23 t23
                obtain ⟨hr1, hr2, hr3, hr4, hr5, hr6⟩ := Rv.shows_round he hO hW (i := i_1) (by omega) (by omega) hx1 hv2
                refine nm ((decide ((x1.l.length : Int) = 0)) || (decide ((texts.length : Int) ≤ v2)) : Bool) fun p9 hp9 => ?_
                refine V.go [.k (iv (x1.l.length : Int)),
                  .k (bv (decide ((x1.l.length : Int) = 0))),
                  .k (bv (decide ((x1.l.length : Int) = 0))),
                  .k (iv v2),
                  .k (textss.v),
                  .ln (kf false (.f 0) texts (fun _ => textss)),
                  .k (bv (decide ((texts.length : Int) ≤ v2))),
                  .orn g0 false (decide ((x1.l.length : Int) = 0)) (decide ((texts.length : Int) ≤ v2)) p9 hp9] (fun _ _ => by kernel_rfl) fun _ _ G24 => ?_
                intro S24 t24
                refine V.cond (b := p9) (iN hp9 (iOT iDT iDT)) (iN hp9 (iOF iDF iDF)) (by kernel_rfl) (fun q13 => ?_) (fun q14 => ?_)
                · skip
                  rcases q13 with h | h <;> omega
                · skip
                  refine nm (x1.l.getD (0 : Int).toNat default : DThing) fun x2 hx2 => ?_
                  refine V.reg [.k (((G9 3).ss 1).v),
                    .k (iv i_1),
                    .ix g0 (kf true (.f 5) (fats (Rv.showS (Tm.buildT v texts values blinds) (Tm.buildR v texts values blinds) ((Rv.plN (Tm.buildL v texts values blinds) at_).1)) ((G9 3).sl 1)) (fun _ => (G9 3).ss 1)) i_1 (fun _ => ⟨by omega, by omega⟩),
                    .le g0 (kf true (.f 5) (fats (Rv.showS (Tm.buildT v texts values blinds) (Tm.buildR v texts values blinds) ((Rv.plN (Tm.buildL v texts values blinds) at_).1)) ((G9 3).sl 1)) (fun _ => (G9 3).ss 1)) i_1 none true x1 hx1 (fun _ => ⟨by omega, by omega⟩) false (fun _ => [x1.s.v]),
                    .ix g0 (kx true (.g 3 0) x1 x1.l (fun _ => x1.s) (fun _ _ h => h)) 0 (fun _ => ⟨by omega, by omega⟩),
                    .le g0 (kx true (.g 3 0) x1 x1.l (fun _ => x1.s) (fun _ _ h => h)) (0 : Int) none false x2 hx2 (fun _ => ⟨by omega, by omega⟩) true (fun _ => Dat.cells x2),
                    .nb 6 2 (fun b => pp b 0) 44 (fun _ => ca (DThing.mk ByteArray.empty 0 0 0 0)),
                    .st 2 (fun G => .blk ((G 6).b) (ca x2) 44)] (fun _ _ => by kernel_rfl) fun _ _ G25 kw27 => ?_
                  intro S25 t25
                  obtain ⟨⟨kl13, -⟩, -⟩ : Lq x1.l x1.s.v ∧ True := kn kw27 (by kernel_rfl)
                  clear kw27
                  refine nm ((x1.l.length : Int) - 1 : Int) fun n1 hn1 => ?_
                  refine nm (x1.l.getD n1.toNat default : DThing) fun x3 hx3 => ?_
                  refine V.reg [.k (((G9 3).ss 1).v),
                    .k (iv i_1),
                    .ix g0 (kf true (.f 5) (fats (Rv.showS (Tm.buildT v texts values blinds) (Tm.buildR v texts values blinds) ((Rv.plN (Tm.buildL v texts values blinds) at_).1)) ((G9 3).sl 1)) (fun _ => (G9 3).ss 1)) i_1 (fun _ => ⟨by omega, by omega⟩),
                    .le g0 (kf true (.f 5) (fats (Rv.showS (Tm.buildT v texts values blinds) (Tm.buildR v texts values blinds) ((Rv.plN (Tm.buildL v texts values blinds) at_).1)) ((G9 3).sl 1)) (fun _ => (G9 3).ss 1)) i_1 none true x1 hx1 (fun _ => ⟨by omega, by omega⟩) false (fun _ => [x1.s.v]),
                    .k (iv (x1.l.length : Int)),
                    .ar ((x1.l.length : Int) - 1) n1 hn1 (by omega) (by omega),
                    .ix g0 (kx true (.g 3 0) x1 x1.l (fun _ => x1.s) (fun _ _ h => h)) n1 (fun _ => ⟨by omega, by omega⟩),
                    .le g0 (kx true (.g 3 0) x1 x1.l (fun _ => x1.s) (fun _ _ h => h)) n1 none false x3 hx3 (fun _ => ⟨by omega, by omega⟩) true (fun _ => Dat.cells x3),
                    .nb 8 3 (fun b => pp b 0) 44 (fun _ => ca (DThing.mk ByteArray.empty 0 0 0 0)),
                    .st 3 (fun G => .blk ((G 8).b) (ca x3) 44)] (fun _ _ => by kernel_rfl) fun _ _ G26 kw28 => ?_
                  intro S26 t26
                  obtain ⟨⟨kl14, -⟩, -⟩ : Lq x1.l x1.s.v ∧ True := kn kw28 (by kernel_rfl)
                  clear kw28
                  refine nm (texts.getD v2.toNat default : ByteArray) fun x4 hx4 => ?_
                  refine nm ((!(decide (x2.Value = total))) || (!(decide (x3.Text = x4))) : Bool) fun p10 hp10 => ?_
                  refine nm (values.getD v2.toNat default : Int) fun v3 hv3 => ?_
                  refine nm (blinds.getD v2.toNat default : Int) fun v4 hv4 => ?_
                  refine nm ((p10 || (!(decide (x3.Value = v3)))) || (!(decide (x3.Blind = v4))) : Bool) fun p11 hp11 => ?_
                  have hrr := hr6 _ _ _ hx2 hn1 hx3
                  refine V.go [.k (pp ((G25 6).b) 1),
                    .ld 2 1 false (fun _ => [iv x2.Value]),
                    .k (iv total),
                    .k (bv (!(decide (x2.Value = total)))),
                    .k (bv (!(decide (x2.Value = total)))),
                    .k (pp ((G26 8).b) 0),
                    .ld 3 0 false (fun _ => [tv x3.Text]),
                    .k (textss.v),
                    .k (iv v2),
                    .ix (gF (b := !(decide (x2.Value = total))) (iNF iDT)) (kf false (.f 0) texts (fun _ => textss)) v2 (fun hg => ⟨by omega, by omega⟩),
                    .le (gF (b := !(decide (x2.Value = total))) (iNF iDT)) (kf false (.f 0) texts (fun _ => textss)) v2 none false x4 hx4 (fun hg => ⟨by omega, by omega⟩) false (fun _ => [tv x4]),
                    .sne x3.Text x4,
                    .orn g0 false (!(decide (x2.Value = total))) (!(decide (x3.Text = x4))) p10 hp10,
                    .k (bv p10),
                    .k (pp ((G26 8).b) 1),
                    .ld 3 1 false (fun _ => [iv x3.Value]),
                    .k (valuess.v),
                    .k (iv v2),
                    .ix (gF (b := p10) (iN hp10 (iOF (iNF iDT) (iNF iDT)))) (kf false (.f 1) values (fun _ => valuess)) v2 (fun hg => ⟨by omega, by omega⟩),
                    .le (gF (b := p10) (iN hp10 (iOF (iNF iDT) (iNF iDT)))) (kf false (.f 1) values (fun _ => valuess)) v2 none false v3 hv3 (fun hg => ⟨by omega, by omega⟩) false (fun _ => [iv v3]),
                    .k (bv (!(decide (x3.Value = v3)))),
                    .or g0 false p10 (!(decide (x3.Value = v3))),
                    .k (bv (p10 || (!(decide (x3.Value = v3))))),
                    .k (pp ((G26 8).b) 2),
                    .ld 3 2 false (fun _ => [iv x3.Blind]),
                    .k (blindss.v),
                    .k (iv v2),
                    .ix (gF (b := p10 || (!(decide (x3.Value = v3)))) (iOF (iN hp10 (iOF (iNF iDT) (iNF iDT))) (iNF iDT))) (kf false (.f 2) blinds (fun _ => blindss)) v2 (fun hg => ⟨by omega, by omega⟩),
                    .le (gF (b := p10 || (!(decide (x3.Value = v3)))) (iOF (iN hp10 (iOF (iNF iDT) (iNF iDT))) (iNF iDT))) (kf false (.f 2) blinds (fun _ => blindss)) v2 none false v4 hv4 (fun hg => ⟨by omega, by omega⟩) false (fun _ => [iv v4]),
                    .k (bv (!(decide (x3.Blind = v4)))),
                    .orn g0 false (p10 || (!(decide (x3.Value = v3)))) (!(decide (x3.Blind = v4))) p11 hp11] (fun _ _ => by kernel_rfl) fun _ _ G27 => ?_
                  intro S27 t27
                  refine V.cond (b := p11) (iN hp11 (iOT (iOT (iN hp10 (iOT (iNT iDF) (iNT iDF))) (iNT iDF)) (iNT iDF))) (iN hp11 (iOF (iOF (iN hp10 (iOF (iNF iDT) (iNF iDT))) (iNF iDT)) (iNF iDT))) (by kernel_rfl) (fun q15 => ?_) (fun q16 => ?_)
                  · skip
                    rcases q15 with ((h | h) | h) | h
                    · exact (h (hrr.1.trans (by rw [hf3]; congr 1; omega))).elim
                    · exact (h (hrr.2.1.trans hx4.symm)).elim
                    · exact (h (hrr.2.2.1.trans hv3.symm)).elim
                    · exact (h (hrr.2.2.2.trans hv4.symm)).elim
                  · skip
                    refine V.go [.k (iv i_1),
                      .a (i_1 + 1) (by omega) (by omega),
                      .k (iv (i_1 + 1))] (fun _ _ => by kernel_rfl) fun _ _ G28 => ?_
                    intro S28 t28
                    refine V.rnd hZ2 (i_1 + 1) [0, 1, 2, 3, 4, 5, 6, 7] (by kernel_rfl) ?_ ?_
                    · skip
                      refine ⟨?_, ?_⟩
                      · show 0 ≤ (i_1 + 1)
                        first | omega | rfl | (simp; done) | (subst_vars; simp; done)
                      · show (i_1 + 1) ≤ ((fats (Rv.showS (Tm.buildT v texts values blinds) (Tm.buildR v texts values blinds) ((Rv.plN (Tm.buildL v texts values blinds) at_).1)) ((G9 3).sl 1)).length : Int)
                        first | omega | rfl | (simp; done) | (subst_vars; simp; done)
                    · show (((fats (Rv.showS (Tm.buildT v texts values blinds) (Tm.buildR v texts values blinds) ((Rv.plN (Tm.buildL v texts values blinds) at_).1)) ((G9 3).sl 1)).length : Int) - (i_1 + 1)).toNat < (((fats (Rv.showS (Tm.buildT v texts values blinds) (Tm.buildR v texts values blinds) ((Rv.plN (Tm.buildL v texts values blinds) at_).1)) ((G9 3).sl 1)).length : Int) - i_1).toNat
                      omega
              · skip
                refine V.go [.k (((G9 3).ss 0).v),
                  .k (((G9 3).ss 1).v),
                  .cp g0 2 32 [(kf true (.f 4) (fats (Rv.showP (Tm.buildT v texts values blinds) (Tm.buildR v texts values blinds) ((Rv.plN (Tm.buildL v texts values blinds) at_).1)) ((G9 3).sl 0)) (fun _ => (G9 3).ss 0)).a, (kf true (.f 5) (fats (Rv.showS (Tm.buildT v texts values blinds) (Tm.buildR v texts values blinds) ((Rv.plN (Tm.buildL v texts values blinds) at_).1)) ((G9 3).sl 1)) (fun _ => (G9 3).ss 1)).a] (fun _ G => rest_ct (fats (Rv.showP (Tm.buildT v texts values blinds) (Tm.buildR v texts values blinds) ((Rv.plN (Tm.buildL v texts values blinds) at_).1)) ((G9 3).sl 0)) ((G9 3).ss 0) (fats (Rv.showS (Tm.buildT v texts values blinds) (Tm.buildR v texts values blinds) ((Rv.plN (Tm.buildL v texts values blinds) at_).1)) ((G9 3).sl 1)) ((G9 3).ss 1)),
                  .k (.tuple #[iv (Rv.restV (Rv.ls (fats (Rv.showP (Tm.buildT v texts values blinds) (Tm.buildR v texts values blinds) ((Rv.plN (Tm.buildL v texts values blinds) at_).1)) ((G9 3).sl 0))) (Rv.ls (fats (Rv.showS (Tm.buildT v texts values blinds) (Tm.buildR v texts values blinds) ((Rv.plN (Tm.buildL v texts values blinds) at_).1)) ((G9 3).sl 1)))), bv (decide (Rv.restB (Rv.ls (fats (Rv.showP (Tm.buildT v texts values blinds) (Tm.buildR v texts values blinds) ((Rv.plN (Tm.buildL v texts values blinds) at_).1)) ((G9 3).sl 0))) (Rv.ls (fats (Rv.showS (Tm.buildT v texts values blinds) (Tm.buildR v texts values blinds) ((Rv.plN (Tm.buildL v texts values blinds) at_).1)) ((G9 3).sl 1)))))]),
                  .k (iv (Rv.restV (Rv.ls (fats (Rv.showP (Tm.buildT v texts values blinds) (Tm.buildR v texts values blinds) ((Rv.plN (Tm.buildL v texts values blinds) at_).1)) ((G9 3).sl 0))) (Rv.ls (fats (Rv.showS (Tm.buildT v texts values blinds) (Tm.buildR v texts values blinds) ((Rv.plN (Tm.buildL v texts values blinds) at_).1)) ((G9 3).sl 1))))),
                  .k (bv (decide (Rv.restB (Rv.ls (fats (Rv.showP (Tm.buildT v texts values blinds) (Tm.buildR v texts values blinds) ((Rv.plN (Tm.buildL v texts values blinds) at_).1)) ((G9 3).sl 0))) (Rv.ls (fats (Rv.showS (Tm.buildT v texts values blinds) (Tm.buildR v texts values blinds) ((Rv.plN (Tm.buildL v texts values blinds) at_).1)) ((G9 3).sl 1)))))),
                  .k (iv (Rv.restV (Rv.ls (fats (Rv.showP (Tm.buildT v texts values blinds) (Tm.buildR v texts values blinds) ((Rv.plN (Tm.buildL v texts values blinds) at_).1)) ((G9 3).sl 0))) (Rv.ls (fats (Rv.showS (Tm.buildT v texts values blinds) (Tm.buildR v texts values blinds) ((Rv.plN (Tm.buildL v texts values blinds) at_).1)) ((G9 3).sl 1))))),
                  .k (bv (decide (Rv.restB (Rv.ls (fats (Rv.showP (Tm.buildT v texts values blinds) (Tm.buildR v texts values blinds) ((Rv.plN (Tm.buildL v texts values blinds) at_).1)) ((G9 3).sl 0))) (Rv.ls (fats (Rv.showS (Tm.buildT v texts values blinds) (Tm.buildR v texts values blinds) ((Rv.plN (Tm.buildL v texts values blinds) at_).1)) ((G9 3).sl 1))))))] (fun _ _ => by kernel_rfl) fun _ _ G29 => ?_
                intro S29 t29
                refine nm ((decide (Rv.restB (Rv.ls (fats (Rv.showP (Tm.buildT v texts values blinds) (Tm.buildR v texts values blinds) ((Rv.plN (Tm.buildL v texts values blinds) at_).1)) ((G9 3).sl 0))) (Rv.ls (fats (Rv.showS (Tm.buildT v texts values blinds) (Tm.buildR v texts values blinds) ((Rv.plN (Tm.buildL v texts values blinds) at_).1)) ((G9 3).sl 1))))) && (decide (Rv.restV (Rv.ls (fats (Rv.showP (Tm.buildT v texts values blinds) (Tm.buildR v texts values blinds) ((Rv.plN (Tm.buildL v texts values blinds) at_).1)) ((G9 3).sl 0))) (Rv.ls (fats (Rv.showS (Tm.buildT v texts values blinds) (Tm.buildR v texts values blinds) ((Rv.plN (Tm.buildL v texts values blinds) at_).1)) ((G9 3).sl 1))) = sum)) : Bool) fun p12 hp12 => ?_
                refine V.go [.k (bv true),
                  .k (bv true),
                  .k (bv (decide (Rv.restB (Rv.ls (fats (Rv.showP (Tm.buildT v texts values blinds) (Tm.buildR v texts values blinds) ((Rv.plN (Tm.buildL v texts values blinds) at_).1)) ((G9 3).sl 0))) (Rv.ls (fats (Rv.showS (Tm.buildT v texts values blinds) (Tm.buildR v texts values blinds) ((Rv.plN (Tm.buildL v texts values blinds) at_).1)) ((G9 3).sl 1)))))),
                  .k (bv (decide (Rv.restB (Rv.ls (fats (Rv.showP (Tm.buildT v texts values blinds) (Tm.buildR v texts values blinds) ((Rv.plN (Tm.buildL v texts values blinds) at_).1)) ((G9 3).sl 0))) (Rv.ls (fats (Rv.showS (Tm.buildT v texts values blinds) (Tm.buildR v texts values blinds) ((Rv.plN (Tm.buildL v texts values blinds) at_).1)) ((G9 3).sl 1)))))),
                  .k (bv (decide (Rv.restB (Rv.ls (fats (Rv.showP (Tm.buildT v texts values blinds) (Tm.buildR v texts values blinds) ((Rv.plN (Tm.buildL v texts values blinds) at_).1)) ((G9 3).sl 0))) (Rv.ls (fats (Rv.showS (Tm.buildT v texts values blinds) (Tm.buildR v texts values blinds) ((Rv.plN (Tm.buildL v texts values blinds) at_).1)) ((G9 3).sl 1)))))),
                  .k (iv (Rv.restV (Rv.ls (fats (Rv.showP (Tm.buildT v texts values blinds) (Tm.buildR v texts values blinds) ((Rv.plN (Tm.buildL v texts values blinds) at_).1)) ((G9 3).sl 0))) (Rv.ls (fats (Rv.showS (Tm.buildT v texts values blinds) (Tm.buildR v texts values blinds) ((Rv.plN (Tm.buildL v texts values blinds) at_).1)) ((G9 3).sl 1))))),
                  .k (iv sum),
                  .k (bv (decide (Rv.restV (Rv.ls (fats (Rv.showP (Tm.buildT v texts values blinds) (Tm.buildR v texts values blinds) ((Rv.plN (Tm.buildL v texts values blinds) at_).1)) ((G9 3).sl 0))) (Rv.ls (fats (Rv.showS (Tm.buildT v texts values blinds) (Tm.buildR v texts values blinds) ((Rv.plN (Tm.buildL v texts values blinds) at_).1)) ((G9 3).sl 1))) = sum))),
                  .andn g0 false (decide (Rv.restB (Rv.ls (fats (Rv.showP (Tm.buildT v texts values blinds) (Tm.buildR v texts values blinds) ((Rv.plN (Tm.buildL v texts values blinds) at_).1)) ((G9 3).sl 0))) (Rv.ls (fats (Rv.showS (Tm.buildT v texts values blinds) (Tm.buildR v texts values blinds) ((Rv.plN (Tm.buildL v texts values blinds) at_).1)) ((G9 3).sl 1))))) (decide (Rv.restV (Rv.ls (fats (Rv.showP (Tm.buildT v texts values blinds) (Tm.buildR v texts values blinds) ((Rv.plN (Tm.buildL v texts values blinds) at_).1)) ((G9 3).sl 0))) (Rv.ls (fats (Rv.showS (Tm.buildT v texts values blinds) (Tm.buildR v texts values blinds) ((Rv.plN (Tm.buildL v texts values blinds) at_).1)) ((G9 3).sl 1))) = sum)) p12 hp12,
                  .k (bv p12)] (fun _ _ => by kernel_rfl) fun _ _ G30 => ?_
                intro S30 t30
                have e0 : p12 = true := by
                  refine (iN hp12 (iAT iDT iDT)).2 ?_
                  refine ⟨by rw [Rv.ls_fats, Rv.ls_fats]; exact hI6, ?_⟩
                  rw [Rv.ls_fats, Rv.ls_fats, hI7, hf4]; congr 1; omega
                exact V.ret [0] [] [] [] [] [] (bv p12) (fun _ _ => by kernel_rfl) (fun _ _ => (Eq.trans (by kernel_rfl) (cong1 (fun (x0 : Bool) => (bv x0 : Value)) e0)).trans (by kernel_rfl)) (fun _ _ => trivial)

end Kb
