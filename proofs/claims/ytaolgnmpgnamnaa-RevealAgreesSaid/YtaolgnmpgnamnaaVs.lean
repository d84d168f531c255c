/- The examples of the law. -/
import Derived.Test.YtaolgnmpgnamnaaVr
import Derived.Test.YtaolgnmpgnamnaaVf
import Derived.Test.YtaolgnmpgnamnaaTb
set_option linter.unusedVariables false
set_option linter.unusedSimpArgs false
namespace Kb
open Go Go.Proofs
set_option maxRecDepth 10000 in
theorem example_ct :
    Ct Try.prog 61 #[] [] [] (fun g => ag (DVault.mk ⟨Tm.exT, (g.ss 0)⟩)) (fun g => [fs true Tm.exT (g.ss 0)]) (fun g => []) (fun g => []) := by
  refine V.fn mo Try.func61 16 2 (by kernel_rfl) fun w H ε k0 => ?_
  clear k0
  refine V.go [.nb 0 0 (fun b => pp b 0) 24 (fun _ => ca (DVault.mk ⟨[], {}⟩))] (fun _ _ => by kernel_rfl) fun _ _ G1 => ?_
  intro S1 t1
  refine V.reg [.k (ag (DVault.mk ⟨[], {}⟩)),
    .nr 1 true 9 ([⟨#[97]⟩, ⟨#[98]⟩, ⟨#[99]⟩] : List ByteArray) [] (fun _ _ _ _ _ => trivial) (fun _ => #[tv ⟨#[97]⟩, tv ⟨#[98]⟩, tv ⟨#[99]⟩]),
    .nr 2 true 3 ([30, 20, 10] : List Int) [] (fun _ _ _ _ _ => trivial) (fun _ => #[iv 30, iv 20, iv 10]),
    .nr 3 true 3 ([7, 8, 9] : List Int) [] (fun _ _ _ _ _ => trivial) (fun _ => #[iv 7, iv 8, iv 9]),
    .ct g0 4 16 false [] [] [(knil (α := DThing)).a, (kf true (.g 1 0) ([⟨#[97]⟩, ⟨#[98]⟩, ⟨#[99]⟩] : List ByteArray) (fun G => ⟨atB (G 1).b, 3, 3⟩)).a, (kf true (.g 2 0) ([30, 20, 10] : List Int) (fun G => ⟨atB (G 2).b, 3, 3⟩)).a, (kf true (.g 3 0) ([7, 8, 9] : List Int) (fun G => ⟨atB (G 3).b, 3, 3⟩)).a] (fun _ G => build_ct ([] : List DThing) ({}) ([⟨#[97]⟩, ⟨#[98]⟩, ⟨#[99]⟩] : List ByteArray) ⟨atB (G 1).b, 3, 3⟩ ([30, 20, 10] : List Int) ⟨atB (G 2).b, 3, 3⟩ ([7, 8, 9] : List Int) ⟨atB (G 3).b, 3, 3⟩),
    .v fun G => .tuple #[ag (DVault.mk ⟨Tm.buildT ([] : List DThing) ([⟨#[97]⟩, ⟨#[98]⟩, ⟨#[99]⟩] : List ByteArray) ([30, 20, 10] : List Int) ([7, 8, 9] : List Int), (G 4).ss 0⟩), iv (Tm.buildR ([] : List DThing) ([⟨#[97]⟩, ⟨#[98]⟩, ⟨#[99]⟩] : List ByteArray) ([30, 20, 10] : List Int) ([7, 8, 9] : List Int)), ((G 4).ss 1).v, iv (Tm.buildE ([] : List DThing) ([⟨#[97]⟩, ⟨#[98]⟩, ⟨#[99]⟩] : List ByteArray) ([30, 20, 10] : List Int) ([7, 8, 9] : List Int))],
    .v fun G => ag (DVault.mk ⟨Tm.buildT ([] : List DThing) ([⟨#[97]⟩, ⟨#[98]⟩, ⟨#[99]⟩] : List ByteArray) ([30, 20, 10] : List Int) ([7, 8, 9] : List Int), (G 4).ss 0⟩),
    .k (iv (Tm.buildR ([] : List DThing) ([⟨#[97]⟩, ⟨#[98]⟩, ⟨#[99]⟩] : List ByteArray) ([30, 20, 10] : List Int) ([7, 8, 9] : List Int))),
    .v fun G => ((G 4).ss 1).v,
    .k (iv (Tm.buildE ([] : List DThing) ([⟨#[97]⟩, ⟨#[98]⟩, ⟨#[99]⟩] : List ByteArray) ([30, 20, 10] : List Int) ([7, 8, 9] : List Int))),
    .nb 10 1 (fun b => pp b 0) 24 (fun _ => ca (DVault.mk ⟨[], {}⟩)),
    .st 1 (fun G => .blk ((G 10).b) (ca (DVault.mk ⟨Tm.buildT ([] : List DThing) ([⟨#[97]⟩, ⟨#[98]⟩, ⟨#[99]⟩] : List ByteArray) ([30, 20, 10] : List Int) ([7, 8, 9] : List Int), (G 4).ss 0⟩)) 24),
    .k (iv (Tm.buildR ([] : List DThing) ([⟨#[97]⟩, ⟨#[98]⟩, ⟨#[99]⟩] : List ByteArray) ([30, 20, 10] : List Int) ([7, 8, 9] : List Int))),
    .v fun G => ((G 4).ss 1).v,
    .k (iv (Tm.buildE ([] : List DThing) ([⟨#[97]⟩, ⟨#[98]⟩, ⟨#[99]⟩] : List ByteArray) ([30, 20, 10] : List Int) ([7, 8, 9] : List Int)))] (fun _ _ => by kernel_rfl) fun _ _ G2 kw2 => ?_
  intro S2 t2
  obtain ⟨⟨kl1, -⟩, ⟨kl2, -⟩, ⟨kl3, -⟩, ⟨kl4, -⟩, ⟨kl5, -⟩, -⟩ : Lq ([⟨#[97]⟩, ⟨#[98]⟩, ⟨#[99]⟩] : List ByteArray) (SV.v ⟨atB (G2 1).b, 3, 3⟩) ∧ Lq ([30, 20, 10] : List Int) (SV.v ⟨atB (G2 2).b, 3, 3⟩) ∧ Lq ([7, 8, 9] : List Int) (SV.v ⟨atB (G2 3).b, 3, 3⟩) ∧ Lq (Tm.buildT ([] : List DThing) ([⟨#[97]⟩, ⟨#[98]⟩, ⟨#[99]⟩] : List ByteArray) ([30, 20, 10] : List Int) ([7, 8, 9] : List Int)) (((G2 4).ss 0).v) ∧ Lq (Tm.buildL ([] : List DThing) ([⟨#[97]⟩, ⟨#[98]⟩, ⟨#[99]⟩] : List ByteArray) ([30, 20, 10] : List Int) ([7, 8, 9] : List Int)) (((G2 4).ss 1).v) ∧ True := kn kw2 (by kernel_rfl)
  clear kw2
  refine V.go [.ld 1 0 true (fun _ => Dat.cells (DVault.mk ⟨Tm.buildT ([] : List DThing) ([⟨#[97]⟩, ⟨#[98]⟩, ⟨#[99]⟩] : List ByteArray) ([30, 20, 10] : List Int) ([7, 8, 9] : List Int), (G2 4).ss 0⟩)),
    .st 0 (fun _ => .blk ((G1 0).b) (ca (DVault.mk ⟨Tm.buildT ([] : List DThing) ([⟨#[97]⟩, ⟨#[98]⟩, ⟨#[99]⟩] : List ByteArray) ([30, 20, 10] : List Int) ([7, 8, 9] : List Int), (G2 4).ss 0⟩)) 24)] (fun _ _ => by kernel_rfl) fun _ _ G3 => ?_
  intro S3 t3
  have e0 : Tm.buildT ([] : List DThing) ([⟨#[97]⟩, ⟨#[98]⟩, ⟨#[99]⟩] : List ByteArray) ([30, 20, 10] : List Int) ([7, 8, 9] : List Int) = Tm.exT := by
    kernel_rfl
  rw [← e0]
  exact V.ret [0] [(G2 4).ss 0] [fun _ => {}] [] [3] [] (ag (DVault.mk ⟨Tm.buildT ([] : List DThing) ([⟨#[97]⟩, ⟨#[98]⟩, ⟨#[99]⟩] : List ByteArray) ([30, 20, 10] : List Int) ([7, 8, 9] : List Int), (G2 4).ss 0⟩)) (fun _ _ => by kernel_rfl) (fun _ _ => by kernel_rfl) (fun _ _ => trivial)

theorem show_ctv (v : List DThing) (vs : SV) (root : Int) (open_ : List Int) (open_s : SV) (rP : List (List Int)) (rS : List (List DThing)) (rE : Int) (erP : Rv.showP v root open_ = rP) (erS : Rv.showS v root open_ = rS) (erE : Rv.showE v root open_ = rE) :
    Ct Try.prog 30 #[ag (DVault.mk ⟨v, vs⟩), iv root, open_s.v] [fs true v vs, fs true open_ open_s] [] (fun g => .tuple #[((g.ss 0)).v, ((g.ss 1)).v, iv (rE)]) (fun g => [fs true (fats (rP) (g.sl 0)) (g.ss 0), fs true (fats (rS) (g.sl 1)) (g.ss 1)]) (fun g => []) (fun g => []) := by
  subst erP erS erE; exact show_ct v vs root open_ open_s 

theorem rest_ctv (paths : List (Fat Int)) (pathss : SV) (seen : List (Fat DThing)) (seens : SV) (rV : Int) (rB : Bool) (erV : Rv.restV (Rv.ls paths) (Rv.ls seen) = rV) (erB : decide (Rv.restB (Rv.ls paths) (Rv.ls seen)) = rB) :
    Cp Try.prog 32 #[pathss.v, seens.v] [fs true paths pathss, fs true seen seens] (.tuple #[iv (rV), bv (rB)]) := by
  subst erV erB; exact rest_ct paths pathss seen seens 

theorem agree_ctv (paths : List (Fat Int)) (pathss : SV) (seen : List (Fat DThing)) (seens : SV) (others : List (Fat Int)) (otherss : SV) (shown : List (Fat DThing)) (showns : SV) (rB : Bool) (erB : decide (Rv.AgreeP (Rv.ls paths) (Rv.ls seen) (Rv.ls others) (Rv.ls shown)) = rB) :
    Cp Try.prog 37 #[pathss.v, seens.v, otherss.v, showns.v] [fs true paths pathss, fs true seen seens, fs true others otherss, fs true shown showns] (bv (rB)) := by
  subst erB; exact agree_ct paths pathss seen seens others otherss shown showns 

theorem rcheck_ctv (v : List DThing) (vs : SV) (paths : List (Fat Int)) (pathss : SV) (seen : List (Fat DThing)) (seens : SV) (rB : Bool) (hp : ∀ x ∈ paths, x.l.length ≤ 5000000000000) (erB : decide (Rv.CheckP v (Rv.ls paths) (Rv.ls seen)) = rB) :
    Cp Try.prog 35 #[ag (DVault.mk ⟨v, vs⟩), pathss.v, seens.v] [fs true v vs, fs true paths pathss, fs true seen seens] (bv (rB)) := by
  subst erB; exact rcheck_ct v vs paths pathss seen seens hp

theorem samei_ctv (a : List Int) (as_ : SV) (b : List Int) (bs : SV) (rB : Bool) (erB : decide (a = b) = rB) :
    Cp Try.prog 19 #[as_.v, bs.v] [fs true a as_, fs true b bs] (bv (rB)) := by
  subst erB; exact samei_ct a as_ b bs 

set_option maxRecDepth 10000 in
theorem sane_ct :
    Cp Try.prog 28 #[] [] (bv true) := by
  refine V.fn mo Try.func28 194 2 (by kernel_rfl) fun w H ε k0 => ?_
  clear k0
  refine V.go [.k (bv false)] (fun _ _ => by kernel_rfl) fun _ _ G1 => ?_
  intro S1 t1
  refine V.reg [.ct g0 0 61 false [] [] [] (fun _ G => example_ct ),
    .nb 1 0 (fun b => pp b 0) 24 (fun _ => ca (DVault.mk ⟨[], {}⟩)),
    .st 0 (fun G => .blk ((G 1).b) (ca (DVault.mk ⟨Tm.exT, (G 0).ss 0⟩)) 24)] (fun _ _ => by kernel_rfl) fun _ _ G2 kw2 => ?_
  intro S2 t2
  obtain ⟨⟨kl1, -⟩, -⟩ : Lq Tm.exT (((G2 0).ss 0).v) ∧ True := kn kw2 (by kernel_rfl)
  clear kw2
  refine V.reg [.ld 0 0 true (fun _ => Dat.cells (DVault.mk ⟨Tm.exT, (G2 0).ss 0⟩)),
    .nr 1 true 3 ([1, 2] : List Int) [] (fun _ _ _ _ _ => trivial) (fun _ => #[iv 1, iv 2]),
    .ct g0 2 30 false [] [] [(kf true (.f 0) Tm.exT (fun _ => (G2 0).ss 0)).a, (kf true (.g 1 0) ([1, 2] : List Int) (fun G => ⟨atB (G 1).b, 2, 2⟩)).a] (fun _ G => show_ctv Tm.exT ((G2 0).ss 0) (4 : Int) ([1, 2] : List Int) ⟨atB (G 1).b, 2, 2⟩ ([[4, 3, 1], [4, 2]] : List (List Int)) ([[⟨ByteArray.empty, 60, 24, 3, 2⟩, ⟨ByteArray.empty, -1, -1, 0, 1⟩, ⟨⟨#[98]⟩, 20, 8, -1, -1⟩], [⟨ByteArray.empty, 60, 24, 3, 2⟩, ⟨⟨#[99]⟩, 10, 9, -1, -1⟩]] : List (List DThing)) 0 (by kernel_rfl) (by kernel_rfl) (by kernel_rfl)),
    .v fun G => .tuple #[((G 2).ss 0).v, ((G 2).ss 1).v, iv (0 : Int)],
    .v fun G => ((G 2).ss 0).v,
    .v fun G => ((G 2).ss 1).v,
    .k (iv (0 : Int)),
    .v fun G => ((G 2).ss 0).v,
    .v fun G => ((G 2).ss 1).v,
    .k (iv (0 : Int))] (fun _ _ => by kernel_rfl) fun _ _ G3 kw3 => ?_
  intro S3 t3
  obtain ⟨⟨kl2, -⟩, ⟨kl3, -⟩, ⟨kl4, -⟩, -⟩ : Lq ([1, 2] : List Int) (SV.v ⟨atB (G3 1).b, 2, 2⟩) ∧ Lq (fats ([[4, 3, 1], [4, 2]] : List (List Int)) ((G3 2).sl 0)) (((G3 2).ss 0).v) ∧ Lq (fats ([[⟨ByteArray.empty, 60, 24, 3, 2⟩, ⟨ByteArray.empty, -1, -1, 0, 1⟩, ⟨⟨#[98]⟩, 20, 8, -1, -1⟩], [⟨ByteArray.empty, 60, 24, 3, 2⟩, ⟨⟨#[99]⟩, 10, 9, -1, -1⟩]] : List (List DThing)) ((G3 2).sl 1)) (((G3 2).ss 1).v) ∧ True := kn kw3 (by kernel_rfl)
  clear kw3
  refine V.go [.k (((G3 2).ss 0).v),
    .k (((G3 2).ss 1).v),
    .cp g0 2 32 [(kf true (.f 2) (fats ([[4, 3, 1], [4, 2]] : List (List Int)) ((G3 2).sl 0)) (fun _ => (G3 2).ss 0)).a, (kf true (.f 3) (fats ([[⟨ByteArray.empty, 60, 24, 3, 2⟩, ⟨ByteArray.empty, -1, -1, 0, 1⟩, ⟨⟨#[98]⟩, 20, 8, -1, -1⟩], [⟨ByteArray.empty, 60, 24, 3, 2⟩, ⟨⟨#[99]⟩, 10, 9, -1, -1⟩]] : List (List DThing)) ((G3 2).sl 1)) (fun _ => (G3 2).ss 1)).a] (fun _ G => rest_ctv (fats ([[4, 3, 1], [4, 2]] : List (List Int)) ((G3 2).sl 0)) ((G3 2).ss 0) (fats ([[⟨ByteArray.empty, 60, 24, 3, 2⟩, ⟨ByteArray.empty, -1, -1, 0, 1⟩, ⟨⟨#[98]⟩, 20, 8, -1, -1⟩], [⟨ByteArray.empty, 60, 24, 3, 2⟩, ⟨⟨#[99]⟩, 10, 9, -1, -1⟩]] : List (List DThing)) ((G3 2).sl 1)) ((G3 2).ss 1) 30 true (by kernel_rfl) (by kernel_rfl)),
    .k (.tuple #[iv (30 : Int), bv true]),
    .k (iv (30 : Int)),
    .k (bv true),
    .k (iv (30 : Int)),
    .k (bv true)] (fun _ _ => by kernel_rfl) fun _ _ G4 => ?_
  intro S4 t4
  refine V.reg [.ld 0 0 true (fun _ => Dat.cells (DVault.mk ⟨Tm.exT, (G2 0).ss 0⟩)),
    .nr 1 true 3 ([1, 1] : List Int) [] (fun _ _ _ _ _ => trivial) (fun _ => #[iv 1, iv 1]),
    .ct g0 2 30 false [] [] [(kf true (.f 0) Tm.exT (fun _ => (G2 0).ss 0)).a, (kf true (.g 1 0) ([1, 1] : List Int) (fun G => ⟨atB (G 1).b, 2, 2⟩)).a] (fun _ G => show_ctv Tm.exT ((G2 0).ss 0) (4 : Int) ([1, 1] : List Int) ⟨atB (G 1).b, 2, 2⟩ ([] : List (List Int)) ([] : List (List DThing)) 5 (by kernel_rfl) (by kernel_rfl) (by kernel_rfl)),
    .v fun G => .tuple #[((G 2).ss 0).v, ((G 2).ss 1).v, iv (5 : Int)],
    .v fun G => ((G 2).ss 0).v,
    .v fun G => ((G 2).ss 1).v,
    .k (iv (5 : Int)),
    .v fun G => ((G 2).ss 0).v,
    .v fun G => ((G 2).ss 1).v,
    .k (iv (5 : Int))] (fun _ _ => by kernel_rfl) fun _ _ G5 kw5 => ?_
  intro S5 t5
  obtain ⟨⟨kl5, -⟩, ⟨kl6, -⟩, ⟨kl7, -⟩, -⟩ : Lq ([1, 1] : List Int) (SV.v ⟨atB (G5 1).b, 2, 2⟩) ∧ Lq (fats ([] : List (List Int)) ((G5 2).sl 0)) (((G5 2).ss 0).v) ∧ Lq (fats ([] : List (List DThing)) ((G5 2).sl 1)) (((G5 2).ss 1).v) ∧ True := kn kw5 (by kernel_rfl)
  clear kw5
  refine V.reg [.ld 0 0 true (fun _ => Dat.cells (DVault.mk ⟨Tm.exT, (G2 0).ss 0⟩)),
    .nr 1 true 3 ([3] : List Int) [] (fun _ _ _ _ _ => trivial) (fun _ => #[iv 3]),
    .ct g0 2 30 false [] [] [(kf true (.f 0) Tm.exT (fun _ => (G2 0).ss 0)).a, (kf true (.g 1 0) ([3] : List Int) (fun G => ⟨atB (G 1).b, 1, 1⟩)).a] (fun _ G => show_ctv Tm.exT ((G2 0).ss 0) (4 : Int) ([3] : List Int) ⟨atB (G 1).b, 1, 1⟩ ([] : List (List Int)) ([] : List (List DThing)) 4 (by kernel_rfl) (by kernel_rfl) (by kernel_rfl)),
    .v fun G => .tuple #[((G 2).ss 0).v, ((G 2).ss 1).v, iv (4 : Int)],
    .v fun G => ((G 2).ss 0).v,
    .v fun G => ((G 2).ss 1).v,
    .k (iv (4 : Int)),
    .v fun G => ((G 2).ss 0).v,
    .v fun G => ((G 2).ss 1).v,
    .k (iv (4 : Int))] (fun _ _ => by kernel_rfl) fun _ _ G6 kw6 => ?_
  intro S6 t6
  obtain ⟨⟨kl8, -⟩, ⟨kl9, -⟩, ⟨kl10, -⟩, -⟩ : Lq ([3] : List Int) (SV.v ⟨atB (G6 1).b, 1, 1⟩) ∧ Lq (fats ([] : List (List Int)) ((G6 2).sl 0)) (((G6 2).ss 0).v) ∧ Lq (fats ([] : List (List DThing)) ((G6 2).sl 1)) (((G6 2).ss 1).v) ∧ True := kn kw6 (by kernel_rfl)
  clear kw6
  refine V.reg [.ld 0 0 true (fun _ => Dat.cells (DVault.mk ⟨Tm.exT, (G2 0).ss 0⟩)),
    .nr 1 true 3 ([2] : List Int) [] (fun _ _ _ _ _ => trivial) (fun _ => #[iv 2]),
    .ct g0 2 30 false [] [] [(kf true (.f 0) Tm.exT (fun _ => (G2 0).ss 0)).a, (kf true (.g 1 0) ([2] : List Int) (fun G => ⟨atB (G 1).b, 1, 1⟩)).a] (fun _ G => show_ctv Tm.exT ((G2 0).ss 0) (3 : Int) ([2] : List Int) ⟨atB (G 1).b, 1, 1⟩ ([] : List (List Int)) ([] : List (List DThing)) 4 (by kernel_rfl) (by kernel_rfl) (by kernel_rfl)),
    .v fun G => .tuple #[((G 2).ss 0).v, ((G 2).ss 1).v, iv (4 : Int)],
    .v fun G => ((G 2).ss 0).v,
    .v fun G => ((G 2).ss 1).v,
    .k (iv (4 : Int)),
    .v fun G => ((G 2).ss 0).v,
    .v fun G => ((G 2).ss 1).v,
    .k (iv (4 : Int))] (fun _ _ => by kernel_rfl) fun _ _ G7 kw7 => ?_
  intro S7 t7
  obtain ⟨⟨kl11, -⟩, ⟨kl12, -⟩, ⟨kl13, -⟩, -⟩ : Lq ([2] : List Int) (SV.v ⟨atB (G7 1).b, 1, 1⟩) ∧ Lq (fats ([] : List (List Int)) ((G7 2).sl 0)) (((G7 2).ss 0).v) ∧ Lq (fats ([] : List (List DThing)) ((G7 2).sl 1)) (((G7 2).ss 1).v) ∧ True := kn kw7 (by kernel_rfl)
  clear kw7
  refine nm ((!(decide ((0 : Int) = 0))) || (!(decide ((5 : Int) = 5))) : Bool) fun p1 hp1 => ?_
  refine nm ((p1 || (!(decide ((4 : Int) = 4)))) || (!(decide ((4 : Int) = 4))) : Bool) fun p2 hp2 => ?_
  refine nm ((p2 || false) || (!(decide ((30 : Int) = 30))) : Bool) fun p3 hp3 => ?_
  refine nm (p3 || (!(decide (((fats ([[4, 3, 1], [4, 2]] : List (List Int)) ((G3 2).sl 0)).length : Int) = 2))) : Bool) fun p4 hp4 => ?_
  refine nm (p4 || (!(decide (((fats ([[⟨ByteArray.empty, 60, 24, 3, 2⟩, ⟨ByteArray.empty, -1, -1, 0, 1⟩, ⟨⟨#[98]⟩, 20, 8, -1, -1⟩], [⟨ByteArray.empty, 60, 24, 3, 2⟩, ⟨⟨#[99]⟩, 10, 9, -1, -1⟩]] : List (List DThing)) ((G3 2).sl 1)).length : Int) = 2))) : Bool) fun p5 hp5 => ?_
  refine V.go [.k (iv (0 : Int)),
    .k (bv (!(decide ((0 : Int) = 0)))),
    .k (bv (!(decide ((0 : Int) = 0)))),
    .k (iv (5 : Int)),
    .k (bv (!(decide ((5 : Int) = 5)))),
    .orn g0 false (!(decide ((0 : Int) = 0))) (!(decide ((5 : Int) = 5))) p1 hp1,
    .k (bv p1),
    .k (iv (4 : Int)),
    .k (bv (!(decide ((4 : Int) = 4)))),
    .or g0 false p1 (!(decide ((4 : Int) = 4))),
    .k (bv (p1 || (!(decide ((4 : Int) = 4))))),
    .k (iv (4 : Int)),
    .k (bv (!(decide ((4 : Int) = 4)))),
    .orn g0 false (p1 || (!(decide ((4 : Int) = 4)))) (!(decide ((4 : Int) = 4))) p2 hp2,
    .k (bv p2),
    .k (bv true),
    .k (bv false),
    .or g0 false p2 false,
    .k (bv (p2 || false)),
    .k (iv (30 : Int)),
    .k (bv (!(decide ((30 : Int) = 30)))),
    .orn g0 false (p2 || false) (!(decide ((30 : Int) = 30))) p3 hp3,
    .k (bv p3),
    .k (((G3 2).ss 0).v),
    .ln (kf true (.f 2) (fats ([[4, 3, 1], [4, 2]] : List (List Int)) ((G3 2).sl 0)) (fun _ => (G3 2).ss 0)),
    .k (bv (!(decide (((fats ([[4, 3, 1], [4, 2]] : List (List Int)) ((G3 2).sl 0)).length : Int) = 2)))),
    .orn g0 false p3 (!(decide (((fats ([[4, 3, 1], [4, 2]] : List (List Int)) ((G3 2).sl 0)).length : Int) = 2))) p4 hp4,
    .k (bv p4),
    .k (((G3 2).ss 1).v),
    .ln (kf true (.f 3) (fats ([[⟨ByteArray.empty, 60, 24, 3, 2⟩, ⟨ByteArray.empty, -1, -1, 0, 1⟩, ⟨⟨#[98]⟩, 20, 8, -1, -1⟩], [⟨ByteArray.empty, 60, 24, 3, 2⟩, ⟨⟨#[99]⟩, 10, 9, -1, -1⟩]] : List (List DThing)) ((G3 2).sl 1)) (fun _ => (G3 2).ss 1)),
    .k (bv (!(decide (((fats ([[⟨ByteArray.empty, 60, 24, 3, 2⟩, ⟨ByteArray.empty, -1, -1, 0, 1⟩, ⟨⟨#[98]⟩, 20, 8, -1, -1⟩], [⟨ByteArray.empty, 60, 24, 3, 2⟩, ⟨⟨#[99]⟩, 10, 9, -1, -1⟩]] : List (List DThing)) ((G3 2).sl 1)).length : Int) = 2)))),
    .orn g0 false p4 (!(decide (((fats ([[⟨ByteArray.empty, 60, 24, 3, 2⟩, ⟨ByteArray.empty, -1, -1, 0, 1⟩, ⟨⟨#[98]⟩, 20, 8, -1, -1⟩], [⟨ByteArray.empty, 60, 24, 3, 2⟩, ⟨⟨#[99]⟩, 10, 9, -1, -1⟩]] : List (List DThing)) ((G3 2).sl 1)).length : Int) = 2))) p5 hp5] (fun _ _ => by kernel_rfl) fun _ _ G8 => ?_
  intro S8 t8
  refine V.cond (b := p5) (iN hp5 (iOT (iN hp4 (iOT (iN hp3 (iOT (iOT (iN hp2 (iOT (iOT (iN hp1 (iOT (iNT iDF) (iNT iDF))) (iNT iDF)) (iNT iDF))) iFT) (iNT iDF))) (iNT iDF))) (iNT iDF))) (iN hp5 (iOF (iN hp4 (iOF (iN hp3 (iOF (iOF (iN hp2 (iOF (iOF (iN hp1 (iOF (iNF iDT) (iNF iDT))) (iNF iDT)) (iNF iDT))) iFF) (iNF iDT))) (iNF iDT))) (iNF iDT))) (by kernel_rfl) (fun q1 => ?_) (fun q2 => ?_)
  · skip
    exact absurd q1 (by simp)
  · skip
    refine V.reg [.ld 0 0 true (fun _ => Dat.cells (DVault.mk ⟨Tm.exT, (G2 0).ss 0⟩)),
      .nr 1 true 3 ([0] : List Int) [] (fun _ _ _ _ _ => trivial) (fun _ => #[iv 0]),
      .ct g0 2 30 false [] [] [(kf true (.f 0) Tm.exT (fun _ => (G2 0).ss 0)).a, (kf true (.g 1 0) ([0] : List Int) (fun G => ⟨atB (G 1).b, 1, 1⟩)).a] (fun _ G => show_ctv Tm.exT ((G2 0).ss 0) (4 : Int) ([0] : List Int) ⟨atB (G 1).b, 1, 1⟩ ([[4, 3, 0]] : List (List Int)) ([[⟨ByteArray.empty, 60, 24, 3, 2⟩, ⟨ByteArray.empty, -1, -1, 0, 1⟩, ⟨⟨#[97]⟩, 30, 7, -1, -1⟩]] : List (List DThing)) 0 (by kernel_rfl) (by kernel_rfl) (by kernel_rfl)),
      .v fun G => .tuple #[((G 2).ss 0).v, ((G 2).ss 1).v, iv (0 : Int)],
      .v fun G => ((G 2).ss 0).v,
      .v fun G => ((G 2).ss 1).v,
      .k (iv (0 : Int)),
      .v fun G => ((G 2).ss 0).v,
      .v fun G => ((G 2).ss 1).v,
      .k (iv (0 : Int))] (fun _ _ => by kernel_rfl) fun _ _ G9 kw9 => ?_
    intro S9 t9
    obtain ⟨⟨kl14, -⟩, ⟨kl15, -⟩, ⟨kl16, -⟩, -⟩ : Lq ([0] : List Int) (SV.v ⟨atB (G9 1).b, 1, 1⟩) ∧ Lq (fats ([[4, 3, 0]] : List (List Int)) ((G9 2).sl 0)) (((G9 2).ss 0).v) ∧ Lq (fats ([[⟨ByteArray.empty, 60, 24, 3, 2⟩, ⟨ByteArray.empty, -1, -1, 0, 1⟩, ⟨⟨#[97]⟩, 30, 7, -1, -1⟩]] : List (List DThing)) ((G9 2).sl 1)) (((G9 2).ss 1).v) ∧ True := kn kw9 (by kernel_rfl)
    clear kw9
    refine V.reg [.ld 0 0 true (fun _ => Dat.cells (DVault.mk ⟨Tm.exT, (G2 0).ss 0⟩)),
      .nr 1 true 3 ([1] : List Int) [] (fun _ _ _ _ _ => trivial) (fun _ => #[iv 1]),
      .ct g0 2 30 false [] [] [(kf true (.f 0) Tm.exT (fun _ => (G2 0).ss 0)).a, (kf true (.g 1 0) ([1] : List Int) (fun G => ⟨atB (G 1).b, 1, 1⟩)).a] (fun _ G => show_ctv Tm.exT ((G2 0).ss 0) (4 : Int) ([1] : List Int) ⟨atB (G 1).b, 1, 1⟩ ([[4, 3, 1]] : List (List Int)) ([[⟨ByteArray.empty, 60, 24, 3, 2⟩, ⟨ByteArray.empty, -1, -1, 0, 1⟩, ⟨⟨#[98]⟩, 20, 8, -1, -1⟩]] : List (List DThing)) 0 (by kernel_rfl) (by kernel_rfl) (by kernel_rfl)),
      .v fun G => .tuple #[((G 2).ss 0).v, ((G 2).ss 1).v, iv (0 : Int)],
      .v fun G => ((G 2).ss 0).v,
      .v fun G => ((G 2).ss 1).v,
      .k (iv (0 : Int)),
      .v fun G => ((G 2).ss 0).v,
      .v fun G => ((G 2).ss 1).v,
      .k (iv (0 : Int))] (fun _ _ => by kernel_rfl) fun _ _ G10 kw10 => ?_
    intro S10 t10
    obtain ⟨⟨kl17, -⟩, ⟨kl18, -⟩, ⟨kl19, -⟩, -⟩ : Lq ([1] : List Int) (SV.v ⟨atB (G10 1).b, 1, 1⟩) ∧ Lq (fats ([[4, 3, 1]] : List (List Int)) ((G10 2).sl 0)) (((G10 2).ss 0).v) ∧ Lq (fats ([[⟨ByteArray.empty, 60, 24, 3, 2⟩, ⟨ByteArray.empty, -1, -1, 0, 1⟩, ⟨⟨#[98]⟩, 20, 8, -1, -1⟩]] : List (List DThing)) ((G10 2).sl 1)) (((G10 2).ss 1).v) ∧ True := kn kw10 (by kernel_rfl)
    clear kw10
    refine V.reg [.ld 0 0 true (fun _ => Dat.cells (DVault.mk ⟨Tm.exT, (G2 0).ss 0⟩)),
      .nr 1 true 3 ([0, 2] : List Int) [] (fun _ _ _ _ _ => trivial) (fun _ => #[iv 0, iv 2]),
      .ct g0 2 30 false [] [] [(kf true (.f 0) Tm.exT (fun _ => (G2 0).ss 0)).a, (kf true (.g 1 0) ([0, 2] : List Int) (fun G => ⟨atB (G 1).b, 2, 2⟩)).a] (fun _ G => show_ctv Tm.exT ((G2 0).ss 0) (4 : Int) ([0, 2] : List Int) ⟨atB (G 1).b, 2, 2⟩ ([[4, 3, 0], [4, 2]] : List (List Int)) ([[⟨ByteArray.empty, 60, 24, 3, 2⟩, ⟨ByteArray.empty, -1, -1, 0, 1⟩, ⟨⟨#[97]⟩, 30, 7, -1, -1⟩], [⟨ByteArray.empty, 60, 24, 3, 2⟩, ⟨⟨#[99]⟩, 10, 9, -1, -1⟩]] : List (List DThing)) 0 (by kernel_rfl) (by kernel_rfl) (by kernel_rfl)),
      .v fun G => .tuple #[((G 2).ss 0).v, ((G 2).ss 1).v, iv (0 : Int)],
      .v fun G => ((G 2).ss 0).v,
      .v fun G => ((G 2).ss 1).v,
      .k (iv (0 : Int)),
      .v fun G => ((G 2).ss 0).v,
      .v fun G => ((G 2).ss 1).v,
      .k (iv (0 : Int))] (fun _ _ => by kernel_rfl) fun _ _ G11 kw11 => ?_
    intro S11 t11
    obtain ⟨⟨kl20, -⟩, ⟨kl21, -⟩, ⟨kl22, -⟩, -⟩ : Lq ([0, 2] : List Int) (SV.v ⟨atB (G11 1).b, 2, 2⟩) ∧ Lq (fats ([[4, 3, 0], [4, 2]] : List (List Int)) ((G11 2).sl 0)) (((G11 2).ss 0).v) ∧ Lq (fats ([[⟨ByteArray.empty, 60, 24, 3, 2⟩, ⟨ByteArray.empty, -1, -1, 0, 1⟩, ⟨⟨#[97]⟩, 30, 7, -1, -1⟩], [⟨ByteArray.empty, 60, 24, 3, 2⟩, ⟨⟨#[99]⟩, 10, 9, -1, -1⟩]] : List (List DThing)) ((G11 2).sl 1)) (((G11 2).ss 1).v) ∧ True := kn kw11 (by kernel_rfl)
    clear kw11
    refine nm ((!(decide ((0 : Int) = 0))) || (!(decide ((0 : Int) = 0))) : Bool) fun p6 hp6 => ?_
    refine nm ((p6 || (!(decide ((0 : Int) = 0)))) || (!(decide (((fats ([[⟨ByteArray.empty, 60, 24, 3, 2⟩, ⟨ByteArray.empty, -1, -1, 0, 1⟩, ⟨⟨#[97]⟩, 30, 7, -1, -1⟩]] : List (List DThing)) ((G9 2).sl 1)).length : Int) = 1))) : Bool) fun p7 hp7 => ?_
    refine V.go [.k (iv (0 : Int)),
      .k (bv (!(decide ((0 : Int) = 0)))),
      .k (bv (!(decide ((0 : Int) = 0)))),
      .k (iv (0 : Int)),
      .k (bv (!(decide ((0 : Int) = 0)))),
      .orn g0 false (!(decide ((0 : Int) = 0))) (!(decide ((0 : Int) = 0))) p6 hp6,
      .k (bv p6),
      .k (iv (0 : Int)),
      .k (bv (!(decide ((0 : Int) = 0)))),
      .or g0 false p6 (!(decide ((0 : Int) = 0))),
      .k (bv (p6 || (!(decide ((0 : Int) = 0))))),
      .k (((G9 2).ss 1).v),
      .ln (kf true (.f 15) (fats ([[⟨ByteArray.empty, 60, 24, 3, 2⟩, ⟨ByteArray.empty, -1, -1, 0, 1⟩, ⟨⟨#[97]⟩, 30, 7, -1, -1⟩]] : List (List DThing)) ((G9 2).sl 1)) (fun _ => (G9 2).ss 1)),
      .k (bv (!(decide (((fats ([[⟨ByteArray.empty, 60, 24, 3, 2⟩, ⟨ByteArray.empty, -1, -1, 0, 1⟩, ⟨⟨#[97]⟩, 30, 7, -1, -1⟩]] : List (List DThing)) ((G9 2).sl 1)).length : Int) = 1)))),
      .orn g0 false (p6 || (!(decide ((0 : Int) = 0)))) (!(decide (((fats ([[⟨ByteArray.empty, 60, 24, 3, 2⟩, ⟨ByteArray.empty, -1, -1, 0, 1⟩, ⟨⟨#[97]⟩, 30, 7, -1, -1⟩]] : List (List DThing)) ((G9 2).sl 1)).length : Int) = 1))) p7 hp7,
      .k (bv p7),
      .k (((G9 2).ss 0).v),
      .k (((G9 2).ss 1).v),
      .k (((G10 2).ss 0).v),
      .k (((G10 2).ss 1).v),
      .cp (gF (b := p7) (iN hp7 (iOF (iOF (iN hp6 (iOF (iNF iDT) (iNF iDT))) (iNF iDT)) (iNF iDT)))) 20 37 [(kf true (.f 14) (fats ([[4, 3, 0]] : List (List Int)) ((G9 2).sl 0)) (fun _ => (G9 2).ss 0)).a, (kf true (.f 15) (fats ([[⟨ByteArray.empty, 60, 24, 3, 2⟩, ⟨ByteArray.empty, -1, -1, 0, 1⟩, ⟨⟨#[97]⟩, 30, 7, -1, -1⟩]] : List (List DThing)) ((G9 2).sl 1)) (fun _ => (G9 2).ss 1)).a, (kf true (.f 17) (fats ([[4, 3, 1]] : List (List Int)) ((G10 2).sl 0)) (fun _ => (G10 2).ss 0)).a, (kf true (.f 18) (fats ([[⟨ByteArray.empty, 60, 24, 3, 2⟩, ⟨ByteArray.empty, -1, -1, 0, 1⟩, ⟨⟨#[98]⟩, 20, 8, -1, -1⟩]] : List (List DThing)) ((G10 2).sl 1)) (fun _ => (G10 2).ss 1)).a] (fun hg G => agree_ctv (fats ([[4, 3, 0]] : List (List Int)) ((G9 2).sl 0)) ((G9 2).ss 0) (fats ([[⟨ByteArray.empty, 60, 24, 3, 2⟩, ⟨ByteArray.empty, -1, -1, 0, 1⟩, ⟨⟨#[97]⟩, 30, 7, -1, -1⟩]] : List (List DThing)) ((G9 2).sl 1)) ((G9 2).ss 1) (fats ([[4, 3, 1]] : List (List Int)) ((G10 2).sl 0)) ((G10 2).ss 0) (fats ([[⟨ByteArray.empty, 60, 24, 3, 2⟩, ⟨ByteArray.empty, -1, -1, 0, 1⟩, ⟨⟨#[98]⟩, 20, 8, -1, -1⟩]] : List (List DThing)) ((G10 2).sl 1)) ((G10 2).ss 1) true (by kernel_rfl)),
      .k (bv false),
      .or g0 false p7 false,
      .k (bv (p7 || false)),
      .k (((G9 2).ss 0).v),
      .k (((G9 2).ss 1).v),
      .k (((G11 2).ss 0).v),
      .k (((G11 2).ss 1).v),
      .cp (gF (b := p7 || false) (iOF (iN hp7 (iOF (iOF (iN hp6 (iOF (iNF iDT) (iNF iDT))) (iNF iDT)) (iNF iDT))) iFF)) 28 37 [(kf true (.f 14) (fats ([[4, 3, 0]] : List (List Int)) ((G9 2).sl 0)) (fun _ => (G9 2).ss 0)).a, (kf true (.f 15) (fats ([[⟨ByteArray.empty, 60, 24, 3, 2⟩, ⟨ByteArray.empty, -1, -1, 0, 1⟩, ⟨⟨#[97]⟩, 30, 7, -1, -1⟩]] : List (List DThing)) ((G9 2).sl 1)) (fun _ => (G9 2).ss 1)).a, (kf true (.f 20) (fats ([[4, 3, 0], [4, 2]] : List (List Int)) ((G11 2).sl 0)) (fun _ => (G11 2).ss 0)).a, (kf true (.f 21) (fats ([[⟨ByteArray.empty, 60, 24, 3, 2⟩, ⟨ByteArray.empty, -1, -1, 0, 1⟩, ⟨⟨#[97]⟩, 30, 7, -1, -1⟩], [⟨ByteArray.empty, 60, 24, 3, 2⟩, ⟨⟨#[99]⟩, 10, 9, -1, -1⟩]] : List (List DThing)) ((G11 2).sl 1)) (fun _ => (G11 2).ss 1)).a] (fun hg G => agree_ctv (fats ([[4, 3, 0]] : List (List Int)) ((G9 2).sl 0)) ((G9 2).ss 0) (fats ([[⟨ByteArray.empty, 60, 24, 3, 2⟩, ⟨ByteArray.empty, -1, -1, 0, 1⟩, ⟨⟨#[97]⟩, 30, 7, -1, -1⟩]] : List (List DThing)) ((G9 2).sl 1)) ((G9 2).ss 1) (fats ([[4, 3, 0], [4, 2]] : List (List Int)) ((G11 2).sl 0)) ((G11 2).ss 0) (fats ([[⟨ByteArray.empty, 60, 24, 3, 2⟩, ⟨ByteArray.empty, -1, -1, 0, 1⟩, ⟨⟨#[97]⟩, 30, 7, -1, -1⟩], [⟨ByteArray.empty, 60, 24, 3, 2⟩, ⟨⟨#[99]⟩, 10, 9, -1, -1⟩]] : List (List DThing)) ((G11 2).sl 1)) ((G11 2).ss 1) true (by kernel_rfl)),
      .k (bv false),
      .or g0 false (p7 || false) false,
      .k (bv ((p7 || false) || false)),
      .ld 0 0 true (fun _ => Dat.cells (DVault.mk ⟨Tm.exT, (G2 0).ss 0⟩)),
      .k (((G9 2).ss 0).v),
      .k (((G9 2).ss 1).v),
      .cp (gF (b := (p7 || false) || false) (iOF (iOF (iN hp7 (iOF (iOF (iN hp6 (iOF (iNF iDT) (iNF iDT))) (iNF iDT)) (iNF iDT))) iFF) iFF)) 35 35 [(kf true (.f 0) Tm.exT (fun _ => (G2 0).ss 0)).a, (kf true (.f 14) (fats ([[4, 3, 0]] : List (List Int)) ((G9 2).sl 0)) (fun _ => (G9 2).ss 0)).a, (kf true (.f 15) (fats ([[⟨ByteArray.empty, 60, 24, 3, 2⟩, ⟨ByteArray.empty, -1, -1, 0, 1⟩, ⟨⟨#[97]⟩, 30, 7, -1, -1⟩]] : List (List DThing)) ((G9 2).sl 1)) (fun _ => (G9 2).ss 1)).a] (fun hg G => rcheck_ctv Tm.exT ((G2 0).ss 0) (fats ([[4, 3, 0]] : List (List Int)) ((G9 2).sl 0)) ((G9 2).ss 0) (fats ([[⟨ByteArray.empty, 60, 24, 3, 2⟩, ⟨ByteArray.empty, -1, -1, 0, 1⟩, ⟨⟨#[97]⟩, 30, 7, -1, -1⟩]] : List (List DThing)) ((G9 2).sl 1)) ((G9 2).ss 1) true (by intro x hx; simp only [fats, List.mem_cons, List.not_mem_nil, or_false] at hx; subst hx; simp) (by kernel_rfl)),
      .k (bv false),
      .or g0 false ((p7 || false) || false) false] (fun _ _ => by kernel_rfl) fun _ _ G12 => ?_
    intro S12 t12
    refine V.cond (b := ((p7 || false) || false) || false) (iOT (iOT (iOT (iN hp7 (iOT (iOT (iN hp6 (iOT (iNT iDF) (iNT iDF))) (iNT iDF)) (iNT iDF))) iFT) iFT) iFT) (iOF (iOF (iOF (iN hp7 (iOF (iOF (iN hp6 (iOF (iNF iDT) (iNF iDT))) (iNF iDT)) (iNF iDT))) iFF) iFF) iFF) (by kernel_rfl) (fun q3 => ?_) (fun q4 => ?_)
    · skip
      exact absurd q3 (by simp)
    · skip
      refine nm ((fats ([[⟨ByteArray.empty, 60, 24, 3, 2⟩, ⟨ByteArray.empty, -1, -1, 0, 1⟩, ⟨⟨#[97]⟩, 30, 7, -1, -1⟩]] : List (List DThing)) ((G9 2).sl 1)).getD (0 : Int).toNat default : Fat DThing) fun x1 hx1 => ?_
      refine nm (([] : List DThing) ++ x1.l : List DThing) fun l1 hl1 => ?_
      have hl1n := congrArg List.length hl1; try simp only [List.length_append, List.length_cons, List.length_nil, List.length_replicate, List.length_set, List.length_take, List.length_drop, List.length_map, List.length_reverse, List.length_range] at hl1n
      refine V.reg [.nl 0 1 true 44 ([] : List DThing) [] (fun _ _ _ _ _ => trivial) (fun _ => #[]),
        .k (((G9 2).ss 1).v),
        .ix g0 (kf true (.f 15) (fats ([[⟨ByteArray.empty, 60, 24, 3, 2⟩, ⟨ByteArray.empty, -1, -1, 0, 1⟩, ⟨⟨#[97]⟩, 30, 7, -1, -1⟩]] : List (List DThing)) ((G9 2).sl 1)) (fun _ => (G9 2).ss 1)) 0 (fun _ => ⟨by omega, by simp⟩),
        .le g0 (kf true (.f 15) (fats ([[⟨ByteArray.empty, 60, 24, 3, 2⟩, ⟨ByteArray.empty, -1, -1, 0, 1⟩, ⟨⟨#[97]⟩, 30, 7, -1, -1⟩]] : List (List DThing)) ((G9 2).sl 1)) (fun _ => (G9 2).ss 1)) (0 : Int) none true x1 hx1 (fun _ => ⟨by omega, by simp⟩) false (fun _ => [x1.s.v]),
        .ap 4 1 44 48 false true ([] : List DThing) (fun G => ⟨atB (G 0).b, 0, 0⟩) (kx true (.g 3 0) x1 x1.l (fun _ => x1.s) (fun _ _ h => h)) true l1 hl1 (by rw [hx1]; simp [fats]) (fun h => by cases h) (.inr fun _ _ => trivial),
        .v fun G => ((G 4).s).v] (fun _ _ => by kernel_rfl) fun _ _ G13 kw13 => ?_
      intro S13 t13
      obtain ⟨⟨kl23, -⟩, -⟩ : Lq x1.l x1.s.v ∧ Lq l1 (((G13 4).s).v) ∧ True := kn kw13 (by kernel_rfl)
      clear kw13
      refine V.go [.k (((G13 4).s).v),
        .ln (ko true 44 1 l1 (fun _ => (G13 4).s)),
        .k (bv (!(decide ((l1.length : Int) = 3))))] (fun _ _ => by kernel_rfl) fun _ _ G14 => ?_
      intro S14 t14
      refine V.cond (b := !(decide ((l1.length : Int) = 3))) (iNT iDF) (iNF iDT) (by kernel_rfl) (fun q5 => ?_) (fun q6 => ?_)
      · skip
        exact absurd q5 (by rw [hl1, hx1]; simp [fats])
      · skip
        refine nm (l1.getD (2 : Int).toNat default : DThing) fun x2 hx2 => ?_
        refine nm (l1.set (2 : Int).toNat (DThing.mk x2.Text 31 x2.Blind x2.Left x2.Right) : List DThing) fun l2 hl2 => ?_
        have hl2n := congrArg List.length hl2; try simp only [List.length_append, List.length_cons, List.length_nil, List.length_replicate, List.length_set, List.length_take, List.length_drop, List.length_map, List.length_reverse, List.length_range] at hl2n
        refine V.go [.k (((G13 4).s).v),
          .ix g0 (ko true 44 1 l1 (fun _ => (G13 4).s)) 2 (fun _ => ⟨by omega, by omega⟩),
          .k (.pointer (some ((elemAddr (((G13 4).s).v) ((2 : Int).toNat * 5)).add 1))),
          .se g0 3 1 44 true l1 (fun _ => (G13 4).s) (2 : Int) (some 1) x2 (DThing.mk x2.Text 31 x2.Blind x2.Left x2.Right) hx2 true l2 hl2 (fun _ => ⟨by omega, by omega⟩) (fun _ => rfl) [] (fun _ _ _ _ => trivial)] (fun _ _ => by kernel_rfl) fun _ _ G15 => ?_
        intro S15 t15
        refine nm ((fats ([[4, 3, 1], [4, 2]] : List (List Int)) ((G3 2).sl 0)).getD (0 : Int).toNat default : Fat Int) fun x3 hx3 => ?_
        refine nm ((fats ([[4, 3, 1], [4, 2]] : List (List Int)) ((G3 2).sl 0)).getD (1 : Int).toNat default : Fat Int) fun x4 hx4 => ?_
        refine V.reg [.k (((G3 2).ss 0).v),
          .ix g0 (kf true (.f 2) (fats ([[4, 3, 1], [4, 2]] : List (List Int)) ((G3 2).sl 0)) (fun _ => (G3 2).ss 0)) 0 (fun _ => ⟨by omega, by simp⟩),
          .le g0 (kf true (.f 2) (fats ([[4, 3, 1], [4, 2]] : List (List Int)) ((G3 2).sl 0)) (fun _ => (G3 2).ss 0)) (0 : Int) none true x3 hx3 (fun _ => ⟨by omega, by simp⟩) false (fun _ => [x3.s.v]),
          .nr 3 true 3 ([4, 3, 1] : List Int) [] (fun _ _ _ _ _ => trivial) (fun _ => #[iv 4, iv 3, iv 1]),
          .cp g0 4 19 [(kx true (.g 2 0) x3 x3.l (fun _ => x3.s) (fun _ _ h => h)).a, (kf true (.g 3 0) ([4, 3, 1] : List Int) (fun G => ⟨atB (G 3).b, 3, 3⟩)).a] (fun _ G => samei_ctv x3.l x3.s ([4, 3, 1] : List Int) ⟨atB (G 3).b, 3, 3⟩ true (by rw [hx3]; kernel_rfl)),
          .k (bv true),
          .k (((G3 2).ss 0).v),
          .ix (gT (b := true) iTT) (kf true (.f 2) (fats ([[4, 3, 1], [4, 2]] : List (List Int)) ((G3 2).sl 0)) (fun _ => (G3 2).ss 0)) 1 (fun hg => ⟨by omega, by simp⟩),
          .le (gT (b := true) iTT) (kf true (.f 2) (fats ([[4, 3, 1], [4, 2]] : List (List Int)) ((G3 2).sl 0)) (fun _ => (G3 2).ss 0)) (1 : Int) none true x4 hx4 (fun hg => ⟨by omega, by simp⟩) false (fun _ => [x4.s.v]),
          .nr 9 true 3 ([4, 2] : List Int) [] (fun _ _ _ _ _ => trivial) (fun _ => #[iv 4, iv 2]),
          .cp (gT (b := true) iTT) 10 19 [(kx true (.g 8 0) x4 x4.l (fun _ => x4.s) (fun _ _ h => h)).a, (kf true (.g 9 0) ([4, 2] : List Int) (fun G => ⟨atB (G 9).b, 2, 2⟩)).a] (fun hg G => samei_ctv x4.l x4.s ([4, 2] : List Int) ⟨atB (G 9).b, 2, 2⟩ true (by rw [hx4]; kernel_rfl)),
          .k (bv true),
          .k (bv true)] (fun _ _ => by kernel_rfl) fun _ _ G16 kw16 => ?_
        intro S16 t16
        obtain ⟨⟨kl24, -⟩, ⟨kl25, -⟩, -⟩ : Lq x3.l x3.s.v ∧ Lq ([4, 3, 1] : List Int) (SV.v ⟨atB (G16 3).b, 3, 3⟩) ∧ Lq l2 (((G13 4).s).v) ∧ True := kn kw16 (by kernel_rfl)
        clear kw16
        refine V.frz 1 true 44 l2 ((G13 4).s) (by kernel_rfl) ?_
        refine V.go [.k (bv true),
          .k (bv true),
          .k (((G9 2).ss 0).v),
          .k (((G13 4).s).v),
          .nr 4 true 22 ([⟨l2, (G13 4).s⟩] : List (Fat DThing)) [(kf true (.f 25) l2 (fun _ => (G13 4).s)).a] (fun _ _ h => (List.forall_mem_cons.2 ⟨h.1, (List.forall_mem_nil _)⟩)) (fun _ => #[((G13 4).s).v]),
          .k (((G11 2).ss 0).v),
          .k (((G11 2).ss 1).v),
          .cp (gT (b := true) iTT) 7 37 [(kf true (.f 14) (fats ([[4, 3, 0]] : List (List Int)) ((G9 2).sl 0)) (fun _ => (G9 2).ss 0)).a, (kf true (.g 4 0) ([⟨l2, (G13 4).s⟩] : List (Fat DThing)) (fun G => ⟨atB (G 4).b, 1, 1⟩)).a, (kf true (.f 20) (fats ([[4, 3, 0], [4, 2]] : List (List Int)) ((G11 2).sl 0)) (fun _ => (G11 2).ss 0)).a, (kf true (.f 21) (fats ([[⟨ByteArray.empty, 60, 24, 3, 2⟩, ⟨ByteArray.empty, -1, -1, 0, 1⟩, ⟨⟨#[97]⟩, 30, 7, -1, -1⟩], [⟨ByteArray.empty, 60, 24, 3, 2⟩, ⟨⟨#[99]⟩, 10, 9, -1, -1⟩]] : List (List DThing)) ((G11 2).sl 1)) (fun _ => (G11 2).ss 1)).a] (fun hg G => agree_ctv (fats ([[4, 3, 0]] : List (List Int)) ((G9 2).sl 0)) ((G9 2).ss 0) ([⟨l2, (G13 4).s⟩] : List (Fat DThing)) ⟨atB (G 4).b, 1, 1⟩ (fats ([[4, 3, 0], [4, 2]] : List (List Int)) ((G11 2).sl 0)) ((G11 2).ss 0) (fats ([[⟨ByteArray.empty, 60, 24, 3, 2⟩, ⟨ByteArray.empty, -1, -1, 0, 1⟩, ⟨⟨#[97]⟩, 30, 7, -1, -1⟩], [⟨ByteArray.empty, 60, 24, 3, 2⟩, ⟨⟨#[99]⟩, 10, 9, -1, -1⟩]] : List (List DThing)) ((G11 2).sl 1)) ((G11 2).ss 1) false (by rw [hl2, hx2, hl1, hx1]; kernel_rfl)),
          .k (bv true),
          .k (bv true),
          .k (bv true),
          .ld 0 0 true (fun _ => Dat.cells (DVault.mk ⟨Tm.exT, (G2 0).ss 0⟩)),
          .k (((G9 2).ss 0).v),
          .k (((G13 4).s).v),
          .nr 14 true 22 ([⟨l2, (G13 4).s⟩] : List (Fat DThing)) [(kf true (.f 25) l2 (fun _ => (G13 4).s)).a] (fun _ _ h => (List.forall_mem_cons.2 ⟨h.1, (List.forall_mem_nil _)⟩)) (fun _ => #[((G13 4).s).v]),
          .cp (gT (b := true) iTT) 15 35 [(kf true (.f 0) Tm.exT (fun _ => (G2 0).ss 0)).a, (kf true (.f 14) (fats ([[4, 3, 0]] : List (List Int)) ((G9 2).sl 0)) (fun _ => (G9 2).ss 0)).a, (kf true (.g 14 0) ([⟨l2, (G13 4).s⟩] : List (Fat DThing)) (fun G => ⟨atB (G 14).b, 1, 1⟩)).a] (fun hg G => rcheck_ctv Tm.exT ((G2 0).ss 0) (fats ([[4, 3, 0]] : List (List Int)) ((G9 2).sl 0)) ((G9 2).ss 0) ([⟨l2, (G13 4).s⟩] : List (Fat DThing)) ⟨atB (G 14).b, 1, 1⟩ false (by intro x hx; simp only [fats, List.mem_cons, List.not_mem_nil, or_false] at hx; subst hx; simp) (by rw [hl2, hx2, hl1, hx1]; kernel_rfl)),
          .k (bv true),
          .k (bv true),
          .k (bv true)] (fun _ _ => by kernel_rfl) fun _ _ G17 => ?_
        intro S17 t17
        exact V.ret [0] [] [] [] [] [] (bv true) (fun _ _ => by kernel_rfl) (fun _ _ => by kernel_rfl) (fun _ _ => trivial)

end Kb
