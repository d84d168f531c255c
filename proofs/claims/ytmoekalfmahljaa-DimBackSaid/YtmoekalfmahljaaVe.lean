/- The examples of the law. -/
import Derived.Test.YtmoekalfmahljaaVd
set_option linter.unusedVariables false
set_option linter.unusedSectionVars false
set_option linter.unusedSimpArgs false
namespace Kb
open Go Go.Proofs
theorem text_ctv (d0 d1 d2 d3 d4 d5 : Int) (rT : ByteArray) (erT : Dm.text [d0, d1, d2, d3, d4, d5] = rT) :
    Cp Try.prog 7 #[.agg #[iv d0, iv d1, iv d2, iv d3, iv d4, iv d5]] [] (tv (rT)) := by
  subst erT; exact text_ct d0 d1 d2 d3 d4 d5 

theorem read_ctv (s : ByteArray) (rV0 : Int) (rV1 : Int) (rV2 : Int) (rV3 : Int) (rV4 : Int) (rV5 : Int) (rB : Bool) (hs : s.size ≤ 1000000) (erV0 : Dm.rdV s 0 = rV0) (erV1 : Dm.rdV s 1 = rV1) (erV2 : Dm.rdV s 2 = rV2) (erV3 : Dm.rdV s 3 = rV3) (erV4 : Dm.rdV s 4 = rV4) (erV5 : Dm.rdV s 5 = rV5) (erB : Dm.rdB s = rB) :
    Cp Try.prog 8 #[tv s] [] (.tuple #[.agg #[iv (rV0), iv (rV1), iv (rV2), iv (rV3), iv (rV4), iv (rV5)], bv (rB)]) := by
  subst erV0 erV1 erV2 erV3 erV4 erV5 erB; exact read_ct s hs

theorem pow_ctv (d0 d1 d2 d3 d4 d5 n : Int) (rV0 : Int) (rV1 : Int) (rV2 : Int) (rV3 : Int) (rV4 : Int) (rV5 : Int) (rE : Int) (erV0 : Dm.opV (Dm.Rt [d0, d1, d2, d3, d4, d5]) [d0 * n, d1 * n, d2 * n, d3 * n, d4 * n, d5 * n] 0 = rV0) (erV1 : Dm.opV (Dm.Rt [d0, d1, d2, d3, d4, d5]) [d0 * n, d1 * n, d2 * n, d3 * n, d4 * n, d5 * n] 1 = rV1) (erV2 : Dm.opV (Dm.Rt [d0, d1, d2, d3, d4, d5]) [d0 * n, d1 * n, d2 * n, d3 * n, d4 * n, d5 * n] 2 = rV2) (erV3 : Dm.opV (Dm.Rt [d0, d1, d2, d3, d4, d5]) [d0 * n, d1 * n, d2 * n, d3 * n, d4 * n, d5 * n] 3 = rV3) (erV4 : Dm.opV (Dm.Rt [d0, d1, d2, d3, d4, d5]) [d0 * n, d1 * n, d2 * n, d3 * n, d4 * n, d5 * n] 4 = rV4) (erV5 : Dm.opV (Dm.Rt [d0, d1, d2, d3, d4, d5]) [d0 * n, d1 * n, d2 * n, d3 * n, d4 * n, d5 * n] 5 = rV5) (erE : Dm.opE (Dm.Rt [d0, d1, d2, d3, d4, d5]) [d0 * n, d1 * n, d2 * n, d3 * n, d4 * n, d5 * n] = rE) :
    Cp Try.prog 12 #[.agg #[iv d0, iv d1, iv d2, iv d3, iv d4, iv d5], iv n] [] (.tuple #[.agg #[iv (rV0), iv (rV1), iv (rV2), iv (rV3), iv (rV4), iv (rV5)], iv (rE)]) := by
  subst erV0 erV1 erV2 erV3 erV4 erV5 erE; exact pow_ct d0 d1 d2 d3 d4 d5 n 

theorem div_ctv (a0 a1 a2 a3 a4 a5 b0 b1 b2 b3 b4 b5 : Int) (rV0 : Int) (rV1 : Int) (rV2 : Int) (rV3 : Int) (rV4 : Int) (rV5 : Int) (rE : Int) (erV0 : Dm.opV (Dm.Rt [a0, a1, a2, a3, a4, a5] ∧ Dm.Rt [b0, b1, b2, b3, b4, b5]) [a0 - b0, a1 - b1, a2 - b2, a3 - b3, a4 - b4, a5 - b5] 0 = rV0) (erV1 : Dm.opV (Dm.Rt [a0, a1, a2, a3, a4, a5] ∧ Dm.Rt [b0, b1, b2, b3, b4, b5]) [a0 - b0, a1 - b1, a2 - b2, a3 - b3, a4 - b4, a5 - b5] 1 = rV1) (erV2 : Dm.opV (Dm.Rt [a0, a1, a2, a3, a4, a5] ∧ Dm.Rt [b0, b1, b2, b3, b4, b5]) [a0 - b0, a1 - b1, a2 - b2, a3 - b3, a4 - b4, a5 - b5] 2 = rV2) (erV3 : Dm.opV (Dm.Rt [a0, a1, a2, a3, a4, a5] ∧ Dm.Rt [b0, b1, b2, b3, b4, b5]) [a0 - b0, a1 - b1, a2 - b2, a3 - b3, a4 - b4, a5 - b5] 3 = rV3) (erV4 : Dm.opV (Dm.Rt [a0, a1, a2, a3, a4, a5] ∧ Dm.Rt [b0, b1, b2, b3, b4, b5]) [a0 - b0, a1 - b1, a2 - b2, a3 - b3, a4 - b4, a5 - b5] 4 = rV4) (erV5 : Dm.opV (Dm.Rt [a0, a1, a2, a3, a4, a5] ∧ Dm.Rt [b0, b1, b2, b3, b4, b5]) [a0 - b0, a1 - b1, a2 - b2, a3 - b3, a4 - b4, a5 - b5] 5 = rV5) (erE : Dm.opE (Dm.Rt [a0, a1, a2, a3, a4, a5] ∧ Dm.Rt [b0, b1, b2, b3, b4, b5]) [a0 - b0, a1 - b1, a2 - b2, a3 - b3, a4 - b4, a5 - b5] = rE) :
    Cp Try.prog 11 #[.agg #[iv a0, iv a1, iv a2, iv a3, iv a4, iv a5], .agg #[iv b0, iv b1, iv b2, iv b3, iv b4, iv b5]] [] (.tuple #[.agg #[iv (rV0), iv (rV1), iv (rV2), iv (rV3), iv (rV4), iv (rV5)], iv (rE)]) := by
  subst erV0 erV1 erV2 erV3 erV4 erV5 erE; exact div_ct a0 a1 a2 a3 a4 a5 b0 b1 b2 b3 b4 b5 

set_option maxRecDepth 10000 in
theorem sane_ct :
    Cp Try.prog 6 #[] [] (bv true) := by
  refine V.fn mo Try.func6 123 8 (by kernel_rfl) fun w H ε k0 => ?_
  clear k0
  refine V.go [.k (bv false)] (fun _ _ => by kernel_rfl) fun _ _ G1 => ?_
  intro S1 t1
  refine nm ((decide ((⟨#[103, 42, 109, 50, 47, 115, 50]⟩ : ByteArray) = ⟨#[103, 42, 109, 50, 47, 115, 50]⟩)) && (decide ((⟨#[49, 47, 115]⟩ : ByteArray) = ⟨#[49, 47, 115]⟩)) : Bool) fun p1 hp1 => ?_
  refine nm (p1 && (decide ((⟨#[49, 47, 109, 51, 47, 115]⟩ : ByteArray) = ⟨#[49, 47, 109, 51, 47, 115]⟩)) : Bool) fun p2 hp2 => ?_
  refine V.go [.k (.agg #[iv 1, iv 2, iv (-2), iv 0, iv 0, iv 0]),
    .cp g0 1 7 [] (fun _ G => text_ctv (1 : Int) (2 : Int) (-2 : Int) (0 : Int) (0 : Int) (0 : Int) ⟨#[103, 42, 109, 50, 47, 115, 50]⟩ (by kernel_rfl)),
    .seq ⟨#[103, 42, 109, 50, 47, 115, 50]⟩ ⟨#[103, 42, 109, 50, 47, 115, 50]⟩,
    .k (bv (decide ((⟨#[103, 42, 109, 50, 47, 115, 50]⟩ : ByteArray) = ⟨#[103, 42, 109, 50, 47, 115, 50]⟩))),
    .k (.agg #[iv 0, iv 0, iv (-1), iv 0, iv 0, iv 0]),
    .cp (gT (b := decide ((⟨#[103, 42, 109, 50, 47, 115, 50]⟩ : ByteArray) = ⟨#[103, 42, 109, 50, 47, 115, 50]⟩)) iDT) 5 7 [] (fun hg G => text_ctv (0 : Int) (0 : Int) (-1 : Int) (0 : Int) (0 : Int) (0 : Int) ⟨#[49, 47, 115]⟩ (by kernel_rfl)),
    .seq ⟨#[49, 47, 115]⟩ ⟨#[49, 47, 115]⟩,
    .andn g0 false (decide ((⟨#[103, 42, 109, 50, 47, 115, 50]⟩ : ByteArray) = ⟨#[103, 42, 109, 50, 47, 115, 50]⟩)) (decide ((⟨#[49, 47, 115]⟩ : ByteArray) = ⟨#[49, 47, 115]⟩)) p1 hp1,
    .k (bv p1),
    .k (.agg #[iv 0, iv (-3), iv (-1), iv 0, iv 0, iv 0]),
    .cp (gT (b := p1) (iN hp1 (iAT iDT iDT))) 10 7 [] (fun hg G => text_ctv (0 : Int) (-3 : Int) (-1 : Int) (0 : Int) (0 : Int) (0 : Int) ⟨#[49, 47, 109, 51, 47, 115]⟩ (by kernel_rfl)),
    .seq ⟨#[49, 47, 109, 51, 47, 115]⟩ ⟨#[49, 47, 109, 51, 47, 115]⟩,
    .andn g0 false p1 (decide ((⟨#[49, 47, 109, 51, 47, 115]⟩ : ByteArray) = ⟨#[49, 47, 109, 51, 47, 115]⟩)) p2 hp2,
    .k (bv p2)] (fun _ _ => by kernel_rfl) fun _ _ G2 => ?_
  intro S2 t2
  refine V.go [.cp g0 0 8 [] (fun _ G => read_ctv ⟨#[74, 47, 112, 99]⟩ 0 0 0 1 0 (-1) true (by decide) (by kernel_rfl) (by kernel_rfl) (by kernel_rfl) (by kernel_rfl) (by kernel_rfl) (by kernel_rfl) (by kernel_rfl)),
    .k (.tuple #[.agg #[iv (0 : Int), iv (0 : Int), iv (0 : Int), iv (1 : Int), iv (0 : Int), iv (-1 : Int)], bv true]),
    .k (.agg #[iv (0 : Int), iv (0 : Int), iv (0 : Int), iv (1 : Int), iv (0 : Int), iv (-1 : Int)]),
    .k (bv true),
    .nb 4 0 (fun b => pp b 0) 23 (fun _ => #[iv 0, iv 0, iv 0, iv 0, iv 0, iv 0]),
    .st 0 (fun G => .blk ((G 4).b) #[iv (0 : Int), iv (0 : Int), iv (0 : Int), iv (1 : Int), iv (0 : Int), iv (-1 : Int)] 23),
    .k (bv true)] (fun _ _ => by kernel_rfl) fun _ _ G3 => ?_
  intro S3 t3
  refine V.go [.cp g0 0 8 [] (fun _ G => read_ctv ⟨#[115, 42, 103]⟩ 0 0 0 0 0 0 false (by decide) (by kernel_rfl) (by kernel_rfl) (by kernel_rfl) (by kernel_rfl) (by kernel_rfl) (by kernel_rfl) (by kernel_rfl)),
    .k (.tuple #[.agg #[iv (0 : Int), iv (0 : Int), iv (0 : Int), iv (0 : Int), iv (0 : Int), iv (0 : Int)], bv false]),
    .k (.agg #[iv (0 : Int), iv (0 : Int), iv (0 : Int), iv (0 : Int), iv (0 : Int), iv (0 : Int)]),
    .k (bv false),
    .nb 4 1 (fun b => pp b 0) 23 (fun _ => #[iv 0, iv 0, iv 0, iv 0, iv 0, iv 0]),
    .st 1 (fun G => .blk ((G 4).b) #[iv (0 : Int), iv (0 : Int), iv (0 : Int), iv (0 : Int), iv (0 : Int), iv (0 : Int)] 23),
    .k (bv false)] (fun _ _ => by kernel_rfl) fun _ _ G4 => ?_
  intro S4 t4
  refine V.go [.cp g0 0 8 [] (fun _ G => read_ctv ⟨#[103, 49]⟩ 0 0 0 0 0 0 false (by decide) (by kernel_rfl) (by kernel_rfl) (by kernel_rfl) (by kernel_rfl) (by kernel_rfl) (by kernel_rfl) (by kernel_rfl)),
    .k (.tuple #[.agg #[iv (0 : Int), iv (0 : Int), iv (0 : Int), iv (0 : Int), iv (0 : Int), iv (0 : Int)], bv false]),
    .k (.agg #[iv (0 : Int), iv (0 : Int), iv (0 : Int), iv (0 : Int), iv (0 : Int), iv (0 : Int)]),
    .k (bv false),
    .nb 4 2 (fun b => pp b 0) 23 (fun _ => #[iv 0, iv 0, iv 0, iv 0, iv 0, iv 0]),
    .st 2 (fun G => .blk ((G 4).b) #[iv (0 : Int), iv (0 : Int), iv (0 : Int), iv (0 : Int), iv (0 : Int), iv (0 : Int)] 23),
    .k (bv false)] (fun _ _ => by kernel_rfl) fun _ _ G5 => ?_
  intro S5 t5
  refine V.go [.cp g0 0 8 [] (fun _ G => read_ctv ⟨#[49]⟩ 0 0 0 0 0 0 true (by decide) (by kernel_rfl) (by kernel_rfl) (by kernel_rfl) (by kernel_rfl) (by kernel_rfl) (by kernel_rfl) (by kernel_rfl)),
    .k (.tuple #[.agg #[iv (0 : Int), iv (0 : Int), iv (0 : Int), iv (0 : Int), iv (0 : Int), iv (0 : Int)], bv true]),
    .k (.agg #[iv (0 : Int), iv (0 : Int), iv (0 : Int), iv (0 : Int), iv (0 : Int), iv (0 : Int)]),
    .k (bv true),
    .nb 4 3 (fun b => pp b 0) 23 (fun _ => #[iv 0, iv 0, iv 0, iv 0, iv 0, iv 0]),
    .st 3 (fun G => .blk ((G 4).b) #[iv (0 : Int), iv (0 : Int), iv (0 : Int), iv (0 : Int), iv (0 : Int), iv (0 : Int)] 23),
    .k (bv true)] (fun _ _ => by kernel_rfl) fun _ _ G6 => ?_
  intro S6 t6
  refine V.go [.k (.agg #[iv 0, iv 1, iv (-1), iv 0, iv 0, iv 0]),
    .cp g0 1 12 [] (fun _ G => pow_ctv (0 : Int) (1 : Int) (-1 : Int) (0 : Int) (0 : Int) (0 : Int) (3 : Int) 0 3 (-3) 0 0 0 0 (by kernel_rfl) (by kernel_rfl) (by kernel_rfl) (by kernel_rfl) (by kernel_rfl) (by kernel_rfl) (by kernel_rfl)),
    .k (.tuple #[.agg #[iv (0 : Int), iv (3 : Int), iv (-3 : Int), iv (0 : Int), iv (0 : Int), iv (0 : Int)], iv (0 : Int)]),
    .k (.agg #[iv (0 : Int), iv (3 : Int), iv (-3 : Int), iv (0 : Int), iv (0 : Int), iv (0 : Int)]),
    .k (iv (0 : Int)),
    .nb 5 4 (fun b => pp b 0) 23 (fun _ => #[iv 0, iv 0, iv 0, iv 0, iv 0, iv 0]),
    .st 4 (fun G => .blk ((G 5).b) #[iv (0 : Int), iv (3 : Int), iv (-3 : Int), iv (0 : Int), iv (0 : Int), iv (0 : Int)] 23),
    .k (iv (0 : Int))] (fun _ _ => by kernel_rfl) fun _ _ G7 => ?_
  intro S7 t7
  refine V.go [.k (.agg #[iv 0, iv 1, iv (-1), iv 0, iv 0, iv 0]),
    .cp g0 1 12 [] (fun _ G => pow_ctv (0 : Int) (1 : Int) (-1 : Int) (0 : Int) (0 : Int) (0 : Int) (10 : Int) 0 0 0 0 0 0 3 (by kernel_rfl) (by kernel_rfl) (by kernel_rfl) (by kernel_rfl) (by kernel_rfl) (by kernel_rfl) (by kernel_rfl)),
    .k (.tuple #[.agg #[iv (0 : Int), iv (0 : Int), iv (0 : Int), iv (0 : Int), iv (0 : Int), iv (0 : Int)], iv (3 : Int)]),
    .k (.agg #[iv (0 : Int), iv (0 : Int), iv (0 : Int), iv (0 : Int), iv (0 : Int), iv (0 : Int)]),
    .k (iv (3 : Int)),
    .nb 5 5 (fun b => pp b 0) 23 (fun _ => #[iv 0, iv 0, iv 0, iv 0, iv 0, iv 0]),
    .st 5 (fun G => .blk ((G 5).b) #[iv (0 : Int), iv (0 : Int), iv (0 : Int), iv (0 : Int), iv (0 : Int), iv (0 : Int)] 23),
    .k (iv (3 : Int))] (fun _ _ => by kernel_rfl) fun _ _ G8 => ?_
  intro S8 t8
  refine V.go [.k (.agg #[iv 0, iv 0, iv 0, iv 0, iv 0, iv 0]),
    .cp g0 1 12 [] (fun _ G => pow_ctv (0 : Int) (0 : Int) (0 : Int) (0 : Int) (0 : Int) (0 : Int) (-1000 : Int) 0 0 0 0 0 0 0 (by kernel_rfl) (by kernel_rfl) (by kernel_rfl) (by kernel_rfl) (by kernel_rfl) (by kernel_rfl) (by kernel_rfl)),
    .k (.tuple #[.agg #[iv (0 : Int), iv (0 : Int), iv (0 : Int), iv (0 : Int), iv (0 : Int), iv (0 : Int)], iv (0 : Int)]),
    .k (.agg #[iv (0 : Int), iv (0 : Int), iv (0 : Int), iv (0 : Int), iv (0 : Int), iv (0 : Int)]),
    .k (iv (0 : Int)),
    .nb 5 6 (fun b => pp b 0) 23 (fun _ => #[iv 0, iv 0, iv 0, iv 0, iv 0, iv 0]),
    .st 6 (fun G => .blk ((G 5).b) #[iv (0 : Int), iv (0 : Int), iv (0 : Int), iv (0 : Int), iv (0 : Int), iv (0 : Int)] 23),
    .k (iv (0 : Int))] (fun _ _ => by kernel_rfl) fun _ _ G9 => ?_
  intro S9 t9
  refine V.go [.k (.agg #[iv (-1), iv 0, iv 0, iv 0, iv 1, iv 0]),
    .k (.agg #[iv (-1), iv 0, iv 0, iv 0, iv 1, iv 0]),
    .cp g0 2 11 [] (fun _ G => div_ctv (-1 : Int) (0 : Int) (0 : Int) (0 : Int) (1 : Int) (0 : Int) (-1 : Int) (0 : Int) (0 : Int) (0 : Int) (1 : Int) (0 : Int) 0 0 0 0 0 0 0 (by kernel_rfl) (by kernel_rfl) (by kernel_rfl) (by kernel_rfl) (by kernel_rfl) (by kernel_rfl) (by kernel_rfl)),
    .k (.tuple #[.agg #[iv (0 : Int), iv (0 : Int), iv (0 : Int), iv (0 : Int), iv (0 : Int), iv (0 : Int)], iv (0 : Int)]),
    .k (.agg #[iv (0 : Int), iv (0 : Int), iv (0 : Int), iv (0 : Int), iv (0 : Int), iv (0 : Int)]),
    .k (iv (0 : Int)),
    .nb 6 7 (fun b => pp b 0) 23 (fun _ => #[iv 0, iv 0, iv 0, iv 0, iv 0, iv 0]),
    .st 7 (fun G => .blk ((G 6).b) #[iv (0 : Int), iv (0 : Int), iv (0 : Int), iv (0 : Int), iv (0 : Int), iv (0 : Int)] 23),
    .k (iv (0 : Int))] (fun _ _ => by kernel_rfl) fun _ _ G10 => ?_
  intro S10 t10
  refine nm (((((!p2) || false) || false) || false) || false : Bool) fun p3 hp3 => ?_
  refine nm ((p3 || (!(decide ((0 : Int) = 0)))) || (!(decide ((3 : Int) = 3))) : Bool) fun p4 hp4 => ?_
  refine nm ((p4 || (!(decide ((0 : Int) = 0)))) || (!(decide ((0 : Int) = 0))) : Bool) fun p5 hp5 => ?_
  refine V.go [.k (bv p2),
    .k (bv (!p2)),
    .k (bv (!p2)),
    .k (bv true),
    .k (bv false),
    .or g0 false (!p2) false,
    .k (bv ((!p2) || false)),
    .k (bv false),
    .or g0 false ((!p2) || false) false,
    .k (bv (((!p2) || false) || false)),
    .k (bv false),
    .or g0 false (((!p2) || false) || false) false,
    .k (bv ((((!p2) || false) || false) || false)),
    .k (bv true),
    .k (bv false),
    .orn g0 false ((((!p2) || false) || false) || false) false p3 hp3,
    .k (bv p3),
    .k (iv (0 : Int)),
    .k (bv (!(decide ((0 : Int) = 0)))),
    .or g0 false p3 (!(decide ((0 : Int) = 0))),
    .k (bv (p3 || (!(decide ((0 : Int) = 0))))),
    .k (iv (3 : Int)),
    .k (bv (!(decide ((3 : Int) = 3)))),
    .orn g0 false (p3 || (!(decide ((0 : Int) = 0)))) (!(decide ((3 : Int) = 3))) p4 hp4,
    .k (bv p4),
    .k (iv (0 : Int)),
    .k (bv (!(decide ((0 : Int) = 0)))),
    .or g0 false p4 (!(decide ((0 : Int) = 0))),
    .k (bv (p4 || (!(decide ((0 : Int) = 0))))),
    .k (iv (0 : Int)),
    .k (bv (!(decide ((0 : Int) = 0)))),
    .orn g0 false (p4 || (!(decide ((0 : Int) = 0)))) (!(decide ((0 : Int) = 0))) p5 hp5] (fun _ _ => by kernel_rfl) fun _ _ G11 => ?_
  intro S11 t11
  refine V.cond (b := p5) (iN hp5 (iOT (iOT (iN hp4 (iOT (iOT (iN hp3 (iOT (iOT (iOT (iOT (iNT (iN hp2 (iAF (iN hp1 (iAF iDF iDF)) iDF))) iFT) iFT) iFT) iFT)) (iNT iDF)) (iNT iDF))) (iNT iDF)) (iNT iDF))) (iN hp5 (iOF (iOF (iN hp4 (iOF (iOF (iN hp3 (iOF (iOF (iOF (iOF (iNF (iN hp2 (iAT (iN hp1 (iAT iDT iDT)) iDT))) iFF) iFF) iFF) iFF)) (iNF iDT)) (iNF iDT))) (iNF iDT)) (iNF iDT))) (by kernel_rfl) (fun q1 => ?_) (fun q2 => ?_)
  · skip
    exact absurd q1 (by decide)
  · skip
    refine nm ((decide ((0 : Int) = 0 ∧ (0 : Int) = 0 ∧ (0 : Int) = 0 ∧ (1 : Int) = 1 ∧ (0 : Int) = 0 ∧ (-1 : Int) = (-1))) && (decide ((0 : Int) = 0 ∧ (0 : Int) = 0 ∧ (0 : Int) = 0 ∧ (0 : Int) = 0 ∧ (0 : Int) = 0 ∧ (0 : Int) = 0)) : Bool) fun p6 hp6 => ?_
    refine nm (p6 && (decide ((0 : Int) = 0 ∧ (3 : Int) = 3 ∧ (-3 : Int) = (-3) ∧ (0 : Int) = 0 ∧ (0 : Int) = 0 ∧ (0 : Int) = 0)) : Bool) fun p7 hp7 => ?_
    refine nm (p7 && (decide ((0 : Int) = 0 ∧ (0 : Int) = 0 ∧ (0 : Int) = 0 ∧ (0 : Int) = 0 ∧ (0 : Int) = 0 ∧ (0 : Int) = 0)) : Bool) fun p8 hp8 => ?_
    refine nm (p8 && (decide ((0 : Int) = 0 ∧ (0 : Int) = 0 ∧ (0 : Int) = 0 ∧ (0 : Int) = 0 ∧ (0 : Int) = 0 ∧ (0 : Int) = 0)) : Bool) fun p9 hp9 => ?_
    refine V.go [.ld 0 0 true (fun _ => [iv (0 : Int), iv (0 : Int), iv (0 : Int), iv (1 : Int), iv (0 : Int), iv (-1 : Int)]),
      .k (.agg #[iv 0, iv 0, iv 0, iv 1, iv 0, iv (-1)]),
      .aeq false 23 #[iv (0 : Int), iv (0 : Int), iv (0 : Int), iv (1 : Int), iv (0 : Int), iv (-1 : Int)] #[iv 0, iv 0, iv 0, iv 1, iv 0, iv (-1)] _ fun w => dim_equal w (0 : Int) (0 : Int) (0 : Int) (1 : Int) (0 : Int) (-1 : Int) 0 0 0 1 0 (-1),
      .k (bv (decide ((0 : Int) = 0 ∧ (0 : Int) = 0 ∧ (0 : Int) = 0 ∧ (1 : Int) = 1 ∧ (0 : Int) = 0 ∧ (-1 : Int) = (-1)))),
      .ld 3 0 true (fun _ => [iv (0 : Int), iv (0 : Int), iv (0 : Int), iv (0 : Int), iv (0 : Int), iv (0 : Int)]),
      .k (.agg #[iv 0, iv 0, iv 0, iv 0, iv 0, iv 0]),
      .aeq false 23 #[iv (0 : Int), iv (0 : Int), iv (0 : Int), iv (0 : Int), iv (0 : Int), iv (0 : Int)] #[iv 0, iv 0, iv 0, iv 0, iv 0, iv 0] _ fun w => dim_equal w (0 : Int) (0 : Int) (0 : Int) (0 : Int) (0 : Int) (0 : Int) 0 0 0 0 0 0,
      .andn g0 false (decide ((0 : Int) = 0 ∧ (0 : Int) = 0 ∧ (0 : Int) = 0 ∧ (1 : Int) = 1 ∧ (0 : Int) = 0 ∧ (-1 : Int) = (-1))) (decide ((0 : Int) = 0 ∧ (0 : Int) = 0 ∧ (0 : Int) = 0 ∧ (0 : Int) = 0 ∧ (0 : Int) = 0 ∧ (0 : Int) = 0)) p6 hp6,
      .k (bv p6),
      .ld 4 0 true (fun _ => [iv (0 : Int), iv (3 : Int), iv (-3 : Int), iv (0 : Int), iv (0 : Int), iv (0 : Int)]),
      .k (.agg #[iv 0, iv 3, iv (-3), iv 0, iv 0, iv 0]),
      .aeq false 23 #[iv (0 : Int), iv (3 : Int), iv (-3 : Int), iv (0 : Int), iv (0 : Int), iv (0 : Int)] #[iv 0, iv 3, iv (-3), iv 0, iv 0, iv 0] _ fun w => dim_equal w (0 : Int) (3 : Int) (-3 : Int) (0 : Int) (0 : Int) (0 : Int) 0 3 (-3) 0 0 0,
      .andn g0 false p6 (decide ((0 : Int) = 0 ∧ (3 : Int) = 3 ∧ (-3 : Int) = (-3) ∧ (0 : Int) = 0 ∧ (0 : Int) = 0 ∧ (0 : Int) = 0)) p7 hp7,
      .k (bv p7),
      .ld 6 0 true (fun _ => [iv (0 : Int), iv (0 : Int), iv (0 : Int), iv (0 : Int), iv (0 : Int), iv (0 : Int)]),
      .k (.agg #[iv 0, iv 0, iv 0, iv 0, iv 0, iv 0]),
      .aeq false 23 #[iv (0 : Int), iv (0 : Int), iv (0 : Int), iv (0 : Int), iv (0 : Int), iv (0 : Int)] #[iv 0, iv 0, iv 0, iv 0, iv 0, iv 0] _ fun w => dim_equal w (0 : Int) (0 : Int) (0 : Int) (0 : Int) (0 : Int) (0 : Int) 0 0 0 0 0 0,
      .andn g0 false p7 (decide ((0 : Int) = 0 ∧ (0 : Int) = 0 ∧ (0 : Int) = 0 ∧ (0 : Int) = 0 ∧ (0 : Int) = 0 ∧ (0 : Int) = 0)) p8 hp8,
      .k (bv p8),
      .ld 7 0 true (fun _ => [iv (0 : Int), iv (0 : Int), iv (0 : Int), iv (0 : Int), iv (0 : Int), iv (0 : Int)]),
      .k (.agg #[iv 0, iv 0, iv 0, iv 0, iv 0, iv 0]),
      .aeq false 23 #[iv (0 : Int), iv (0 : Int), iv (0 : Int), iv (0 : Int), iv (0 : Int), iv (0 : Int)] #[iv 0, iv 0, iv 0, iv 0, iv 0, iv 0] _ fun w => dim_equal w (0 : Int) (0 : Int) (0 : Int) (0 : Int) (0 : Int) (0 : Int) 0 0 0 0 0 0,
      .andn g0 false p8 (decide ((0 : Int) = 0 ∧ (0 : Int) = 0 ∧ (0 : Int) = 0 ∧ (0 : Int) = 0 ∧ (0 : Int) = 0 ∧ (0 : Int) = 0)) p9 hp9,
      .k (bv p9)] (fun _ _ => by kernel_rfl) fun _ _ G12 => ?_
    intro S12 t12
    have e0 : p9 = true := by
      refine (iN hp9 (iAT (iN hp8 (iAT (iN hp7 (iAT (iN hp6 (iAT iDT iDT)) iDT)) iDT)) iDT)).2 ?_
      decide
    exact V.ret [0] [] [] [] [] [] (bv p9) (fun _ _ => by kernel_rfl) (fun _ _ => (Eq.trans (by kernel_rfl) (cong1 (fun (x0 : Bool) => (bv x0 : Value)) e0)).trans (by kernel_rfl)) (fun _ _ => trivial)

end Kb
