/- The law of bounds. -/
import Derived.Test.YtaolgnmpgnamnaaVs
import Derived.Test.YtaolgnmpgnamnaaRu
set_option linter.unusedVariables false
set_option linter.unusedSimpArgs false
namespace Kb
open Go Go.Proofs
set_option maxRecDepth 10000 in
theorem rbounds_ct (v : List DThing) (vs : SV) (paths : List (Fat Int)) (pathss : SV) (seen : List (Fat DThing)) (seens : SV) :
    Cp Try.prog 12 #[ag (DVault.mk ⟨v, vs⟩), pathss.v, seens.v] [fs true v vs, fs true paths pathss, fs true seen seens] (bv true) := by
  refine V.fn mo Try.func12 92 1 (by kernel_rfl) fun w H ε k0 => ?_
  obtain ⟨⟨kl1, -⟩, ⟨kl2, -⟩, ⟨kl3, -⟩, -⟩ : Lq v vs.v ∧ Lq paths pathss.v ∧ Lq seen seens.v ∧ True := kn k0 (by kernel_rfl)
  clear k0
  refine V.go [.nb 0 0 (fun b => pp b 0) 24 (fun _ => ca (DVault.mk ⟨v, vs⟩)),
    .k (bv false)] (fun _ _ => by kernel_rfl) fun _ _ G1 => ?_
  intro S1 t1
  refine V.go [.cp g0 0 28 [] (fun _ G => sane_ct ),
    .k (bv true)] (fun _ _ => by kernel_rfl) fun _ _ G2 => ?_
  intro S2 t2
  refine nm ((!(decide (Tm.fewP v (60 : Int)))) || (!(decide (Rv.fewD (Rv.ls paths) (Rv.ls seen)))) : Bool) fun p1 hp1 => ?_
  refine nm (p1 || (!(decide (Rv.CheckP v (Rv.ls paths) (Rv.ls seen)))) : Bool) fun p2 hp2 => ?_
  refine V.go [.ld 0 0 true (fun _ => Dat.cells (DVault.mk ⟨v, vs⟩)),
    .cp g0 1 14 [(kf false (.f 0) v (fun _ => vs)).a] (fun _ G => fewv_ct v vs (60 : Int)),
    .k (bv (!(decide (Tm.fewP v (60 : Int))))),
    .k (bv (!(decide (Tm.fewP v (60 : Int))))),
    .k (pathss.v),
    .k (seens.v),
    .cp (gF (b := !(decide (Tm.fewP v (60 : Int)))) (iNF iDT)) 6 29 [(kf false (.f 1) paths (fun _ => pathss)).a, (kf false (.f 2) seen (fun _ => seens)).a] (fun hg G => few49_ct paths pathss seen seens),
    .k (bv (!(decide (Rv.fewD (Rv.ls paths) (Rv.ls seen))))),
    .orn g0 false (!(decide (Tm.fewP v (60 : Int)))) (!(decide (Rv.fewD (Rv.ls paths) (Rv.ls seen)))) p1 hp1,
    .k (bv p1),
    .ld 0 0 true (fun _ => Dat.cells (DVault.mk ⟨v, vs⟩)),
    .k (pathss.v),
    .k (seens.v),
    .cp (gF (b := p1) (iN hp1 (iOF (iNF iDT) (iNF iDT)))) 13 35 [(kf false (.f 0) v (fun _ => vs)).a, (kf false (.f 1) paths (fun _ => pathss)).a, (kf false (.f 2) seen (fun _ => seens)).a] (fun hg G => rcheck_ct v vs paths pathss seen seens (Rv.fewD_pre hg.2)),
    .k (bv (!(decide (Rv.CheckP v (Rv.ls paths) (Rv.ls seen))))),
    .orn g0 false p1 (!(decide (Rv.CheckP v (Rv.ls paths) (Rv.ls seen)))) p2 hp2] (fun _ _ => by kernel_rfl) fun _ _ G3 => ?_
  intro S3 t3
  refine V.cond (b := p2) (iN hp2 (iOT (iN hp1 (iOT (iNT iDF) (iNT iDF))) (iNT iDF))) (iN hp2 (iOF (iN hp1 (iOF (iNF iDT) (iNF iDT))) (iNF iDT))) (by kernel_rfl) (fun q1 => ?_) (fun q2 => ?_)
  · skip
    refine V.go [.k (bv true),
      .k (bv true)] (fun _ _ => by kernel_rfl) fun _ _ G4 => ?_
    intro S4 t4
    exact V.ret [0] [] [] [] [] [] (bv true) (fun _ _ => by kernel_rfl) (fun _ _ => by kernel_rfl) (fun _ _ => trivial)
  · skip
    have hC := q2.2
    have hF := hC.1
    have hq1 := Rv.form_q hF
    have hq2 := hF.2.2.1
    rw [Rv.ls_length, Rv.ls_length] at hq2
    have hn0 : seen.length ≠ 0 := by omega
    have hR := Rv.rest_ok hC
    refine V.go [.k (pathss.v),
      .ln (kf false (.f 1) paths (fun _ => pathss)),
      .k (iv (paths.length : Int))] (fun _ _ => by kernel_rfl) fun _ _ G5 => ?_
    intro S5 t5
    refine V.go [.k (pathss.v),
      .k (seens.v),
      .cp g0 2 32 [(kf false (.f 1) paths (fun _ => pathss)).a, (kf false (.f 2) seen (fun _ => seens)).a] (fun _ G => rest_ct paths pathss seen seens),
      .k (.tuple #[iv (Rv.restV (Rv.ls paths) (Rv.ls seen)), bv (decide (Rv.restB (Rv.ls paths) (Rv.ls seen)))]),
      .k (iv (Rv.restV (Rv.ls paths) (Rv.ls seen))),
      .k (bv (decide (Rv.restB (Rv.ls paths) (Rv.ls seen)))),
      .k (iv (Rv.restV (Rv.ls paths) (Rv.ls seen))),
      .k (bv (decide (Rv.restB (Rv.ls paths) (Rv.ls seen))))] (fun _ _ => by kernel_rfl) fun _ _ G6 => ?_
    intro S6 t6
    refine nm ((!(decide (Rv.restB (Rv.ls paths) (Rv.ls seen)))) || (decide ((paths.length : Int) = 0)) : Bool) fun p3 hp3 => ?_
    refine nm (p3 || (!(decide ((seen.length : Int) = (paths.length : Int)))) : Bool) fun p4 hp4 => ?_
    refine V.go [.k (bv (decide (Rv.restB (Rv.ls paths) (Rv.ls seen)))),
      .k (bv (!(decide (Rv.restB (Rv.ls paths) (Rv.ls seen))))),
      .k (bv (!(decide (Rv.restB (Rv.ls paths) (Rv.ls seen))))),
      .k (iv (paths.length : Int)),
      .k (bv (decide ((paths.length : Int) = 0))),
      .orn g0 false (!(decide (Rv.restB (Rv.ls paths) (Rv.ls seen)))) (decide ((paths.length : Int) = 0)) p3 hp3,
      .k (bv p3),
      .k (seens.v),
      .ln (kf false (.f 2) seen (fun _ => seens)),
      .k (iv (paths.length : Int)),
      .k (bv (!(decide ((seen.length : Int) = (paths.length : Int))))),
      .orn g0 false p3 (!(decide ((seen.length : Int) = (paths.length : Int)))) p4 hp4] (fun _ _ => by kernel_rfl) fun _ _ G7 => ?_
    intro S7 t7
    refine V.cond (b := p4) (iN hp4 (iOT (iN hp3 (iOT (iNT iDF) iDT)) (iNT iDF))) (iN hp4 (iOF (iN hp3 (iOF (iNF iDT) iDF)) (iNF iDT))) (by kernel_rfl) (fun q3 => ?_) (fun q4 => ?_)
    · skip
      rcases q3 with (h | h) | h
      · exact (h hR.1).elim
      · omega
      · omega
    · skip
      refine V.go [.k (iv (paths.length : Int)),
        .k (bv (decide ((paths.length : Int) = 1)))] (fun _ _ => by kernel_rfl) fun _ _ G8 => ?_
      intro S8 t8
      refine V.cond (b := decide ((paths.length : Int) = 1)) iDT iDF (by kernel_rfl) (fun q5 => ?_) (fun q6 => ?_)
      · skip
        refine nm (seen.getD (0 : Int).toNat default : Fat DThing) fun x1 hx1 => ?_
        refine nm (x1.l.getD (0 : Int).toNat default : DThing) fun x2 hx2 => ?_
        refine nm ((decide (0 < (x1.l.length : Int))) && (decide (Rv.restV (Rv.ls paths) (Rv.ls seen) ≤ x2.Value)) : Bool) fun p5 hp5 => ?_
        refine V.go [.k (bv true),
          .k (bv true),
          .k (seens.v),
          .ix (gT (b := true) iTT) (kf false (.f 2) seen (fun _ => seens)) 0 (fun hg => ⟨by omega, by omega⟩),
          .le (gT (b := true) iTT) (kf false (.f 2) seen (fun _ => seens)) (0 : Int) none true x1 hx1 (fun hg => ⟨by omega, by omega⟩) false (fun _ => [x1.s.v]),
          .ln (kx false (.g 4 0) x1 x1.l (fun _ => x1.s) (fun _ _ h => h)),
          .k (bv (decide (0 < (x1.l.length : Int)))),
          .k (bv (decide (0 < (x1.l.length : Int)))),
          .k (bv (decide (0 < (x1.l.length : Int)))),
          .k (iv (Rv.restV (Rv.ls paths) (Rv.ls seen))),
          .k (seens.v),
          .ix (gT (b := decide (0 < (x1.l.length : Int))) iDT) (kf false (.f 2) seen (fun _ => seens)) 0 (fun hg => ⟨by omega, by omega⟩),
          .le (gT (b := decide (0 < (x1.l.length : Int))) iDT) (kf false (.f 2) seen (fun _ => seens)) (0 : Int) none true x1 hx1 (fun hg => ⟨by omega, by omega⟩) false (fun _ => [x1.s.v]),
          .ix (gT (b := decide (0 < (x1.l.length : Int))) iDT) (kx false (.g 12 0) x1 x1.l (fun _ => x1.s) (fun _ _ h => h)) 0 (fun hg => ⟨by omega, by omega⟩),
          .k (.pointer (some ((elemAddr x1.s.v ((0 : Int).toNat * 5)).add 1))),
          .le (gT (b := decide (0 < (x1.l.length : Int))) iDT) (kx false (.g 12 0) x1 x1.l (fun _ => x1.s) (fun _ _ h => h)) (0 : Int) (some 1) false x2 hx2 (fun hg => ⟨by omega, by omega⟩) false (fun _ => [iv x2.Value]),
          .k (bv (decide (Rv.restV (Rv.ls paths) (Rv.ls seen) ≤ x2.Value))),
          .andn g0 false (decide (0 < (x1.l.length : Int))) (decide (Rv.restV (Rv.ls paths) (Rv.ls seen) ≤ x2.Value)) p5 hp5,
          .k (bv p5)] (fun _ _ => by kernel_rfl) fun _ _ G9 => ?_
        intro S9 t9
        have e0 : p5 = true := by
          refine (iN hp5 (iAT iDT iDT)).2 ?_
          exact Rv.bounds_one hC hx1 hx2
        exact V.ret [0] [] [] [] [] [] (bv p5) (fun _ _ => by kernel_rfl) (fun _ _ => (Eq.trans (by kernel_rfl) (cong1 (fun (x0 : Bool) => (bv x0 : Value)) e0)).trans (by kernel_rfl)) (fun _ _ => trivial)
      · skip
        refine nm ((paths.length : Int) - 1 : Int) fun n1 hn1 => ?_
        refine nm (paths.take n1.toNat : List (Fat Int)) fun l1 hl1 => ?_
        have hl1n := congrArg List.length hl1; try simp only [List.length_append, List.length_cons, List.length_nil, List.length_replicate, List.length_set, List.length_take, List.length_drop, List.length_map, List.length_reverse, List.length_range] at hl1n
        refine nm (seen.take n1.toNat : List (Fat DThing)) fun l2 hl2 => ?_
        have hl2n := congrArg List.length hl2; try simp only [List.length_append, List.length_cons, List.length_nil, List.length_replicate, List.length_set, List.length_take, List.length_drop, List.length_map, List.length_reverse, List.length_range] at hl2n
        refine V.reg [.k (pathss.v),
          .k (iv (paths.length : Int)),
          .ar ((paths.length : Int) - 1) n1 hn1 (by omega) (by omega),
          .sl g0 (kf false (.f 1) paths (fun _ => pathss)) rfl none (some n1) 0 n1 rfl rfl l1 (by rw [hl1]; simp) (fun _ => ⟨by omega, by omega, by omega⟩),
          .k (seens.v),
          .k (iv (paths.length : Int)),
          .ar ((paths.length : Int) - 1) n1 hn1 (by omega) (by omega),
          .sl g0 (kf false (.f 2) seen (fun _ => seens)) rfl none (some n1) 0 n1 rfl rfl l2 (by rw [hl2]; simp) (fun _ => ⟨by omega, by omega, by omega⟩),
          .cp g0 8 32 [(kf false (.g 3 0) l1 (fun _ => (pathss.sub 1 (0 : Int).toNat n1.toNat))).a, (kf false (.g 7 0) l2 (fun _ => (seens.sub 1 (0 : Int).toNat n1.toNat))).a] (fun _ G => rest_ct l1 (pathss.sub 1 (0 : Int).toNat n1.toNat) l2 (seens.sub 1 (0 : Int).toNat n1.toNat)),
          .k (.tuple #[iv (Rv.restV (Rv.ls l1) (Rv.ls l2)), bv (decide (Rv.restB (Rv.ls l1) (Rv.ls l2)))]),
          .k (iv (Rv.restV (Rv.ls l1) (Rv.ls l2))),
          .k (bv (decide (Rv.restB (Rv.ls l1) (Rv.ls l2)))),
          .k (iv (Rv.restV (Rv.ls l1) (Rv.ls l2))),
          .k (bv (decide (Rv.restB (Rv.ls l1) (Rv.ls l2))))] (fun _ _ => by kernel_rfl) fun _ _ G10 kw10 => ?_
        intro S10 t10
        obtain ⟨⟨kl4, -⟩, ⟨kl5, -⟩, -⟩ : Lq l1 ((pathss.sub 1 (0 : Int).toNat n1.toNat).v) ∧ Lq l2 ((seens.sub 1 (0 : Int).toNat n1.toNat).v) ∧ True := kn kw10 (by kernel_rfl)
        clear kw10
        refine nm ((decide (Rv.restB (Rv.ls l1) (Rv.ls l2))) && (decide (Rv.restV (Rv.ls paths) (Rv.ls seen) ≤ Rv.restV (Rv.ls l1) (Rv.ls l2))) : Bool) fun p6 hp6 => ?_
        refine V.go [.k (bv true),
          .k (bv true),
          .k (bv (decide (Rv.restB (Rv.ls l1) (Rv.ls l2)))),
          .k (bv (decide (Rv.restB (Rv.ls l1) (Rv.ls l2)))),
          .k (bv (decide (Rv.restB (Rv.ls l1) (Rv.ls l2)))),
          .k (iv (Rv.restV (Rv.ls paths) (Rv.ls seen))),
          .k (iv (Rv.restV (Rv.ls l1) (Rv.ls l2))),
          .k (bv (decide (Rv.restV (Rv.ls paths) (Rv.ls seen) ≤ Rv.restV (Rv.ls l1) (Rv.ls l2)))),
          .andn g0 false (decide (Rv.restB (Rv.ls l1) (Rv.ls l2))) (decide (Rv.restV (Rv.ls paths) (Rv.ls seen) ≤ Rv.restV (Rv.ls l1) (Rv.ls l2))) p6 hp6,
          .k (bv p6)] (fun _ _ => by kernel_rfl) fun _ _ G11 => ?_
        intro S11 t11
        have e0 : p6 = true := by
          refine (iN hp6 (iAT iDT iDT)).2 ?_
          exact Rv.bounds_more hC (by omega) (by omega) q6 hl1 hl2
        exact V.ret [0] [] [] [] [] [] (bv p6) (fun _ _ => by kernel_rfl) (fun _ _ => (Eq.trans (by kernel_rfl) (cong1 (fun (x0 : Bool) => (bv x0 : Value)) e0)).trans (by kernel_rfl)) (fun _ _ => trivial)

end Kb
