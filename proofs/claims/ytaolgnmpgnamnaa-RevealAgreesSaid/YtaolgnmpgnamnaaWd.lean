/- The law of agreeing. -/
import Derived.Test.YtaolgnmpgnamnaaVs
import Derived.Test.YtaolgnmpgnamnaaRu
import Derived.Test.YtaolgnmpgnamnaaHl
set_option linter.unusedVariables false
set_option linter.unusedSimpArgs false
namespace Kb
open Go Go.Proofs
set_option maxRecDepth 10000 in
theorem ragrees_ct (v : List DThing) (vs : SV) (paths : List (Fat Int)) (pathss : SV) (seen : List (Fat DThing)) (seens : SV) (others : List (Fat Int)) (otherss : SV) (shown : List (Fat DThing)) (showns : SV) (which n : Int) (hw : 0 ≤ which ∧ which ≤ 255) (hn : 0 ≤ n ∧ n ≤ 255) :
    Cp Try.prog 10 #[ag (DVault.mk ⟨v, vs⟩), pathss.v, seens.v, otherss.v, showns.v, .int .u8 which, .int .u8 n] [fs true v vs, fs true paths pathss, fs true seen seens, fs true others otherss, fs true shown showns] (bv true) := by
  refine V.fn mo Try.func10 137 3 (by kernel_rfl) fun w H ε k0 => ?_
  obtain ⟨⟨kl1, -⟩, ⟨kl2, -⟩, ⟨kl3, -⟩, ⟨kl4, -⟩, ⟨kl5, -⟩, -⟩ : Lq v vs.v ∧ Lq paths pathss.v ∧ Lq seen seens.v ∧ Lq others otherss.v ∧ Lq shown showns.v ∧ True := kn k0 (by kernel_rfl)
  clear k0
  refine V.go [.nb 0 0 (fun b => pp b 0) 24 (fun _ => ca (DVault.mk ⟨v, vs⟩)),
    .k (bv false)] (fun _ _ => by kernel_rfl) fun _ _ G1 => ?_
  intro S1 t1
  refine V.go [.cp g0 0 28 [] (fun _ G => sane_ct ),
    .k (bv true)] (fun _ _ => by kernel_rfl) fun _ _ G2 => ?_
  intro S2 t2
  refine nm ((!(decide (Tm.fewP v (60 : Int)))) || (!(decide (Rv.fewD (Rv.ls paths) (Rv.ls seen)))) : Bool) fun p1 hp1 => ?_
  refine nm (p1 || (!(decide (Rv.fewD (Rv.ls others) (Rv.ls shown)))) : Bool) fun p2 hp2 => ?_
  refine V.go [.ld 0 0 true (fun _ => Dat.cells (DVault.mk ⟨v, vs⟩)),
    .cp g0 1 14 [(kf false (.f 0) v (fun _ => vs)).a] (fun _ G => fewv_ct v vs (60 : Int)),
    .k (bv (!(decide (Tm.fewP v (60 : Int))))),
    .k (bv (!(decide (Tm.fewP v (60 : Int))))),
    .k (pathss.v),
    .k (seens.v),
    .cp (gF (b := !(decide (Tm.fewP v (60 : Int)))) (iNF iDT)) 6 29 [(kf false (.f 1) paths (fun _ => pathss)).a, (kf false (.f 2) seen (fun _ => seens)).a] (fun hg G => few49_ct paths pathss seen seens),
    .k (bv (!(decide (Rv.fewD (Rv.ls paths) (Rv.ls seen))))),
    .orn g0 false (!(decide (Tm.fewP v (60 : Int)))) (!(decide (Rv.fewD (Rv.ls paths) (Rv.ls seen)))) p1 hp1,
    .k (bv p1),
    .k (otherss.v),
    .k (showns.v),
    .cp (gF (b := p1) (iN hp1 (iOF (iNF iDT) (iNF iDT)))) 12 29 [(kf false (.f 3) others (fun _ => otherss)).a, (kf false (.f 4) shown (fun _ => showns)).a] (fun hg G => few49_ct others otherss shown showns),
    .k (bv (!(decide (Rv.fewD (Rv.ls others) (Rv.ls shown))))),
    .orn g0 false p1 (!(decide (Rv.fewD (Rv.ls others) (Rv.ls shown)))) p2 hp2] (fun _ _ => by kernel_rfl) fun _ _ G3 => ?_
  intro S3 t3
  refine V.cond (b := p2) (iN hp2 (iOT (iN hp1 (iOT (iNT iDF) (iNT iDF))) (iNT iDF))) (iN hp2 (iOF (iN hp1 (iOF (iNF iDT) (iNF iDT))) (iNF iDT))) (by kernel_rfl) (fun q1 => ?_) (fun q2 => ?_)
  · skip
    refine V.go [.k (bv true),
      .k (bv true)] (fun _ _ => by kernel_rfl) fun _ _ G4 => ?_
    intro S4 t4
    exact V.ret [0] [] [] [] [] [] (bv true) (fun _ _ => by kernel_rfl) (fun _ _ => by kernel_rfl) (fun _ _ => trivial)
  · skip
    obtain ⟨⟨hf0, hf1⟩, hf2⟩ := q2
    refine V.go [.ld 0 0 true (fun _ => Dat.cells (DVault.mk ⟨v, vs⟩)),
      .k (pathss.v),
      .k (seens.v),
      .cp g0 3 35 [(kf false (.f 0) v (fun _ => vs)).a, (kf false (.f 1) paths (fun _ => pathss)).a, (kf false (.f 2) seen (fun _ => seens)).a] (fun _ G => rcheck_ct v vs paths pathss seen seens (Rv.fewD_pre hf1)),
      .k (bv (decide (Rv.CheckP v (Rv.ls paths) (Rv.ls seen))))] (fun _ _ => by kernel_rfl) fun _ _ G5 => ?_
    intro S5 t5
    refine V.go [.ld 0 0 true (fun _ => Dat.cells (DVault.mk ⟨v, vs⟩)),
      .k (otherss.v),
      .k (showns.v),
      .cp g0 3 35 [(kf false (.f 0) v (fun _ => vs)).a, (kf false (.f 3) others (fun _ => otherss)).a, (kf false (.f 4) shown (fun _ => showns)).a] (fun _ G => rcheck_ct v vs others otherss shown showns (Rv.fewD_pre hf2)),
      .k (bv (decide (Rv.CheckP v (Rv.ls others) (Rv.ls shown))))] (fun _ _ => by kernel_rfl) fun _ _ G6 => ?_
    intro S6 t6
    refine nm ((decide (Rv.CheckP v (Rv.ls paths) (Rv.ls seen))) && (decide (Rv.CheckP v (Rv.ls others) (Rv.ls shown))) : Bool) fun p3 hp3 => ?_
    refine nm (p3 && (!(decide (Rv.AgreeP (Rv.ls paths) (Rv.ls seen) (Rv.ls others) (Rv.ls shown)))) : Bool) fun p4 hp4 => ?_
    refine nm (p4 || (!((decide (Rv.AgreeP (Rv.ls paths) (Rv.ls seen) (Rv.ls others) (Rv.ls shown))) == (decide (Rv.AgreeP (Rv.ls others) (Rv.ls shown) (Rv.ls paths) (Rv.ls seen))))) : Bool) fun p5 hp5 => ?_
    refine V.go [.k (bv (decide (Rv.CheckP v (Rv.ls paths) (Rv.ls seen)))),
      .k (bv (decide (Rv.CheckP v (Rv.ls paths) (Rv.ls seen)))),
      .k (bv (decide (Rv.CheckP v (Rv.ls others) (Rv.ls shown)))),
      .andn g0 false (decide (Rv.CheckP v (Rv.ls paths) (Rv.ls seen))) (decide (Rv.CheckP v (Rv.ls others) (Rv.ls shown))) p3 hp3,
      .k (bv p3),
      .k (pathss.v),
      .k (seens.v),
      .k (otherss.v),
      .k (showns.v),
      .cp (gT (b := p3) (iN hp3 (iAT iDT iDT))) 9 37 [(kf false (.f 1) paths (fun _ => pathss)).a, (kf false (.f 2) seen (fun _ => seens)).a, (kf false (.f 3) others (fun _ => otherss)).a, (kf false (.f 4) shown (fun _ => showns)).a] (fun hg G => agree_ct paths pathss seen seens others otherss shown showns),
      .k (bv (!(decide (Rv.AgreeP (Rv.ls paths) (Rv.ls seen) (Rv.ls others) (Rv.ls shown))))),
      .andn g0 false p3 (!(decide (Rv.AgreeP (Rv.ls paths) (Rv.ls seen) (Rv.ls others) (Rv.ls shown)))) p4 hp4,
      .k (bv p4),
      .k (pathss.v),
      .k (seens.v),
      .k (otherss.v),
      .k (showns.v),
      .cp (gF (b := p4) (iN hp4 (iAF (iN hp3 (iAF iDF iDF)) (iNF iDT)))) 17 37 [(kf false (.f 1) paths (fun _ => pathss)).a, (kf false (.f 2) seen (fun _ => seens)).a, (kf false (.f 3) others (fun _ => otherss)).a, (kf false (.f 4) shown (fun _ => showns)).a] (fun hg G => agree_ct paths pathss seen seens others otherss shown showns),
      .k (otherss.v),
      .k (showns.v),
      .k (pathss.v),
      .k (seens.v),
      .cp (gF (b := p4) (iN hp4 (iAF (iN hp3 (iAF iDF iDF)) (iNF iDT)))) 22 37 [(kf false (.f 3) others (fun _ => otherss)).a, (kf false (.f 4) shown (fun _ => showns)).a, (kf false (.f 1) paths (fun _ => pathss)).a, (kf false (.f 2) seen (fun _ => seens)).a] (fun hg G => agree_ct others otherss shown showns paths pathss seen seens),
      .k (bv (!((decide (Rv.AgreeP (Rv.ls paths) (Rv.ls seen) (Rv.ls others) (Rv.ls shown))) == (decide (Rv.AgreeP (Rv.ls others) (Rv.ls shown) (Rv.ls paths) (Rv.ls seen)))))),
      .orn g0 false p4 (!((decide (Rv.AgreeP (Rv.ls paths) (Rv.ls seen) (Rv.ls others) (Rv.ls shown))) == (decide (Rv.AgreeP (Rv.ls others) (Rv.ls shown) (Rv.ls paths) (Rv.ls seen))))) p5 hp5] (fun _ _ => by kernel_rfl) fun _ _ G7 => ?_
    intro S7 t7
    refine V.cond (b := p5) (iN hp5 (iOT (iN hp4 (iAT (iN hp3 (iAT iDT iDT)) (iNT iDF))) (iNT (iQF iDT iDT)))) (iN hp5 (iOF (iN hp4 (iAF (iN hp3 (iAF iDF iDF)) (iNF iDT))) (iNF (iQT iDT iDT)))) (by kernel_rfl) (fun q3 => ?_) (fun q4 => ?_)
    · skip
      rcases q3 with h | h
      · exact (h.2 (Rv.check_agree h.1.1 h.1.2)).elim
      · exact (h Rv.agree_sym).elim
    · skip
      refine V.go [.k (bv (decide (Rv.CheckP v (Rv.ls paths) (Rv.ls seen)))),
        .k (bv (!(decide (Rv.CheckP v (Rv.ls paths) (Rv.ls seen)))))] (fun _ _ => by kernel_rfl) fun _ _ G8 => ?_
      intro S8 t8
      refine V.cond (b := !(decide (Rv.CheckP v (Rv.ls paths) (Rv.ls seen)))) (iNT iDF) (iNF iDT) (by kernel_rfl) (fun q5 => ?_) (fun q6 => ?_)
      · skip
        refine V.go [.k (bv true),
          .k (bv true)] (fun _ _ => by kernel_rfl) fun _ _ G9 => ?_
        intro S9 t9
        exact V.ret [0] [] [] [] [] [] (bv true) (fun _ _ => by kernel_rfl) (fun _ _ => by kernel_rfl) (fun _ _ => trivial)
      · skip
        have hC := q6
        have hF := hC.1
        have hq1 := Rv.form_q hF
        refine nm ((decide ((seen.length : Int) = 0)) || (!(decide (Rv.AgreeP (Rv.ls paths) (Rv.ls seen) (Rv.ls paths) (Rv.ls seen)))) : Bool) fun p6 hp6 => ?_
        refine V.go [.k (seens.v),
          .ln (kf false (.f 2) seen (fun _ => seens)),
          .k (bv (decide ((seen.length : Int) = 0))),
          .k (bv (decide ((seen.length : Int) = 0))),
          .k (pathss.v),
          .k (seens.v),
          .k (pathss.v),
          .k (seens.v),
          .cp (gF (b := decide ((seen.length : Int) = 0)) iDF) 8 37 [(kf false (.f 1) paths (fun _ => pathss)).a, (kf false (.f 2) seen (fun _ => seens)).a, (kf false (.f 1) paths (fun _ => pathss)).a, (kf false (.f 2) seen (fun _ => seens)).a] (fun hg G => agree_ct paths pathss seen seens paths pathss seen seens),
          .k (bv (!(decide (Rv.AgreeP (Rv.ls paths) (Rv.ls seen) (Rv.ls paths) (Rv.ls seen))))),
          .orn g0 false (decide ((seen.length : Int) = 0)) (!(decide (Rv.AgreeP (Rv.ls paths) (Rv.ls seen) (Rv.ls paths) (Rv.ls seen)))) p6 hp6] (fun _ _ => by kernel_rfl) fun _ _ G10 => ?_
        intro S10 t10
        refine V.cond (b := p6) (iN hp6 (iOT iDT (iNT iDF))) (iN hp6 (iOF iDF (iNF iDT))) (by kernel_rfl) (fun q7 => ?_) (fun q8 => ?_)
        · skip
          rcases q7 with h | h
          · omega
          · exact (h (Rv.check_agree hC hC)).elim
        · skip
          refine nm (which % (seen.length : Int) : Int) fun n1 hn1 => ?_
          refine V.go [.k (.int .u8 which),
            .arg g0 which which rfl (fun _ => by omega),
            .k (seens.v),
            .ln (kf false (.f 2) seen (fun _ => seens)),
            .rmv g0 which (seen.length : Int) n1 hn1 (fun _ => ⟨by omega, by omega⟩),
            .k (iv n1)] (fun _ _ => by kernel_rfl) fun _ _ G11 => ?_
          intro S11 t11
          have hk0 : 0 ≤ n1 := by rw [hn1]; exact Int.emod_nonneg _ (by omega)
          have hk1 : n1 < (seen.length : Int) := by rw [hn1]; exact Int.emod_lt_of_pos _ (by omega)
          refine nm (([] : List (Fat DThing)) ++ seen : List (Fat DThing)) fun l1 hl1 => ?_
          have hl1n := congrArg List.length hl1; try simp only [List.length_append, List.length_cons, List.length_nil, List.length_replicate, List.length_set, List.length_take, List.length_drop, List.length_map, List.length_reverse, List.length_range] at hl1n
          refine V.go [.nl 0 1 true 22 ([] : List (Fat DThing)) [] (fun _ _ h => (List.forall_mem_nil _)) (fun _ => #[]),
            .k (seens.v),
            .ap 2 1 22 24 false true ([] : List (Fat DThing)) (fun G => ⟨atB (G 0).b, 0, 0⟩) (kf false (.f 2) seen (fun _ => seens)) false l1 hl1 (by (try simp only [List.length_append, List.length_cons, List.length_nil, List.length_replicate, List.length_set, List.length_take, List.length_drop, List.length_map, List.length_reverse, List.length_range]); omega) (fun h => by cases h) (.inl fun h => by cases h),
            .v fun G => ((G 2).s).v] (fun _ _ => by kernel_rfl) fun _ _ G12 => ?_
          intro S12 t12
          refine V.raw 1 false 22 l1 ((G12 2).s) (by kernel_rfl) ?_
          have hch : l1 = seen := by rw [hl1]; simp
          have hchl := congrArg List.length hch
          refine nm (seen.getD n1.toNat default : Fat DThing) fun x1 hx1 => ?_
          refine nm (([] : List DThing) ++ x1.l : List DThing) fun l2 hl2 => ?_
          have hl2n := congrArg List.length hl2; try simp only [List.length_append, List.length_cons, List.length_nil, List.length_replicate, List.length_set, List.length_take, List.length_drop, List.length_map, List.length_reverse, List.length_range] at hl2n
          have hsl := (hf1.2.1 n1.toNat (by rw [Rv.ls_length]; omega) (by omega)).1
          rw [Rv.sl_ls hx1] at hsl
          refine V.reg [.k (((G12 2).s).v),
            .k (iv n1),
            .nl 2 2 true 44 ([] : List DThing) [] (fun _ _ _ _ _ => trivial) (fun _ => #[]),
            .k (seens.v),
            .k (iv n1),
            .ix g0 (kf false (.f 2) seen (fun _ => seens)) n1 (fun _ => ⟨by omega, by omega⟩),
            .le g0 (kf false (.f 2) seen (fun _ => seens)) n1 none true x1 hx1 (fun _ => ⟨by omega, by omega⟩) false (fun _ => [x1.s.v]),
            .ap 7 2 44 48 false true ([] : List DThing) (fun G => ⟨atB (G 2).b, 0, 0⟩) (kx false (.g 6 0) x1 x1.l (fun _ => x1.s) (fun _ _ h => h)) true l2 hl2 (by (try simp only [List.length_append, List.length_cons, List.length_nil, List.length_replicate, List.length_set, List.length_take, List.length_drop, List.length_map, List.length_reverse, List.length_range]); omega) (fun h => by cases h) (.inr fun _ _ => trivial),
            .ix g0 (ko false 22 1 (rw' l1) (fun _ => (G12 2).s)) n1 (fun _ => ⟨by omega, by simp only [List.length_set, rw_length]; omega⟩),
            .seR g0 9 1 22 false (rw' l1) (fun _ => (G12 2).s) n1 (fun G => (G 7).s) (fun _ => ⟨by omega, by simp only [rw_length]; omega⟩)] (fun _ _ => by kernel_rfl) fun _ _ G13 kw13 => ?_
          intro S13 t13
          obtain ⟨⟨kl6, -⟩, -⟩ : Lq x1.l x1.s.v ∧ Lq ((rw' l1).set n1.toNat ⟨(G13 7).s⟩) (((G12 2).s).v) ∧ Lq l2 (((G13 7).s).v) ∧ True := kn kw13 (by kernel_rfl)
          clear kw13
          have hkl : (⟨(G13 7).s⟩ : Rw) = ((rw' l1).set n1.toNat ⟨(G13 7).s⟩).getD n1.toNat default := rw_get (by simp only [rw_length]; omega)
          have hck : l2 = x1.l := by rw [hl2]; simp
          have hckl := congrArg List.length hck
          have hyl := Rv.len_ne hF (by omega) (by omega) hx1
          refine nm ((l2.length : Int) - 1 : Int) fun n2 hn2 => ?_
          refine V.go [.k (((G12 2).s).v),
            .k (iv n1),
            .ix g0 (ko false 22 1 ((rw' l1).set n1.toNat ⟨(G13 7).s⟩) (fun _ => (G12 2).s)) n1 (fun _ => ⟨by omega, by simp only [List.length_set, rw_length]; omega⟩),
            .le g0 (ko false 22 1 ((rw' l1).set n1.toNat ⟨(G13 7).s⟩) (fun _ => (G12 2).s)) n1 none false (⟨(G13 7).s⟩ : Rw) hkl (fun _ => ⟨by omega, by simp only [List.length_set, rw_length]; omega⟩) false (fun _ => [((G13 7).s).v]),
            .ln (ko true 44 2 l2 (fun _ => (G13 7).s)),
            .ar ((l2.length : Int) - 1) n2 hn2 (by omega) (by omega),
            .k (iv n2)] (fun _ _ => by kernel_rfl) fun _ _ G14 => ?_
          intro S14 t14
          refine V.go [.k (iv n2),
            .k (bv (decide (n2 < 0)))] (fun _ _ => by kernel_rfl) fun _ _ G15 => ?_
          intro S15 t15
          refine V.cond (b := decide (n2 < 0)) iDT iDF (by kernel_rfl) (fun q9 => ?_) (fun q10 => ?_)
          · skip
            exfalso; omega
          · skip
            refine nm (l2.getD n2.toNat default : DThing) fun x2 hx2 => ?_
            refine nm (x2.Value + 1 + n : Int) fun n3 hn3 => ?_
            refine nm (l2.set n2.toNat (DThing.mk x2.Text n3 x2.Blind x2.Left x2.Right) : List DThing) fun l3 hl3 => ?_
            have hl3n := congrArg List.length hl3; try simp only [List.length_append, List.length_cons, List.length_nil, List.length_replicate, List.length_set, List.length_take, List.length_drop, List.length_map, List.length_reverse, List.length_range] at hl3n
            have hzb := Rv.last_bd hF (by omega) (by omega) hx1 (n := n2) (by rw [hn2, hck]) (y := x2) (by rw [hx2, hck])
            unfold Tm.Bd at hzb
            refine V.go [.k (((G12 2).s).v),
              .k (iv n1),
              .ix g0 (ko false 22 1 ((rw' l1).set n1.toNat ⟨(G13 7).s⟩) (fun _ => (G12 2).s)) n1 (fun _ => ⟨by omega, by simp only [List.length_set, rw_length]; omega⟩),
              .le g0 (ko false 22 1 ((rw' l1).set n1.toNat ⟨(G13 7).s⟩) (fun _ => (G12 2).s)) n1 none false (⟨(G13 7).s⟩ : Rw) hkl (fun _ => ⟨by omega, by simp only [List.length_set, rw_length]; omega⟩) false (fun _ => [((G13 7).s).v]),
              .k (iv n2),
              .k (((G12 2).s).v),
              .k (iv n1),
              .ix g0 (ko false 22 1 ((rw' l1).set n1.toNat ⟨(G13 7).s⟩) (fun _ => (G12 2).s)) n1 (fun _ => ⟨by omega, by simp only [List.length_set, rw_length]; omega⟩),
              .le g0 (ko false 22 1 ((rw' l1).set n1.toNat ⟨(G13 7).s⟩) (fun _ => (G12 2).s)) n1 none false (⟨(G13 7).s⟩ : Rw) hkl (fun _ => ⟨by omega, by simp only [List.length_set, rw_length]; omega⟩) false (fun _ => [((G13 7).s).v]),
              .k (iv n2),
              .ix g0 (ko true 44 2 l2 (fun _ => (G13 7).s)) n2 (fun _ => ⟨by omega, by omega⟩),
              .k (.pointer (some ((elemAddr (((G13 7).s).v) (n2.toNat * 5)).add 1))),
              .le g0 (ko true 44 2 l2 (fun _ => (G13 7).s)) n2 (some 1) false x2 hx2 (fun _ => ⟨by omega, by omega⟩) false (fun _ => [iv x2.Value]),
              .a (x2.Value + 1) (by omega) (by omega),
              .k (.int .u8 n),
              .arg g0 n n rfl (fun _ => by omega),
              .ar (x2.Value + 1 + n) n3 hn3 (by omega) (by omega),
              .ix g0 (ko true 44 2 l2 (fun _ => (G13 7).s)) n2 (fun _ => ⟨by omega, by omega⟩),
              .k (.pointer (some ((elemAddr (((G13 7).s).v) (n2.toNat * 5)).add 1))),
              .se g0 19 2 44 true l2 (fun _ => (G13 7).s) n2 (some 1) x2 (DThing.mk x2.Text n3 x2.Blind x2.Left x2.Right) hx2 true l3 hl3 (fun _ => ⟨by omega, by omega⟩) (fun _ => rfl) [] (fun _ _ _ _ => trivial)] (fun _ _ => by kernel_rfl) fun _ _ G16 => ?_
            intro S16 t16
            refine V.frz 2 true 44 l3 ((G13 7).s) (by kernel_rfl) ?_
            refine V.frz 1 false 22 ((rw' l1).set n1.toNat ⟨(G13 7).s⟩) ((G12 2).s) (by kernel_rfl) ?_
            refine nm ((seen.set n1.toNat ⟨l3, (G13 7).s⟩) : List (Fat DThing)) fun lz hlz => ?_
            refine V.bless 7 2 6 false false true ((rw' l1).set n1.toNat ⟨(G13 7).s⟩) ((G12 2).s) seen seens l3 ((G13 7).s) n1.toNat lz (by kernel_rfl) hlz (by rw [hch, hlz]; exact rw_set _ _ ⟨_, _⟩) ?_
            have hno : ¬ Rv.CheckP v (Rv.ls paths) (Rv.ls lz) := by
              rw [hlz]
              exact Rv.changed_no hC (by omega) (by omega) hx1 hck (m := n2) (by omega) (by omega) hx2 hl3 (by show _ ≠ _; simp only []; omega)
            refine V.go [.k (bv true),
              .k (bv true),
              .ld 0 0 true (fun _ => Dat.cells (DVault.mk ⟨v, vs⟩)),
              .k (pathss.v),
              .k (((G12 2).s).v),
              .cp (gT (b := true) iTT) 5 35 [(kf false (.f 0) v (fun _ => vs)).a, (kf false (.f 1) paths (fun _ => pathss)).a, (kf false (.f 8) lz (fun _ => (G12 2).s)).a] (fun hg G => rcheck_ct v vs paths pathss lz ((G12 2).s) (Rv.fewD_pre hf1)),
              .k (bv (!(decide (Rv.CheckP v (Rv.ls paths) (Rv.ls lz))))),
              .k (bv (!(decide (Rv.CheckP v (Rv.ls paths) (Rv.ls lz))))),
              .k (bv (!(decide (Rv.CheckP v (Rv.ls paths) (Rv.ls lz)))))] (fun _ _ => by kernel_rfl) fun _ _ G17 => ?_
            intro S17 t17
            have e0 : (!(decide (Rv.CheckP v (Rv.ls paths) (Rv.ls lz)))) = true := by
              refine (iNT iDF).2 ?_
              exact hno
            exact V.ret [0] [] [] [] [] [] (bv (!(decide (Rv.CheckP v (Rv.ls paths) (Rv.ls lz))))) (fun _ _ => by kernel_rfl) (fun _ _ => (Eq.trans (by kernel_rfl) (cong1 (fun (x0 : Bool) => (bv x0 : Value)) e0)).trans (by kernel_rfl)) (fun _ _ => trivial)

end Kb
