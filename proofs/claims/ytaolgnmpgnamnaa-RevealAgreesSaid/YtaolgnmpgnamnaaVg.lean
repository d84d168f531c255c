/- The contracts of reveal: Show. -/
import Derived.Test.YtaolgnmpgnamnaaVe
import Derived.Test.YtaolgnmpgnamnaaRn
set_option linter.unusedVariables false
set_option linter.unusedSimpArgs false
namespace Kb
open Go Go.Proofs
set_option maxRecDepth 10000 in
theorem show_ct (v : List DThing) (vs : SV) (root : Int) (open_ : List Int) (open_s : SV) :
    Ct Try.prog 30 #[ag (DVault.mk ⟨v, vs⟩), iv root, open_s.v] [fs true v vs, fs true open_ open_s] [] (fun g => .tuple #[((g.ss 0)).v, ((g.ss 1)).v, iv (Rv.showE v root open_)]) (fun g => [fs true (fats (Rv.showP v root open_) (g.sl 0)) (g.ss 0), fs true (fats (Rv.showS v root open_) (g.sl 1)) (g.ss 1)]) (fun g => []) (fun g => []) := by
  refine V.fn mo Try.func30 79 3 (by kernel_rfl) fun w H ε k0 => ?_
  obtain ⟨⟨kl1, -⟩, ⟨kl2, -⟩, -⟩ : Lq v vs.v ∧ Lq open_ open_s.v ∧ True := kn k0 (by kernel_rfl)
  clear k0
  refine V.go [.nb 0 0 (fun b => pp b 0) 24 (fun _ => ca (DVault.mk ⟨v, vs⟩)),
    .k (.slice none 0 0),
    .k (.slice none 0 0),
    .k (iv 0)] (fun _ _ => by kernel_rfl) fun _ _ G1 => ?_
  intro S1 t1
  refine nm ((!(decide (Tm.Sound v))) || (decide (root < 0)) : Bool) fun p1 hp1 => ?_
  refine nm ((p1 || (decide ((v.length : Int) ≤ root))) || (decide ((open_.length : Int) = 0)) : Bool) fun p2 hp2 => ?_
  refine V.go [.ld 0 0 true (fun _ => Dat.cells (DVault.mk ⟨v, vs⟩)),
    .cp g0 1 26 [(kf false (.f 0) v (fun _ => vs)).a] (fun _ G => sound_ct v vs),
    .k (bv (!(decide (Tm.Sound v)))),
    .k (bv (!(decide (Tm.Sound v)))),
    .k (iv root),
    .k (bv (decide (root < 0))),
    .orn g0 false (!(decide (Tm.Sound v))) (decide (root < 0)) p1 hp1,
    .k (bv p1),
    .k (iv root),
    .k (pp ((G1 0).b) 0),
    .ld 0 0 false (fun _ => [vs.v]),
    .ln (kf false (.f 0) v (fun _ => vs)),
    .k (bv (decide ((v.length : Int) ≤ root))),
    .or g0 false p1 (decide ((v.length : Int) ≤ root)),
    .k (bv (p1 || (decide ((v.length : Int) ≤ root)))),
    .k (open_s.v),
    .ln (kf false (.f 1) open_ (fun _ => open_s)),
    .k (bv (decide ((open_.length : Int) = 0))),
    .orn g0 false (p1 || (decide ((v.length : Int) ≤ root))) (decide ((open_.length : Int) = 0)) p2 hp2,
    .k (bv p2),
    .k (open_s.v),
    .ln (kf false (.f 1) open_ (fun _ => open_s)),
    .k (bv (decide (64 < (open_.length : Int)))),
    .or g0 false p2 (decide (64 < (open_.length : Int)))] (fun _ _ => by kernel_rfl) fun _ _ G2 => ?_
  intro S2 t2
  refine V.cond (b := p2 || (decide (64 < (open_.length : Int)))) (iOT (iN hp2 (iOT (iOT (iN hp1 (iOT (iNT iDF) iDT)) iDT) iDT)) iDT) (iOF (iN hp2 (iOF (iOF (iN hp1 (iOF (iNF iDT) iDF)) iDF) iDF)) iDF) (by kernel_rfl) (fun q1 => ?_) (fun q2 => ?_)
  · skip
    have hno := Rv.show_arg (v := v) (r := root) (o := open_) (by rintro ⟨h1, h2, h3, h4⟩; rcases q1 with (((h | h) | h) | h) | h <;> first | exact h h1 | omega)
    refine V.go [.k (.slice none 0 0),
      .k (.slice none 0 0),
      .k (iv 1)] (fun _ _ => by kernel_rfl) fun _ _ G3 => ?_
    intro S3 t3
    refine V.nilF (α := Fat Int) ?_
    refine V.nilF (α := Fat DThing) ?_
    have e0 : ([] : List (Fat Int)).map (·.l) = (Rv.showP v root open_) := by
      rw [hno.2.1]; rfl
    rw [← e0]
    have e1 : ([] : List (Fat DThing)).map (·.l) = (Rv.showS v root open_) := by
      rw [hno.2.2]; rfl
    rw [← e1]
    have e2 : (1 : Int) = Rv.showE v root open_ := by
      exact hno.1.symm
    exact V.ret [0, 0, 0] [{}, {}] [fun _ => {}, fun _ => {}] [] [2, 3] [] (.tuple #[SV.v ({}), SV.v ({}), iv 1]) (fun _ _ => by kernel_rfl) (fun _ _ => (Eq.trans (by kernel_rfl) (cong1 (fun (x2 : Int) => (.tuple #[SV.v ({}), SV.v ({}), iv x2] : Value)) e2)).trans (by kernel_rfl)) (fun _ _ => trivial)
  · skip
    have hA : Rv.argS v root open_ := ⟨by rcases q2 with ⟨⟨⟨⟨h, _⟩, _⟩, _⟩, _⟩; first | exact h | exact Decidable.not_not.1 h, by omega, by omega, by omega⟩
    refine V.go [.k (open_s.v),
      .ln (kf false (.f 1) open_ (fun _ => open_s)),
      .k (iv 0)] (fun _ _ => by kernel_rfl) fun _ _ G4 => ?_
    intro S4 t4
    refine V.on (α := Fat Int) 1 26 (by kernel_rfl) ?_
    refine V.on (α := Fat DThing) 2 22 (by kernel_rfl) ?_
    refine V.loop (γ := List (Fat Int) × SV × List (Fat DThing) × SV × Int) (fun ⟨paths, pathss, seen, seens, k0⟩ => ⟨[(1, iv root), (2, open_s.v), (3, pp ((G1 0).b) 0), (6, pathss.v), (7, seens.v), (36, open_s.v), (37, iv (open_.length : Int)), (38, iv k0)], [fs false open_ open_s, fs false v vs], [.blk ((G1 0).b) (ca (DVault.mk ⟨v, vs⟩)) 24, os true 26 paths pathss, os true 22 seen seens]⟩) (fun ⟨paths, pathss, seen, seens, k0⟩ => (0 ≤ k0) ∧ (k0 ≤ (open_.length : Int)) ∧ (Rv.scanE v root open_ k0.toNat = 0) ∧ (paths.map (·.l) = (open_.take k0.toNat).map (Tm.pathF v root)) ∧ (seen.map (·.l) = (open_.take k0.toNat).map (fun a => Tm.viewF v (Tm.pathF v root a)))) (fun ⟨paths, pathss, seen, seens, k0⟩ => ((open_.length : Int) - k0).toNat) (([] : List (Fat Int)), {}, ([] : List (Fat DThing)), {}, 0) (by kernel_rfl) [1, 0] (by kernel_rfl) ?_ ?_
    · skip
      refine ⟨?_, ?_, ?_, ?_, ?_⟩
      · show 0 ≤ (0 : Int)
        first | omega | rfl | (simp; done) | (subst_vars; simp; done)
      · show (0 : Int) ≤ (open_.length : Int)
        first | omega | rfl | (simp; done) | (subst_vars; simp; done)
      · show Rv.scanE v root open_ (0 : Int).toNat = 0
        rfl
      · show ([] : List (Fat Int)).map (·.l) = (open_.take (0 : Int).toNat).map (Tm.pathF v root)
        rfl
      · show ([] : List (Fat DThing)).map (·.l) = (open_.take (0 : Int).toNat).map (fun a => Tm.viewF v (Tm.pathF v root a))
        rfl
    · rintro ⟨paths, pathss, seen, seens, k0⟩ hF1 kw5 Z1 hZ1
      have hF1 : (0 ≤ k0) ∧ (k0 ≤ (open_.length : Int)) ∧ (Rv.scanE v root open_ k0.toNat = 0) ∧ (paths.map (·.l) = (open_.take k0.toNat).map (Tm.pathF v root)) ∧ (seen.map (·.l) = (open_.take k0.toNat).map (fun a => Tm.viewF v (Tm.pathF v root a))) := hF1
      obtain ⟨hf1, hf2, hf3, hf4, hf5⟩ := hF1
      obtain ⟨-, -, ⟨kl3, -⟩, ⟨kl4, -⟩, -⟩ : Lq open_ open_s.v ∧ Lq v vs.v ∧ Lq paths pathss.v ∧ Lq seen seens.v ∧ True := kn kw5 (by kernel_rfl)
      clear kw5
      have hln1 := congrArg List.length hf4; simp only [List.length_map, List.length_take] at hln1
      have hln2 := congrArg List.length hf5; simp only [List.length_map, List.length_take] at hln2
      refine V.go [.k (bv (decide (k0 < (open_.length : Int))))] (fun _ _ => by kernel_rfl) fun _ _ G5 => ?_
      intro S5 t5
      refine V.cond (b := decide (k0 < (open_.length : Int))) iDT iDF (by kernel_rfl) (fun q3 => ?_) (fun q4 => ?_)
      · skip
        refine nm (open_.getD k0.toNat default : Int) fun v1 hv1 => ?_
        refine V.go [.k (iv k0),
          .ix g0 (kf false (.f 0) open_ (fun _ => open_s)) k0 (fun _ => ⟨by omega, by omega⟩),
          .le g0 (kf false (.f 0) open_ (fun _ => open_s)) k0 none false v1 hv1 (fun _ => ⟨by omega, by omega⟩) false (fun _ => [iv v1]),
          .k (iv k0),
          .k (iv v1)] (fun _ _ => by kernel_rfl) fun _ _ G6 => ?_
        intro S6 t6
        refine V.reg [.ld 0 0 true (fun _ => Dat.cells (DVault.mk ⟨v, vs⟩)),
          .k (iv root),
          .k (iv v1),
          .ct g0 3 20 false [] [] [(kf false (.f 1) v (fun _ => vs)).a] (fun _ G => path_ct v vs root v1),
          .v fun G => ((G 3).ss 0).v] (fun _ _ => by kernel_rfl) fun _ _ G7 kw8 => ?_
        intro S7 t7
        obtain ⟨⟨kl5, -⟩, -⟩ : Lq (Tm.pathF v root v1) (((G7 3).ss 0).v) ∧ Lq paths pathss.v ∧ Lq seen seens.v ∧ True := kn kw8 (by kernel_rfl)
        clear kw8
        refine nm (v.getD v1.toNat default : DThing) fun x1 hx1 => ?_
        refine nm ((decide (((Tm.pathF v root v1).length : Int) = 0)) || (!(decide (x1.Left = (-1)))) : Bool) fun p3 hp3 => ?_
        refine V.go [.k (((G7 3).ss 0).v),
          .ln (kf true (.f 2) (Tm.pathF v root v1) (fun _ => (G7 3).ss 0)),
          .k (bv (decide (((Tm.pathF v root v1).length : Int) = 0))),
          .k (bv (decide (((Tm.pathF v root v1).length : Int) = 0))),
          .k (pp ((G1 0).b) 0),
          .ld 0 0 false (fun _ => [vs.v]),
          .k (iv v1),
          .ix (gF (b := decide (((Tm.pathF v root v1).length : Int) = 0)) iDF) (kf false (.f 1) v (fun _ => vs)) v1 (fun hg => ⟨(Rv.path_has hg).1, (Rv.path_has hg).2⟩),
          .k (.pointer (some ((elemAddr vs.v (v1.toNat * 5)).add 3))),
          .le (gF (b := decide (((Tm.pathF v root v1).length : Int) = 0)) iDF) (kf false (.f 1) v (fun _ => vs)) v1 (some 3) false x1 hx1 (fun hg => ⟨(Rv.path_has hg).1, (Rv.path_has hg).2⟩) false (fun _ => [iv x1.Left]),
          .k (bv (!(decide (x1.Left = (-1))))),
          .orn g0 false (decide (((Tm.pathF v root v1).length : Int) = 0)) (!(decide (x1.Left = (-1)))) p3 hp3,
          .k (bv p3)] (fun _ _ => by kernel_rfl) fun _ _ G8 => ?_
        intro S8 t8
        refine V.cond (b := p3) (iN hp3 (iOT iDT (iNT iDF))) (iN hp3 (iOF iDF (iNF iDT))) (by kernel_rfl) (fun q5 => ?_) (fun q6 => ?_)
        · skip
          have hno := Rv.show_stop hA (by omega) hf3 (Rv.step_4 hv1 hx1 q5) (by decide)
          refine V.go [.k (.slice none 0 0),
            .k (.slice none 0 0),
            .k (iv 4)] (fun _ _ => by kernel_rfl) fun _ _ G9 => ?_
          intro S9 t9
          refine V.nilF (α := Fat Int) ?_
          refine V.nilF (α := Fat DThing) ?_
          have e0 : ([] : List (Fat Int)).map (·.l) = (Rv.showP v root open_) := by
            rw [hno.2.1]; rfl
          rw [← e0]
          have e1 : ([] : List (Fat DThing)).map (·.l) = (Rv.showS v root open_) := by
            rw [hno.2.2]; rfl
          rw [← e1]
          have e2 : (4 : Int) = Rv.showE v root open_ := by
            exact hno.1.symm
          exact V.ret [0, 0, 0] [{}, {}] [fun _ => {}, fun _ => {}] [] [3, 4] [] (.tuple #[SV.v ({}), SV.v ({}), iv 4]) (fun _ _ => by kernel_rfl) (fun _ _ => (Eq.trans (by kernel_rfl) (cong1 (fun (x2 : Int) => (.tuple #[SV.v ({}), SV.v ({}), iv x2] : Value)) e2)).trans (by kernel_rfl)) (fun _ _ => trivial)
        · skip
          refine nm (open_.take k0.toNat : List Int) fun l1 hl1 => ?_
          have hl1n := congrArg List.length hl1; try simp only [List.length_append, List.length_cons, List.length_nil, List.length_replicate, List.length_set, List.length_take, List.length_drop, List.length_map, List.length_reverse, List.length_range] at hl1n
          refine V.reg [.k (open_s.v),
            .k (iv k0),
            .sl g0 (kf false (.f 0) open_ (fun _ => open_s)) rfl none (some k0) 0 k0 rfl rfl l1 (by rw [hl1]; simp) (fun _ => ⟨by omega, by omega, by omega⟩),
            .k (iv v1),
            .cp g0 4 62 [(kf false (.g 2 0) l1 (fun _ => (open_s.sub 1 (0 : Int).toNat k0.toNat))).a] (fun _ G => contains_ct l1 (open_s.sub 1 (0 : Int).toNat k0.toNat) v1),
            .k (bv (decide (v1 ∈ l1)))] (fun _ _ => by kernel_rfl) fun _ _ G10 kw11 => ?_
          intro S10 t10
          obtain ⟨⟨kl6, -⟩, -⟩ : Lq l1 ((open_s.sub 1 (0 : Int).toNat k0.toNat).v) ∧ Lq paths pathss.v ∧ Lq seen seens.v ∧ True := kn kw11 (by kernel_rfl)
          clear kw11
          refine V.cond (b := decide (v1 ∈ l1)) iDT iDF (by kernel_rfl) (fun q7 => ?_) (fun q8 => ?_)
          · skip
            have hno := Rv.show_stop hA (by omega) hf3 (Rv.step_5 hv1 hx1 q6 (hl1 ▸ q7)) (by decide)
            refine V.go [.k (.slice none 0 0),
              .k (.slice none 0 0),
              .k (iv 5)] (fun _ _ => by kernel_rfl) fun _ _ G11 => ?_
            intro S11 t11
            refine V.nilF (α := Fat Int) ?_
            refine V.nilF (α := Fat DThing) ?_
            have e0 : ([] : List (Fat Int)).map (·.l) = (Rv.showP v root open_) := by
              rw [hno.2.1]; rfl
            rw [← e0]
            have e1 : ([] : List (Fat DThing)).map (·.l) = (Rv.showS v root open_) := by
              rw [hno.2.2]; rfl
            rw [← e1]
            have e2 : (5 : Int) = Rv.showE v root open_ := by
              exact hno.1.symm
            exact V.ret [0, 0, 0] [{}, {}] [fun _ => {}, fun _ => {}] [] [4, 5] [] (.tuple #[SV.v ({}), SV.v ({}), iv 5]) (fun _ _ => by kernel_rfl) (fun _ _ => (Eq.trans (by kernel_rfl) (cong1 (fun (x2 : Int) => (.tuple #[SV.v ({}), SV.v ({}), iv x2] : Value)) e2)).trans (by kernel_rfl)) (fun _ _ => trivial)
          · skip
            refine nm (paths ++ ([⟨Tm.pathF v root v1, (G7 3).ss 0⟩] : List (Fat Int)) : List (Fat Int)) fun l2 hl2 => ?_
            have hl2n := congrArg List.length hl2; try simp only [List.length_append, List.length_cons, List.length_nil, List.length_replicate, List.length_set, List.length_take, List.length_drop, List.length_map, List.length_reverse, List.length_range] at hl2n
            refine V.reg [.k (pathss.v),
              .k (((G7 3).ss 0).v),
              .nr 2 true 26 ([⟨Tm.pathF v root v1, (G7 3).ss 0⟩] : List (Fat Int)) [(kf true (.f 2) (Tm.pathF v root v1) (fun _ => (G7 3).ss 0)).a] (fun _ _ h => (List.forall_mem_cons.2 ⟨h.1, (List.forall_mem_nil _)⟩)) (fun _ => #[((G7 3).ss 0).v]),
              .ap 3 1 26 24 false true paths (fun _ => pathss) (kf true (.g 2 0) ([⟨Tm.pathF v root v1, (G7 3).ss 0⟩] : List (Fat Int)) (fun G => ⟨atB (G 2).b, 1, 1⟩)) true l2 hl2 (by (try simp only [List.length_append, List.length_cons, List.length_nil, List.length_replicate, List.length_set, List.length_take, List.length_drop, List.length_map, List.length_reverse, List.length_range]); omega) (fun h => by cases h) (.inl fun _ => ⟨rfl, rfl⟩),
              .k (seens.v),
              .ld 0 0 true (fun _ => Dat.cells (DVault.mk ⟨v, vs⟩)),
              .k (((G7 3).ss 0).v),
              .ct g0 7 22 false [] [] [(kf false (.f 1) v (fun _ => vs)).a, (kf true (.f 2) (Tm.pathF v root v1) (fun _ => (G7 3).ss 0)).a] (fun _ G => view_ct v vs (Tm.pathF v root v1) ((G7 3).ss 0) (by have := Tm.pathF_len v root v1; omega)),
              .nrG 8 true 22 (fun G => ([⟨Tm.viewF v (Tm.pathF v root v1), (G 7).ss 0⟩] : List (Fat DThing))) 1 (fun _ => rfl) [(kf true (.g 7 0) (Tm.viewF v (Tm.pathF v root v1)) (fun G => (G 7).ss 0)).a] (fun _ _ h => (List.forall_mem_cons.2 ⟨h.1, (List.forall_mem_nil _)⟩)) (fun G => #[((G 7).ss 0).v]),
              .apG 9 2 22 24 false true seen (fun _ => seens) (.g 8 0) true (fun G => ([⟨Tm.viewF v (Tm.pathF v root v1), (G 7).ss 0⟩] : List (Fat DThing))) 1 (fun _ => rfl) (fun G => ⟨atB (G 8).b, 1, 1⟩) true (by (try simp only [List.length_append, List.length_cons, List.length_nil, List.length_replicate, List.length_set, List.length_take, List.length_drop, List.length_map, List.length_reverse, List.length_range]); omega) (fun h => by cases h) (fun _ => ⟨rfl, rfl⟩),
              .v fun G => ((G 3).s).v,
              .v fun G => ((G 9).s).v] (fun _ _ => by kernel_rfl) fun _ _ G12 kw13 => ?_
            intro S12 t12
            obtain ⟨⟨kl7, -⟩, ⟨kl8, -⟩, ⟨kl9, -⟩, -⟩ : Lq ([⟨Tm.pathF v root v1, (G7 3).ss 0⟩] : List (Fat Int)) (SV.v ⟨atB (G12 2).b, 1, 1⟩) ∧ Lq (Tm.viewF v (Tm.pathF v root v1)) (((G12 7).ss 0).v) ∧ Lq ([⟨Tm.viewF v (Tm.pathF v root v1), (G12 7).ss 0⟩] : List (Fat DThing)) (SV.v ⟨atB (G12 8).b, 1, 1⟩) ∧ Lq l2 (((G12 3).s).v) ∧ Lq (seen ++ ([⟨Tm.viewF v (Tm.pathF v root v1), (G12 7).ss 0⟩] : List (Fat DThing))) (((G12 9).s).v) ∧ True := kn kw13 (by kernel_rfl)
            clear kw13
            refine V.go [.a (k0 + 1) (by omega) (by omega),
              .k (iv (k0 + 1))] (fun _ _ => by kernel_rfl) fun _ _ G13 => ?_
            intro S13 t13
            refine V.rnd hZ1 (l2, (G12 3).s, seen ++ ([⟨Tm.viewF v (Tm.pathF v root v1), (G12 7).ss 0⟩] : List (Fat DThing)), (G12 9).s, k0 + 1) [0, 1] (by kernel_rfl) ?_ ?_
            · skip
              refine ⟨?_, ?_, ?_, ?_, ?_⟩
              · show 0 ≤ (k0 + 1)
                first | omega | rfl | (simp; done) | (subst_vars; simp; done)
              · show (k0 + 1) ≤ (open_.length : Int)
                first | omega | rfl | (simp; done) | (subst_vars; simp; done)
              · show Rv.scanE v root open_ (k0 + 1).toNat = 0
                exact Rv.step_0 hv1 hx1 q6 (hl1 ▸ q8) (by omega) hf3
              · show l2.map (·.l) = (open_.take (k0 + 1).toNat).map (Tm.pathF v root)
                exact Rv.take_map (by omega) (by omega) hv1 hf4 hl2
              · show (seen ++ ([⟨Tm.viewF v (Tm.pathF v root v1), (G12 7).ss 0⟩] : List (Fat DThing))).map (·.l) = (open_.take (k0 + 1).toNat).map (fun a => Tm.viewF v (Tm.pathF v root a))
                exact Rv.take_map (f := fun a => Tm.viewF v (Tm.pathF v root a)) (by omega) (by omega) hv1 hf5 rfl
            · show ((open_.length : Int) - (k0 + 1)).toNat < ((open_.length : Int) - k0).toNat
              omega
      · skip
        have hno := Rv.show_ok hA (k := k0) (by omega) hf3
        refine V.go [.k (pathss.v),
          .k (seens.v),
          .k (pathss.v),
          .k (seens.v),
          .k (iv 0)] (fun _ _ => by kernel_rfl) fun _ _ G14 => ?_
        intro S14 t14
        refine V.frz 1 true 26 paths pathss (by kernel_rfl) ?_
        refine V.frz 2 true 22 seen seens (by kernel_rfl) ?_
        have e0 : paths.map (·.l) = (Rv.showP v root open_) := by
          rw [hno.2.1, ← List.take_of_length_le (l := open_) (i := k0.toNat) (by omega)]; exact hf4
        obtain ⟨σ0, E0⟩ := fats_ex e0
        subst E0
        clear e0
        have e1 : seen.map (·.l) = (Rv.showS v root open_) := by
          rw [hno.2.2, ← List.take_of_length_le (l := open_) (i := k0.toNat) (by omega)]; exact hf5
        obtain ⟨σ1, E1⟩ := fats_ex e1
        subst E1
        clear e1
        have e2 : (0 : Int) = Rv.showE v root open_ := by
          exact hno.1.symm
        exact V.ret [0, 0, 0] [pathss, seens] [σ0, σ1] [] [2, 3] [] (.tuple #[pathss.v, seens.v, iv 0]) (fun _ _ => by kernel_rfl) (fun _ _ => (Eq.trans (by kernel_rfl) (cong1 (fun (x2 : Int) => (.tuple #[pathss.v, seens.v, iv x2] : Value)) e2)).trans (by kernel_rfl)) (fun _ _ => trivial)

end Kb
