/- The contracts of reveal: joining. -/
import Derived.Test.YtaolgnmpgnamnaaVd
import Derived.Test.YtaolgnmpgnamnaaHk
set_option linter.unusedVariables false
set_option linter.unusedSimpArgs false
namespace Kb
open Go Go.Proofs
set_option maxRecDepth 10000 in
theorem growt_ct (n : Int) (h0 : 0 ≤ n) (hb : n ≤ 1000) :
    Ct Try.prog 76 #[.slice none 0 0, iv n] [] [] (fun g => ((g.ss 0)).v) (fun g => []) (fun g => [os true 22 ([] : List (Fat DThing)) (g.ss 0)]) (fun g => []) := by
  refine V.fn mo Try.func76 27 2 (by kernel_rfl) fun w H ε k0 => ?_
  clear k0
  refine V.go [.k (.slice none 0 0)] (fun _ _ => by kernel_rfl) fun _ _ G1 => ?_
  intro S1 t1
  refine V.go [.k (iv n),
    .k (bv (decide (n < 0)))] (fun _ _ => by kernel_rfl) fun _ _ G2 => ?_
  intro S2 t2
  refine V.cond (b := decide (n < 0)) iDT iDF (by kernel_rfl) (fun q1 => ?_) (fun q2 => ?_)
  · skip
    exfalso; omega
  · skip
    refine V.go [.k (iv n),
      .k (.slice none 0 0),
      .k (iv 0),
      .k (.slice none 0 0),
      .k (iv 0),
      .k (iv 0),
      .a (n - 0) (by omega) (by omega),
      .k (iv (n - 0))] (fun _ _ => by kernel_rfl) fun _ _ G3 => ?_
    intro S3 t3
    refine V.go [.k (iv (n - 0)),
      .k (bv (decide (0 < n - 0)))] (fun _ _ => by kernel_rfl) fun _ _ G4 => ?_
    intro S4 t4
    refine V.cond (b := decide (0 < n - 0)) iDT iDF (by kernel_rfl) (fun q3 => ?_) (fun q4 => ?_)
    · skip
      refine nm (List.replicate (n - 0).toNat (default : Fat DThing) : List (Fat DThing)) fun l1 hl1 => ?_
      have hl1n := congrArg List.length hl1; try simp only [List.length_append, List.length_cons, List.length_nil, List.length_replicate, List.length_set, List.length_take, List.length_drop, List.length_map, List.length_reverse, List.length_range] at hl1n
      refine nm (l1.take (0 : Int).toNat : List (Fat DThing)) fun l2 hl2 => ?_
      have hl2n := congrArg List.length hl2; try simp only [List.length_append, List.length_cons, List.length_nil, List.length_replicate, List.length_set, List.length_take, List.length_drop, List.length_map, List.length_reverse, List.length_range] at hl2n
      refine V.go [.k (.slice none 0 0),
        .k (.slice none 0 0),
        .k (iv 0),
        .k (.slice none 0 0),
        .k (iv (n - 0)),
        .apz 5 0 48 3 22 24 (n - 0) l1 hl1 (by omega) (by omega) (by omega),
        .k (.slice none 0 0),
        .k (iv 0),
        .fro 8 0 22 true l1 (fun G => (G 5).s) 0 l2 hl2 (by omega) (by omega),
        .v fun G => (((G 5).s).sub 1 0 (0 : Int).toNat).v] (fun _ _ => by kernel_rfl) fun _ _ G5 => ?_
      intro S5 t5
      refine V.go [.k ((((G5 5).s).sub 1 0 (0 : Int).toNat).v),
        .k ((((G5 5).s).sub 1 0 (0 : Int).toNat).v)] (fun _ _ => by kernel_rfl) fun _ _ G6 => ?_
      intro S6 t6
      have e0 : l2 = ([] : List (Fat DThing)) := by
        rw [hl2]; rfl
      subst e0
      exact V.ret [0] [(((G5 5).s).sub 1 0 (0 : Int).toNat)] [fun _ => {}] [] [] [0] ((((G5 5).s).sub 1 0 (0 : Int).toNat).v) (fun _ _ => by kernel_rfl) (fun _ _ => by kernel_rfl) (fun _ _ => trivial)
    · skip
      refine V.go [.k (.slice none 0 0),
        .k (.slice none 0 0)] (fun _ _ => by kernel_rfl) fun _ _ G7 => ?_
      intro S7 t7
      refine V.on (α := Fat DThing) 0 22 (by kernel_rfl) ?_
      exact V.ret [0] [{}] [fun _ => {}] [] [] [0] (SV.v ({})) (fun _ _ => by kernel_rfl) (fun _ _ => by kernel_rfl) (fun _ _ => trivial)

set_option maxRecDepth 10000 in
theorem growi_ct (n : Int) (h0 : 0 ≤ n) (hb : n ≤ 1000) :
    Ct Try.prog 77 #[.slice none 0 0, iv n] [] [] (fun g => ((g.ss 0)).v) (fun g => []) (fun g => [os true 26 ([] : List (Fat Int)) (g.ss 0)]) (fun g => []) := by
  refine V.fn mo Try.func77 27 2 (by kernel_rfl) fun w H ε k0 => ?_
  clear k0
  refine V.go [.k (.slice none 0 0)] (fun _ _ => by kernel_rfl) fun _ _ G1 => ?_
  intro S1 t1
  refine V.go [.k (iv n),
    .k (bv (decide (n < 0)))] (fun _ _ => by kernel_rfl) fun _ _ G2 => ?_
  intro S2 t2
  refine V.cond (b := decide (n < 0)) iDT iDF (by kernel_rfl) (fun q1 => ?_) (fun q2 => ?_)
  · skip
    exfalso; omega
  · skip
    refine V.go [.k (iv n),
      .k (.slice none 0 0),
      .k (iv 0),
      .k (.slice none 0 0),
      .k (iv 0),
      .k (iv 0),
      .a (n - 0) (by omega) (by omega),
      .k (iv (n - 0))] (fun _ _ => by kernel_rfl) fun _ _ G3 => ?_
    intro S3 t3
    refine V.go [.k (iv (n - 0)),
      .k (bv (decide (0 < n - 0)))] (fun _ _ => by kernel_rfl) fun _ _ G4 => ?_
    intro S4 t4
    refine V.cond (b := decide (0 < n - 0)) iDT iDF (by kernel_rfl) (fun q3 => ?_) (fun q4 => ?_)
    · skip
      refine nm (List.replicate (n - 0).toNat (default : Fat Int) : List (Fat Int)) fun l1 hl1 => ?_
      have hl1n := congrArg List.length hl1; try simp only [List.length_append, List.length_cons, List.length_nil, List.length_replicate, List.length_set, List.length_take, List.length_drop, List.length_map, List.length_reverse, List.length_range] at hl1n
      refine nm (l1.take (0 : Int).toNat : List (Fat Int)) fun l2 hl2 => ?_
      have hl2n := congrArg List.length hl2; try simp only [List.length_append, List.length_cons, List.length_nil, List.length_replicate, List.length_set, List.length_take, List.length_drop, List.length_map, List.length_reverse, List.length_range] at hl2n
      refine V.go [.k (.slice none 0 0),
        .k (.slice none 0 0),
        .k (iv 0),
        .k (.slice none 0 0),
        .k (iv (n - 0)),
        .apz 5 0 47 3 26 24 (n - 0) l1 hl1 (by omega) (by omega) (by omega),
        .k (.slice none 0 0),
        .k (iv 0),
        .fro 8 0 26 true l1 (fun G => (G 5).s) 0 l2 hl2 (by omega) (by omega),
        .v fun G => (((G 5).s).sub 1 0 (0 : Int).toNat).v] (fun _ _ => by kernel_rfl) fun _ _ G5 => ?_
      intro S5 t5
      refine V.go [.k ((((G5 5).s).sub 1 0 (0 : Int).toNat).v),
        .k ((((G5 5).s).sub 1 0 (0 : Int).toNat).v)] (fun _ _ => by kernel_rfl) fun _ _ G6 => ?_
      intro S6 t6
      have e0 : l2 = ([] : List (Fat Int)) := by
        rw [hl2]; rfl
      subst e0
      exact V.ret [0] [(((G5 5).s).sub 1 0 (0 : Int).toNat)] [fun _ => {}] [] [] [0] ((((G5 5).s).sub 1 0 (0 : Int).toNat).v) (fun _ _ => by kernel_rfl) (fun _ _ => by kernel_rfl) (fun _ _ => trivial)
    · skip
      refine V.go [.k (.slice none 0 0),
        .k (.slice none 0 0)] (fun _ _ => by kernel_rfl) fun _ _ G7 => ?_
      intro S7 t7
      refine V.on (α := Fat Int) 0 26 (by kernel_rfl) ?_
      exact V.ret [0] [{}] [fun _ => {}] [] [] [0] (SV.v ({})) (fun _ _ => by kernel_rfl) (fun _ _ => by kernel_rfl) (fun _ _ => trivial)

set_option maxRecDepth 10000 in
theorem concatt_ct (slices : List (Fat (Fat DThing))) (slicess : SV) (hn : slices.length ≤ 2) (hb : ∀ x ∈ slices, x.l.length ≤ 100) :
    Ct Try.prog 66 #[slicess.v] [fs true slices slicess] [] (fun g => ((g.ss 0)).v) (fun g => []) (fun g => [os false 22 (Rv.cat slices) (g.ss 0)]) (fun g => []) := by
  refine V.fn mo Try.func66 36 1 (by kernel_rfl) fun w H ε k0 => ?_
  obtain ⟨⟨kl1, -⟩, -⟩ : Lq slices slicess.v ∧ True := kn k0 (by kernel_rfl)
  clear k0
  refine V.go [.k (.slice none 0 0)] (fun _ _ => by kernel_rfl) fun _ _ G1 => ?_
  intro S1 t1
  refine V.go [.k (iv 0)] (fun _ _ => by kernel_rfl) fun _ _ G2 => ?_
  intro S2 t2
  refine V.go [.k (slicess.v),
    .ln (kf false (.f 0) slices (fun _ => slicess)),
    .k (iv 0)] (fun _ _ => by kernel_rfl) fun _ _ G3 => ?_
  intro S3 t3
  refine V.loop (γ := Int × Int) (fun ⟨size, k0⟩ => ⟨[(0, slicess.v), (3, iv size), (9, slicess.v), (10, iv (slices.length : Int)), (11, iv k0)], [fs false slices slicess], [.no]⟩) (fun ⟨size, k0⟩ => (0 ≤ k0) ∧ (k0 ≤ (slices.length : Int)) ∧ (0 ≤ size) ∧ (size ≤ 100 * k0)) (fun ⟨size, k0⟩ => ((slices.length : Int) - k0).toNat) (0, 0) (by kernel_rfl) [0] (by kernel_rfl) ?_ ?_
  · skip
    refine ⟨?_, ?_, ?_, ?_⟩
    · show 0 ≤ (0 : Int)
      first | omega | rfl | (simp; done) | (subst_vars; simp; done)
    · show (0 : Int) ≤ (slices.length : Int)
      first | omega | rfl | (simp; done) | (subst_vars; simp; done)
    · show 0 ≤ (0 : Int)
      first | omega | rfl | (simp; done) | (subst_vars; simp; done)
    · show (0 : Int) ≤ 100 * (0 : Int)
      first | omega | rfl | (simp; done) | (subst_vars; simp; done)
  · rintro ⟨size, k0⟩ hF1 kw4 Z1 hZ1
    have hF1 : (0 ≤ k0) ∧ (k0 ≤ (slices.length : Int)) ∧ (0 ≤ size) ∧ (size ≤ 100 * k0) := hF1
    obtain ⟨hf1, hf2, hf3, hf4⟩ := hF1
    clear kw4
    refine V.go [.k (bv (decide (k0 < (slices.length : Int))))] (fun _ _ => by kernel_rfl) fun _ _ G4 => ?_
    intro S4 t4
    refine V.cond (b := decide (k0 < (slices.length : Int))) iDT iDF (by kernel_rfl) (fun q1 => ?_) (fun q2 => ?_)
    · skip
      refine nm (slices.getD k0.toNat default : Fat (Fat DThing)) fun x1 hx1 => ?_
      refine V.reg [.ix g0 (kf false (.f 0) slices (fun _ => slicess)) k0 (fun _ => ⟨by omega, by omega⟩),
        .le g0 (kf false (.f 0) slices (fun _ => slicess)) k0 none true x1 hx1 (fun _ => ⟨by omega, by omega⟩) false (fun _ => [x1.s.v]),
        .k (x1.s.v)] (fun _ _ => by kernel_rfl) fun _ _ G5 kw6 => ?_
      intro S5 t5
      obtain ⟨⟨kl2, -⟩, -⟩ : Lq x1.l x1.s.v ∧ True := kn kw6 (by kernel_rfl)
      clear kw6
      have hbx := hb _ (getD_mem (by omega) hx1)
      refine nm (size + (x1.l.length : Int) : Int) fun n1 hn1 => ?_
      refine V.go [.k (iv size),
        .k (x1.s.v),
        .ln (kx false (.f 1) x1 x1.l (fun _ => x1.s) (fun _ _ h => h)),
        .ar (size + (x1.l.length : Int)) n1 hn1 (by omega) (by omega),
        .k (iv n1)] (fun _ _ => by kernel_rfl) fun _ _ G6 => ?_
      intro S6 t6
      refine V.go [.k (iv n1),
        .k (bv (decide (n1 < 0)))] (fun _ _ => by kernel_rfl) fun _ _ G7 => ?_
      intro S7 t7
      refine V.cond (b := decide (n1 < 0)) iDT iDF (by kernel_rfl) (fun q3 => ?_) (fun q4 => ?_)
      · skip
        exfalso; omega
      · skip
        refine V.go [.a (k0 + 1) (by omega) (by omega),
          .k (iv (k0 + 1))] (fun _ _ => by kernel_rfl) fun _ _ G8 => ?_
        intro S8 t8
        refine V.rnd hZ1 (n1, k0 + 1) [0] (by kernel_rfl) ?_ ?_
        · skip
          refine ⟨?_, ?_, ?_, ?_⟩
          · show 0 ≤ (k0 + 1)
            omega
          · show (k0 + 1) ≤ (slices.length : Int)
            omega
          · show 0 ≤ n1
            omega
          · show n1 ≤ 100 * (k0 + 1)
            omega
        · show ((slices.length : Int) - (k0 + 1)).toNat < ((slices.length : Int) - k0).toNat
          omega
    · skip
      refine V.go [.k (iv size),
        .ct g0 1 76 false [] [0] [] (fun _ G => growt_ct size (by omega) (by omega)),
        .v fun G => ((G 1).ss 0).v] (fun _ _ => by kernel_rfl) fun _ _ G9 => ?_
      intro S9 t9
      refine V.go [.k (slicess.v),
        .ln (kf false (.f 0) slices (fun _ => slicess)),
        .k (iv 0)] (fun _ _ => by kernel_rfl) fun _ _ G10 => ?_
      intro S10 t10
      refine V.loop (γ := List (Fat DThing) × SV × Int) (fun ⟨newslice, newslices, k1⟩ => ⟨[(6, newslices.v), (25, slicess.v), (26, iv (slices.length : Int)), (27, iv k1)], [fs false slices slicess], [os false 22 newslice newslices]⟩) (fun ⟨newslice, newslices, k1⟩ => (0 ≤ k1) ∧ (k1 ≤ (slices.length : Int)) ∧ (newslice = Rv.cat (slices.take k1.toNat)) ∧ ((newslice.length : Int) ≤ 100 * k1)) (fun ⟨newslice, newslices, k1⟩ => ((slices.length : Int) - k1).toNat) (([] : List (Fat DThing)), (G9 1).ss 0, 0) (by kernel_rfl) [0] (by kernel_rfl) ?_ ?_
      · skip
        refine ⟨?_, ?_, ?_, ?_⟩
        · show 0 ≤ (0 : Int)
          first | omega | simp
        · show (0 : Int) ≤ (slices.length : Int)
          first | omega | simp
        · show ([] : List (Fat DThing)) = Rv.cat (slices.take (0 : Int).toNat)
          rfl
        · show (([] : List (Fat DThing)).length : Int) ≤ 100 * (0 : Int)
          first | omega | simp
      · rintro ⟨newslice, newslices, k1⟩ hF2 kw12 Z2 hZ2
        have hF2 : (0 ≤ k1) ∧ (k1 ≤ (slices.length : Int)) ∧ (newslice = Rv.cat (slices.take k1.toNat)) ∧ ((newslice.length : Int) ≤ 100 * k1) := hF2
        obtain ⟨hf5, hf6, hf7, hf8⟩ := hF2
        obtain ⟨-, ⟨kl3, -⟩, -⟩ : Lq slices slicess.v ∧ Lq newslice newslices.v ∧ True := kn kw12 (by kernel_rfl)
        clear kw12
        refine V.go [.k (bv (decide (k1 < (slices.length : Int))))] (fun _ _ => by kernel_rfl) fun _ _ G11 => ?_
        intro S11 t11
        refine V.cond (b := decide (k1 < (slices.length : Int))) iDT iDF (by kernel_rfl) (fun q5 => ?_) (fun q6 => ?_)
        · skip
          refine nm (slices.getD k1.toNat default : Fat (Fat DThing)) fun x2 hx2 => ?_
          refine V.reg [.ix g0 (kf false (.f 0) slices (fun _ => slicess)) k1 (fun _ => ⟨by omega, by omega⟩),
            .le g0 (kf false (.f 0) slices (fun _ => slicess)) k1 none true x2 hx2 (fun _ => ⟨by omega, by omega⟩) false (fun _ => [x2.s.v]),
            .k (x2.s.v)] (fun _ _ => by kernel_rfl) fun _ _ G12 kw14 => ?_
          intro S12 t12
          obtain ⟨⟨kl4, -⟩, -⟩ : Lq x2.l x2.s.v ∧ Lq newslice newslices.v ∧ True := kn kw14 (by kernel_rfl)
          clear kw14
          have hbx := hb _ (getD_mem (by omega) hx2)
          refine nm (newslice ++ x2.l : List (Fat DThing)) fun l1 hl1 => ?_
          have hl1n := congrArg List.length hl1; try simp only [List.length_append, List.length_cons, List.length_nil, List.length_replicate, List.length_set, List.length_take, List.length_drop, List.length_map, List.length_reverse, List.length_range] at hl1n
          refine V.go [.k (newslices.v),
            .k (x2.s.v),
            .ap 2 0 22 24 false false newslice (fun _ => newslices) (kx false (.f 1) x2 x2.l (fun _ => x2.s) (fun _ _ h => h)) false l1 hl1 (by (try simp only [List.length_append, List.length_cons, List.length_nil, List.length_replicate, List.length_set, List.length_take, List.length_drop, List.length_map, List.length_reverse, List.length_range]); omega) (fun h => by cases h) (.inl fun h => by cases h),
            .v fun G => ((G 2).s).v] (fun _ _ => by kernel_rfl) fun _ _ G13 => ?_
          intro S13 t13
          refine V.go [.a (k1 + 1) (by omega) (by omega),
            .k (iv (k1 + 1))] (fun _ _ => by kernel_rfl) fun _ _ G14 => ?_
          intro S14 t14
          refine V.rnd hZ2 (l1, (G13 2).s, k1 + 1) [0] (by kernel_rfl) ?_ ?_
          · skip
            refine ⟨?_, ?_, ?_, ?_⟩
            · show 0 ≤ (k1 + 1)
              first | omega | rfl | (simp; done) | (subst_vars; simp; done)
            · show (k1 + 1) ≤ (slices.length : Int)
              first | omega | rfl | (simp; done) | (subst_vars; simp; done)
            · show l1 = Rv.cat (slices.take (k1 + 1).toNat)
              exact Rv.cat_step (by omega) (by omega) hf7 hx2 hl1
            · show (l1.length : Int) ≤ 100 * (k1 + 1)
              omega
          · show ((slices.length : Int) - (k1 + 1)).toNat < ((slices.length : Int) - k1).toNat
            omega
        · skip
          refine V.go [.k (newslices.v),
            .k (newslices.v)] (fun _ _ => by kernel_rfl) fun _ _ G15 => ?_
          intro S15 t15
          have e0 : newslice = Rv.cat slices := by
            rw [hf7, List.take_of_length_le (by omega)]
          subst e0
          exact V.ret [0] [newslices] [fun _ => {}] [] [] [0] (newslices.v) (fun _ _ => by kernel_rfl) (fun _ _ => by kernel_rfl) (fun _ _ => trivial)

set_option maxRecDepth 10000 in
theorem concati_ct (slices : List (Fat (Fat Int))) (slicess : SV) (hn : slices.length ≤ 2) (hb : ∀ x ∈ slices, x.l.length ≤ 100) :
    Ct Try.prog 67 #[slicess.v] [fs true slices slicess] [] (fun g => ((g.ss 0)).v) (fun g => []) (fun g => [os false 26 (Rv.cat slices) (g.ss 0)]) (fun g => []) := by
  refine V.fn mo Try.func67 36 1 (by kernel_rfl) fun w H ε k0 => ?_
  obtain ⟨⟨kl1, -⟩, -⟩ : Lq slices slicess.v ∧ True := kn k0 (by kernel_rfl)
  clear k0
  refine V.go [.k (.slice none 0 0)] (fun _ _ => by kernel_rfl) fun _ _ G1 => ?_
  intro S1 t1
  refine V.go [.k (iv 0)] (fun _ _ => by kernel_rfl) fun _ _ G2 => ?_
  intro S2 t2
  refine V.go [.k (slicess.v),
    .ln (kf false (.f 0) slices (fun _ => slicess)),
    .k (iv 0)] (fun _ _ => by kernel_rfl) fun _ _ G3 => ?_
  intro S3 t3
  refine V.loop (γ := Int × Int) (fun ⟨size, k0⟩ => ⟨[(0, slicess.v), (3, iv size), (9, slicess.v), (10, iv (slices.length : Int)), (11, iv k0)], [fs false slices slicess], [.no]⟩) (fun ⟨size, k0⟩ => (0 ≤ k0) ∧ (k0 ≤ (slices.length : Int)) ∧ (0 ≤ size) ∧ (size ≤ 100 * k0)) (fun ⟨size, k0⟩ => ((slices.length : Int) - k0).toNat) (0, 0) (by kernel_rfl) [0] (by kernel_rfl) ?_ ?_
  · skip
    refine ⟨?_, ?_, ?_, ?_⟩
    · show 0 ≤ (0 : Int)
      first | omega | rfl | (simp; done) | (subst_vars; simp; done)
    · show (0 : Int) ≤ (slices.length : Int)
      first | omega | rfl | (simp; done) | (subst_vars; simp; done)
    · show 0 ≤ (0 : Int)
      first | omega | rfl | (simp; done) | (subst_vars; simp; done)
    · show (0 : Int) ≤ 100 * (0 : Int)
      first | omega | rfl | (simp; done) | (subst_vars; simp; done)
  · rintro ⟨size, k0⟩ hF1 kw4 Z1 hZ1
    have hF1 : (0 ≤ k0) ∧ (k0 ≤ (slices.length : Int)) ∧ (0 ≤ size) ∧ (size ≤ 100 * k0) := hF1
    obtain ⟨hf1, hf2, hf3, hf4⟩ := hF1
    clear kw4
    refine V.go [.k (bv (decide (k0 < (slices.length : Int))))] (fun _ _ => by kernel_rfl) fun _ _ G4 => ?_
    intro S4 t4
    refine V.cond (b := decide (k0 < (slices.length : Int))) iDT iDF (by kernel_rfl) (fun q1 => ?_) (fun q2 => ?_)
    · skip
      refine nm (slices.getD k0.toNat default : Fat (Fat Int)) fun x1 hx1 => ?_
      refine V.reg [.ix g0 (kf false (.f 0) slices (fun _ => slicess)) k0 (fun _ => ⟨by omega, by omega⟩),
        .le g0 (kf false (.f 0) slices (fun _ => slicess)) k0 none true x1 hx1 (fun _ => ⟨by omega, by omega⟩) false (fun _ => [x1.s.v]),
        .k (x1.s.v)] (fun _ _ => by kernel_rfl) fun _ _ G5 kw6 => ?_
      intro S5 t5
      obtain ⟨⟨kl2, -⟩, -⟩ : Lq x1.l x1.s.v ∧ True := kn kw6 (by kernel_rfl)
      clear kw6
      have hbx := hb _ (getD_mem (by omega) hx1)
      refine nm (size + (x1.l.length : Int) : Int) fun n1 hn1 => ?_
      refine V.go [.k (iv size),
        .k (x1.s.v),
        .ln (kx false (.f 1) x1 x1.l (fun _ => x1.s) (fun _ _ h => h)),
        .ar (size + (x1.l.length : Int)) n1 hn1 (by omega) (by omega),
        .k (iv n1)] (fun _ _ => by kernel_rfl) fun _ _ G6 => ?_
      intro S6 t6
      refine V.go [.k (iv n1),
        .k (bv (decide (n1 < 0)))] (fun _ _ => by kernel_rfl) fun _ _ G7 => ?_
      intro S7 t7
      refine V.cond (b := decide (n1 < 0)) iDT iDF (by kernel_rfl) (fun q3 => ?_) (fun q4 => ?_)
      · skip
        exfalso; omega
      · skip
        refine V.go [.a (k0 + 1) (by omega) (by omega),
          .k (iv (k0 + 1))] (fun _ _ => by kernel_rfl) fun _ _ G8 => ?_
        intro S8 t8
        refine V.rnd hZ1 (n1, k0 + 1) [0] (by kernel_rfl) ?_ ?_
        · skip
          refine ⟨?_, ?_, ?_, ?_⟩
          · show 0 ≤ (k0 + 1)
            omega
          · show (k0 + 1) ≤ (slices.length : Int)
            omega
          · show 0 ≤ n1
            omega
          · show n1 ≤ 100 * (k0 + 1)
            omega
        · show ((slices.length : Int) - (k0 + 1)).toNat < ((slices.length : Int) - k0).toNat
          omega
    · skip
      refine V.go [.k (iv size),
        .ct g0 1 77 false [] [0] [] (fun _ G => growi_ct size (by omega) (by omega)),
        .v fun G => ((G 1).ss 0).v] (fun _ _ => by kernel_rfl) fun _ _ G9 => ?_
      intro S9 t9
      refine V.go [.k (slicess.v),
        .ln (kf false (.f 0) slices (fun _ => slicess)),
        .k (iv 0)] (fun _ _ => by kernel_rfl) fun _ _ G10 => ?_
      intro S10 t10
      refine V.loop (γ := List (Fat Int) × SV × Int) (fun ⟨newslice, newslices, k1⟩ => ⟨[(6, newslices.v), (25, slicess.v), (26, iv (slices.length : Int)), (27, iv k1)], [fs false slices slicess], [os false 26 newslice newslices]⟩) (fun ⟨newslice, newslices, k1⟩ => (0 ≤ k1) ∧ (k1 ≤ (slices.length : Int)) ∧ (newslice = Rv.cat (slices.take k1.toNat)) ∧ ((newslice.length : Int) ≤ 100 * k1)) (fun ⟨newslice, newslices, k1⟩ => ((slices.length : Int) - k1).toNat) (([] : List (Fat Int)), (G9 1).ss 0, 0) (by kernel_rfl) [0] (by kernel_rfl) ?_ ?_
      · skip
        refine ⟨?_, ?_, ?_, ?_⟩
        · show 0 ≤ (0 : Int)
          first | omega | simp
        · show (0 : Int) ≤ (slices.length : Int)
          first | omega | simp
        · show ([] : List (Fat Int)) = Rv.cat (slices.take (0 : Int).toNat)
          rfl
        · show (([] : List (Fat Int)).length : Int) ≤ 100 * (0 : Int)
          first | omega | simp
      · rintro ⟨newslice, newslices, k1⟩ hF2 kw12 Z2 hZ2
        have hF2 : (0 ≤ k1) ∧ (k1 ≤ (slices.length : Int)) ∧ (newslice = Rv.cat (slices.take k1.toNat)) ∧ ((newslice.length : Int) ≤ 100 * k1) := hF2
        obtain ⟨hf5, hf6, hf7, hf8⟩ := hF2
        obtain ⟨-, ⟨kl3, -⟩, -⟩ : Lq slices slicess.v ∧ Lq newslice newslices.v ∧ True := kn kw12 (by kernel_rfl)
        clear kw12
        refine V.go [.k (bv (decide (k1 < (slices.length : Int))))] (fun _ _ => by kernel_rfl) fun _ _ G11 => ?_
        intro S11 t11
        refine V.cond (b := decide (k1 < (slices.length : Int))) iDT iDF (by kernel_rfl) (fun q5 => ?_) (fun q6 => ?_)
        · skip
          refine nm (slices.getD k1.toNat default : Fat (Fat Int)) fun x2 hx2 => ?_
          refine V.reg [.ix g0 (kf false (.f 0) slices (fun _ => slicess)) k1 (fun _ => ⟨by omega, by omega⟩),
            .le g0 (kf false (.f 0) slices (fun _ => slicess)) k1 none true x2 hx2 (fun _ => ⟨by omega, by omega⟩) false (fun _ => [x2.s.v]),
            .k (x2.s.v)] (fun _ _ => by kernel_rfl) fun _ _ G12 kw14 => ?_
          intro S12 t12
          obtain ⟨⟨kl4, -⟩, -⟩ : Lq x2.l x2.s.v ∧ Lq newslice newslices.v ∧ True := kn kw14 (by kernel_rfl)
          clear kw14
          have hbx := hb _ (getD_mem (by omega) hx2)
          refine nm (newslice ++ x2.l : List (Fat Int)) fun l1 hl1 => ?_
          have hl1n := congrArg List.length hl1; try simp only [List.length_append, List.length_cons, List.length_nil, List.length_replicate, List.length_set, List.length_take, List.length_drop, List.length_map, List.length_reverse, List.length_range] at hl1n
          refine V.go [.k (newslices.v),
            .k (x2.s.v),
            .ap 2 0 26 24 false false newslice (fun _ => newslices) (kx false (.f 1) x2 x2.l (fun _ => x2.s) (fun _ _ h => h)) false l1 hl1 (by (try simp only [List.length_append, List.length_cons, List.length_nil, List.length_replicate, List.length_set, List.length_take, List.length_drop, List.length_map, List.length_reverse, List.length_range]); omega) (fun h => by cases h) (.inl fun h => by cases h),
            .v fun G => ((G 2).s).v] (fun _ _ => by kernel_rfl) fun _ _ G13 => ?_
          intro S13 t13
          refine V.go [.a (k1 + 1) (by omega) (by omega),
            .k (iv (k1 + 1))] (fun _ _ => by kernel_rfl) fun _ _ G14 => ?_
          intro S14 t14
          refine V.rnd hZ2 (l1, (G13 2).s, k1 + 1) [0] (by kernel_rfl) ?_ ?_
          · skip
            refine ⟨?_, ?_, ?_, ?_⟩
            · show 0 ≤ (k1 + 1)
              first | omega | rfl | (simp; done) | (subst_vars; simp; done)
            · show (k1 + 1) ≤ (slices.length : Int)
              first | omega | rfl | (simp; done) | (subst_vars; simp; done)
            · show l1 = Rv.cat (slices.take (k1 + 1).toNat)
              exact Rv.cat_step (by omega) (by omega) hf7 hx2 hl1
            · show (l1.length : Int) ≤ 100 * (k1 + 1)
              omega
          · show ((slices.length : Int) - (k1 + 1)).toNat < ((slices.length : Int) - k1).toNat
            omega
        · skip
          refine V.go [.k (newslices.v),
            .k (newslices.v)] (fun _ _ => by kernel_rfl) fun _ _ G15 => ?_
          intro S15 t15
          have e0 : newslice = Rv.cat slices := by
            rw [hf7, List.take_of_length_le (by omega)]
          subst e0
          exact V.ret [0] [newslices] [fun _ => {}] [] [] [0] (newslices.v) (fun _ _ => by kernel_rfl) (fun _ _ => by kernel_rfl) (fun _ _ => trivial)

end Kb
