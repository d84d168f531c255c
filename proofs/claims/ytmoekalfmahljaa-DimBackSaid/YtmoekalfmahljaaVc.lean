/- The contracts of dimensions: texts. -/
import Derived.Test.YtmoekalfmahljaaVb
set_option linter.unusedVariables false
set_option linter.unusedSectionVars false
set_option linter.unusedSimpArgs false
namespace Kb
open Go Go.Proofs
set_option maxRecDepth 10000 in
set_option maxHeartbeats 2000000 in
theorem text_ct (d0 d1 d2 d3 d4 d5 : Int) :
    Cp Try.prog 7 #[.agg #[iv d0, iv d1, iv d2, iv d3, iv d4, iv d5]] [] (tv (Dm.text [d0, d1, d2, d3, d4, d5])) := by
  refine V.fn mo Try.func7 47 2 (by kernel_rfl) fun w H ε k0 => ?_
  clear k0
  refine V.go [.nb 0 0 (fun b => pp b 0) 23 (fun _ => #[iv d0, iv d1, iv d2, iv d3, iv d4, iv d5]),
    .k (tv ByteArray.empty)] (fun _ _ => by kernel_rfl) fun _ _ G1 => ?_
  intro S1 t1
  refine V.go [.ld 0 0 true (fun _ => [iv d0, iv d1, iv d2, iv d3, iv d4, iv d5]),
    .cp g0 1 9 [] (fun _ G => right_ct d0 d1 d2 d3 d4 d5),
    .k (bv (!(decide (Dm.Rt [d0, d1, d2, d3, d4, d5]))))] (fun _ _ => by kernel_rfl) fun _ _ G2 => ?_
  intro S2 t2
  refine V.cond (b := !(decide (Dm.Rt [d0, d1, d2, d3, d4, d5]))) (iNT iDF) (iNF iDT) (by kernel_rfl) (fun q1 => ?_) (fun q2 => ?_)
  · skip
    refine V.go [.k (tv ByteArray.empty)] (fun _ _ => by kernel_rfl) fun _ _ G3 => ?_
    intro S3 t3
    have e0 : ByteArray.empty = Dm.text [d0, d1, d2, d3, d4, d5] := by
      unfold Dm.text; rw [if_neg q1]
    exact V.ret [0] [] [] [] [] [] (tv ByteArray.empty) (fun _ _ => by kernel_rfl) (fun _ _ => (Eq.trans (by kernel_rfl) (cong1 (fun (x0 : ByteArray) => (tv x0 : Value)) e0)).trans (by kernel_rfl)) (fun _ _ => trivial)
  · skip
    have hR : Dm.Rt [d0, d1, d2, d3, d4, d5] := by first | exact q2 | exact Decidable.not_not.1 q2
    have hR6 := Dm.Rt6.1 hR
    refine V.go [.k (.slice none 0 0)] (fun _ _ => by kernel_rfl) fun _ _ G4 => ?_
    intro S4 t4
    refine V.go [.k (tv ByteArray.empty)] (fun _ _ => by kernel_rfl) fun _ _ G5 => ?_
    intro S5 t5
    refine V.go [.cp g0 0 13 [] (fun _ G => symbols_ct ),
      .k (iv 0)] (fun _ _ => by kernel_rfl) fun _ _ G6 => ?_
    intro S6 t6
    refine V.on (α := ByteArray) 1 9 (by kernel_rfl) ?_
    refine V.loop (γ := List ByteArray × SV × ByteArray × Int) (fun ⟨above, aboves, below, k0⟩ => ⟨[(1, pp ((G1 0).b) 0), (3, aboves.v), (4, tv below), (11, .agg #[tv ⟨#[103]⟩, tv ⟨#[109]⟩, tv ⟨#[115]⟩, tv ⟨#[74]⟩, tv ⟨#[99, 101, 110, 116]⟩, tv ⟨#[112, 99]⟩]), (12, iv k0)], [], [.blk ((G1 0).b) #[iv d0, iv d1, iv d2, iv d3, iv d4, iv d5] 23, os true 9 above aboves]⟩) (fun ⟨above, aboves, below, k0⟩ => (0 ≤ k0) ∧ (k0 ≤ 6) ∧ (above = Dm.abN [d0, d1, d2, d3, d4, d5] k0.toNat) ∧ (below = Dm.beN [d0, d1, d2, d3, d4, d5] k0.toNat)) (fun ⟨above, aboves, below, k0⟩ => (6 - k0).toNat) (([] : List ByteArray), {}, ByteArray.empty, 0) (by kernel_rfl) [] (by kernel_rfl) ?_ ?_
    · skip
      refine ⟨?_, ?_, ?_, ?_⟩
      · show 0 ≤ (0 : Int)
        omega
      · show (0 : Int) ≤ 6
        omega
      · show ([] : List ByteArray) = Dm.abN [d0, d1, d2, d3, d4, d5] (0 : Int).toNat
        rfl
      · show ByteArray.empty = Dm.beN [d0, d1, d2, d3, d4, d5] (0 : Int).toNat
        rfl
    · rintro ⟨above, aboves, below, k0⟩ hF1 kw7 Z1 hZ1
      have hF1 : (0 ≤ k0) ∧ (k0 ≤ 6) ∧ (above = Dm.abN [d0, d1, d2, d3, d4, d5] k0.toNat) ∧ (below = Dm.beN [d0, d1, d2, d3, d4, d5] k0.toNat) := hF1
      obtain ⟨hf1, hf2, hf3, hf4⟩ := hF1
      obtain ⟨⟨kl1, -⟩, -⟩ : Lq above aboves.v ∧ True := kn kw7 (by kernel_rfl)
      clear kw7
      have hbs : below.size ≤ 6 * k0.toNat := by rw [hf4]; exact Dm.beN_size _
      have hal : above.length ≤ k0.toNat := by rw [hf3]; exact (Dm.abN_mem _).1
      refine V.go [.k (bv (decide (k0 < 6)))] (fun _ _ => by kernel_rfl) fun _ _ G7 => ?_
      intro S7 t7
      refine V.cond (b := decide (k0 < 6)) iDT iDF (by kernel_rfl) (fun q3 => ?_) (fun q4 => ?_)
      · skip
        rcases (by omega : k0 = 0 ∨ k0 = 1 ∨ k0 = 2 ∨ k0 = 3 ∨ k0 = 4 ∨ k0 = 5) with hcs1 | hcs2 | hcs3 | hcs4 | hcs5 | hcs6
        · skip
          refine V.alt (fun (zz : Int) => (⟨[(1, pp ((G1 0).b) 0), (3, aboves.v), (4, tv below), (11, .agg #[tv ⟨#[103]⟩, tv ⟨#[109]⟩, tv ⟨#[115]⟩, tv ⟨#[74]⟩, tv ⟨#[99, 101, 110, 116]⟩, tv ⟨#[112, 99]⟩]), (12, iv zz), (13, bv (decide (k0 < 6)))], [], [.blk ((G1 0).b) #[iv d0, iv d1, iv d2, iv d3, iv d4, iv d5] 23, os true 9 above aboves]⟩ : St)) hcs1 [] (by kernel_rfl) ?_
          refine V.go [.k (iv 0),
            .k (tv ⟨#[103]⟩),
            .k (iv 0),
            .k (tv ⟨#[103]⟩)] (fun _ _ => by kernel_rfl) fun _ _ G8 => ?_
          intro S8 t8
          refine V.go [.k (iv 0),
            .k (pp ((G1 0).b) 0),
            .ld 0 0 false (fun _ => [iv d0]),
            .k (iv d0)] (fun _ _ => by kernel_rfl) fun _ _ G9 => ?_
          intro S9 t9
          refine V.go [.k (iv d0),
            .k (bv (decide (0 < d0))),
            .k (bv (decide (0 < d0)))] (fun _ _ => by kernel_rfl) fun _ _ G10 => ?_
          intro S10 t10
          refine V.cond (b := decide (0 < d0)) iDT iDF (by kernel_rfl) (fun q5 => ?_) (fun q6 => ?_)
          · skip
            refine nm (above ++ ([Dm.item ⟨#[103]⟩ d0] : List ByteArray) : List ByteArray) fun l1 hl1 => ?_
            have hl1n := congrArg List.length hl1; try simp only [List.length_append, List.length_cons, List.length_nil, List.length_replicate, List.length_set, List.length_take, List.length_drop, List.length_map, List.length_reverse, List.length_range] at hl1n
            refine V.reg [.k (aboves.v),
              .k (tv ⟨#[103]⟩),
              .k (iv d0),
              .cp g0 3 14 [] (fun _ G => item_ct ⟨#[103]⟩ d0 (by decide) (by omega)),
              .nr 4 true 9 ([Dm.item ⟨#[103]⟩ d0] : List ByteArray) [] (fun _ _ _ _ _ => trivial) (fun _ => #[tv (Dm.item ⟨#[103]⟩ d0)]),
              .ap 5 1 9 16 false true above (fun _ => aboves) (kf true (.g 4 0) ([Dm.item ⟨#[103]⟩ d0] : List ByteArray) (fun G => ⟨atB (G 4).b, 1, 1⟩)) true l1 hl1 (by (try simp only [List.length_append, List.length_cons, List.length_nil, List.length_replicate, List.length_set, List.length_take, List.length_drop, List.length_map, List.length_reverse, List.length_range]); omega) (fun h => by cases h) (.inr fun _ _ => trivial),
              .v fun G => ((G 5).s).v] (fun _ _ => by kernel_rfl) fun _ _ G11 kw12 => ?_
            intro S11 t11
            obtain ⟨⟨kl2, -⟩, -⟩ : Lq ([Dm.item ⟨#[103]⟩ d0] : List ByteArray) (SV.v ⟨atB (G11 4).b, 1, 1⟩) ∧ Lq l1 (((G11 5).s).v) ∧ True := kn kw12 (by kernel_rfl)
            clear kw12
            refine V.go [.k (iv 1),
              .k (iv 1)] (fun _ _ => by kernel_rfl) fun _ _ G12 => ?_
            intro S12 t12
            refine V.rnd hZ1 (l1, (G11 5).s, below, 1) [] (by kernel_rfl) ?_ ?_
            · skip
              refine ⟨?_, ?_, ?_, ?_⟩
              · show 0 ≤ (1 : Int)
                omega
              · show (1 : Int) ≤ 6
                omega
              · show l1 = Dm.abN [d0, d1, d2, d3, d4, d5] (1 : Int).toNat
                rw [hl1, hf3, hcs1]; exact (Dm.abN_pos (D := [d0, d1, d2, d3, d4, d5]) (n := 0) q5).symm
              · show below = Dm.beN [d0, d1, d2, d3, d4, d5] (1 : Int).toNat
                rw [hf4, hcs1]; exact (Dm.beN_no (D := [d0, d1, d2, d3, d4, d5]) (n := 0) (show ¬ d0 < 0 by omega)).symm
            · show (6 - (1 : Int)).toNat < (6 - k0).toNat
              omega
          · skip
            refine V.go [.k (iv d0),
              .k (bv (decide (d0 < 0))),
              .k (bv (decide (d0 < 0)))] (fun _ _ => by kernel_rfl) fun _ _ G13 => ?_
            intro S13 t13
            refine V.cond (b := decide (d0 < 0)) iDT iDF (by kernel_rfl) (fun q7 => ?_) (fun q8 => ?_)
            · skip
              have hz1 : (⟨#[47]⟩ : ByteArray).size = 1 := rfl
              refine nm ((⟨#[47]⟩ : ByteArray) ++ (Dm.item ⟨#[103]⟩ (-d0)) : ByteArray) fun t1 ht1 => ?_
              have ht1n : t1.size = (⟨#[47]⟩ : ByteArray).size + (Dm.item ⟨#[103]⟩ (-d0)).size := by rw [ht1, ByteArray.size_append]
              refine nm (below ++ t1 : ByteArray) fun t2 ht2 => ?_
              have ht2n : t2.size = below.size + t1.size := by rw [ht2, ByteArray.size_append]
              have hit := Dm.item_size (s := ⟨#[103]⟩) (e := -d0)
              have hsy : (⟨#[103]⟩ : ByteArray).size ≤ 4 := by decide
              refine V.go [.k (tv below),
                .k (tv ⟨#[103]⟩),
                .k (iv d0),
                .ng d0 (-d0) rfl (by omega) (by omega),
                .cp g0 4 14 [] (fun _ G => item_ct ⟨#[103]⟩ (-d0) (by decide) (by omega)),
                .sad g0 ⟨#[47]⟩ (Dm.item ⟨#[103]⟩ (-d0)) t1 ht1 (fun _ => by omega),
                .sad g0 below t1 t2 ht2 (fun _ => by omega),
                .k (tv t2)] (fun _ _ => by kernel_rfl) fun _ _ G14 => ?_
              intro S14 t14
              refine V.go [.k (iv 1),
                .k (iv 1)] (fun _ _ => by kernel_rfl) fun _ _ G15 => ?_
              intro S15 t15
              refine V.rnd hZ1 (above, aboves, t2, 1) [] (by kernel_rfl) ?_ ?_
              · skip
                refine ⟨?_, ?_, ?_, ?_⟩
                · show 0 ≤ (1 : Int)
                  omega
                · show (1 : Int) ≤ 6
                  omega
                · show above = Dm.abN [d0, d1, d2, d3, d4, d5] (1 : Int).toNat
                  rw [hf3, hcs1]; exact (Dm.abN_no (D := [d0, d1, d2, d3, d4, d5]) (n := 0) (show ¬ 0 < d0 by omega)).symm
                · show t2 = Dm.beN [d0, d1, d2, d3, d4, d5] (1 : Int).toNat
                  rw [ht2, ht1, hf4, hcs1]; exact (Dm.beN_neg (D := [d0, d1, d2, d3, d4, d5]) (n := 0) q7).symm
              · show (6 - (1 : Int)).toNat < (6 - k0).toNat
                omega
            · skip
              refine V.go [.k (iv 1),
                .k (iv 1)] (fun _ _ => by kernel_rfl) fun _ _ G16 => ?_
              intro S16 t16
              refine V.rnd hZ1 (above, aboves, below, 1) [] (by kernel_rfl) ?_ ?_
              · skip
                refine ⟨?_, ?_, ?_, ?_⟩
                · show 0 ≤ (1 : Int)
                  omega
                · show (1 : Int) ≤ 6
                  omega
                · show above = Dm.abN [d0, d1, d2, d3, d4, d5] (1 : Int).toNat
                  rw [hf3, hcs1]; exact (Dm.abN_no (D := [d0, d1, d2, d3, d4, d5]) (n := 0) (show ¬ 0 < d0 by omega)).symm
                · show below = Dm.beN [d0, d1, d2, d3, d4, d5] (1 : Int).toNat
                  rw [hf4, hcs1]; exact (Dm.beN_no (D := [d0, d1, d2, d3, d4, d5]) (n := 0) (show ¬ d0 < 0 by omega)).symm
              · show (6 - (1 : Int)).toNat < (6 - k0).toNat
                omega
        · skip
          refine V.alt (fun (zz : Int) => (⟨[(1, pp ((G1 0).b) 0), (3, aboves.v), (4, tv below), (11, .agg #[tv ⟨#[103]⟩, tv ⟨#[109]⟩, tv ⟨#[115]⟩, tv ⟨#[74]⟩, tv ⟨#[99, 101, 110, 116]⟩, tv ⟨#[112, 99]⟩]), (12, iv zz), (13, bv (decide (k0 < 6)))], [], [.blk ((G1 0).b) #[iv d0, iv d1, iv d2, iv d3, iv d4, iv d5] 23, os true 9 above aboves]⟩ : St)) hcs2 [] (by kernel_rfl) ?_
          refine V.go [.k (iv 1),
            .k (tv ⟨#[109]⟩),
            .k (iv 1),
            .k (tv ⟨#[109]⟩)] (fun _ _ => by kernel_rfl) fun _ _ G17 => ?_
          intro S17 t17
          refine V.go [.k (iv 1),
            .k (pp ((G1 0).b) 1),
            .ld 0 1 false (fun _ => [iv d1]),
            .k (iv d1)] (fun _ _ => by kernel_rfl) fun _ _ G18 => ?_
          intro S18 t18
          refine V.go [.k (iv d1),
            .k (bv (decide (0 < d1))),
            .k (bv (decide (0 < d1)))] (fun _ _ => by kernel_rfl) fun _ _ G19 => ?_
          intro S19 t19
          refine V.cond (b := decide (0 < d1)) iDT iDF (by kernel_rfl) (fun q9 => ?_) (fun q10 => ?_)
          · skip
            refine nm (above ++ ([Dm.item ⟨#[109]⟩ d1] : List ByteArray) : List ByteArray) fun l2 hl2 => ?_
            have hl2n := congrArg List.length hl2; try simp only [List.length_append, List.length_cons, List.length_nil, List.length_replicate, List.length_set, List.length_take, List.length_drop, List.length_map, List.length_reverse, List.length_range] at hl2n
            refine V.reg [.k (aboves.v),
              .k (tv ⟨#[109]⟩),
              .k (iv d1),
              .cp g0 3 14 [] (fun _ G => item_ct ⟨#[109]⟩ d1 (by decide) (by omega)),
              .nr 4 true 9 ([Dm.item ⟨#[109]⟩ d1] : List ByteArray) [] (fun _ _ _ _ _ => trivial) (fun _ => #[tv (Dm.item ⟨#[109]⟩ d1)]),
              .ap 5 1 9 16 false true above (fun _ => aboves) (kf true (.g 4 0) ([Dm.item ⟨#[109]⟩ d1] : List ByteArray) (fun G => ⟨atB (G 4).b, 1, 1⟩)) true l2 hl2 (by (try simp only [List.length_append, List.length_cons, List.length_nil, List.length_replicate, List.length_set, List.length_take, List.length_drop, List.length_map, List.length_reverse, List.length_range]); omega) (fun h => by cases h) (.inr fun _ _ => trivial),
              .v fun G => ((G 5).s).v] (fun _ _ => by kernel_rfl) fun _ _ G20 kw21 => ?_
            intro S20 t20
            obtain ⟨⟨kl3, -⟩, -⟩ : Lq ([Dm.item ⟨#[109]⟩ d1] : List ByteArray) (SV.v ⟨atB (G20 4).b, 1, 1⟩) ∧ Lq l2 (((G20 5).s).v) ∧ True := kn kw21 (by kernel_rfl)
            clear kw21
            refine V.go [.k (iv 2),
              .k (iv 2)] (fun _ _ => by kernel_rfl) fun _ _ G21 => ?_
            intro S21 t21
            refine V.rnd hZ1 (l2, (G20 5).s, below, 2) [] (by kernel_rfl) ?_ ?_
            · skip
              refine ⟨?_, ?_, ?_, ?_⟩
              · show 0 ≤ (2 : Int)
                omega
              · show (2 : Int) ≤ 6
                omega
              · show l2 = Dm.abN [d0, d1, d2, d3, d4, d5] (2 : Int).toNat
                rw [hl2, hf3, hcs2]; exact (Dm.abN_pos (D := [d0, d1, d2, d3, d4, d5]) (n := 1) q9).symm
              · show below = Dm.beN [d0, d1, d2, d3, d4, d5] (2 : Int).toNat
                rw [hf4, hcs2]; exact (Dm.beN_no (D := [d0, d1, d2, d3, d4, d5]) (n := 1) (show ¬ d1 < 0 by omega)).symm
            · show (6 - (2 : Int)).toNat < (6 - k0).toNat
              omega
          · skip
            refine V.go [.k (iv d1),
              .k (bv (decide (d1 < 0))),
              .k (bv (decide (d1 < 0)))] (fun _ _ => by kernel_rfl) fun _ _ G22 => ?_
            intro S22 t22
            refine V.cond (b := decide (d1 < 0)) iDT iDF (by kernel_rfl) (fun q11 => ?_) (fun q12 => ?_)
            · skip
              have hz2 : (⟨#[47]⟩ : ByteArray).size = 1 := rfl
              refine nm ((⟨#[47]⟩ : ByteArray) ++ (Dm.item ⟨#[109]⟩ (-d1)) : ByteArray) fun t3 ht3 => ?_
              have ht3n : t3.size = (⟨#[47]⟩ : ByteArray).size + (Dm.item ⟨#[109]⟩ (-d1)).size := by rw [ht3, ByteArray.size_append]
              refine nm (below ++ t3 : ByteArray) fun t4 ht4 => ?_
              have ht4n : t4.size = below.size + t3.size := by rw [ht4, ByteArray.size_append]
              have hit := Dm.item_size (s := ⟨#[109]⟩) (e := -d1)
              have hsy : (⟨#[109]⟩ : ByteArray).size ≤ 4 := by decide
              refine V.go [.k (tv below),
                .k (tv ⟨#[109]⟩),
                .k (iv d1),
                .ng d1 (-d1) rfl (by omega) (by omega),
                .cp g0 4 14 [] (fun _ G => item_ct ⟨#[109]⟩ (-d1) (by decide) (by omega)),
                .sad g0 ⟨#[47]⟩ (Dm.item ⟨#[109]⟩ (-d1)) t3 ht3 (fun _ => by omega),
                .sad g0 below t3 t4 ht4 (fun _ => by omega),
                .k (tv t4)] (fun _ _ => by kernel_rfl) fun _ _ G23 => ?_
              intro S23 t23
              refine V.go [.k (iv 2),
                .k (iv 2)] (fun _ _ => by kernel_rfl) fun _ _ G24 => ?_
              intro S24 t24
              refine V.rnd hZ1 (above, aboves, t4, 2) [] (by kernel_rfl) ?_ ?_
              · skip
                refine ⟨?_, ?_, ?_, ?_⟩
                · show 0 ≤ (2 : Int)
                  omega
                · show (2 : Int) ≤ 6
                  omega
                · show above = Dm.abN [d0, d1, d2, d3, d4, d5] (2 : Int).toNat
                  rw [hf3, hcs2]; exact (Dm.abN_no (D := [d0, d1, d2, d3, d4, d5]) (n := 1) (show ¬ 0 < d1 by omega)).symm
                · show t4 = Dm.beN [d0, d1, d2, d3, d4, d5] (2 : Int).toNat
                  rw [ht4, ht3, hf4, hcs2]; exact (Dm.beN_neg (D := [d0, d1, d2, d3, d4, d5]) (n := 1) q11).symm
              · show (6 - (2 : Int)).toNat < (6 - k0).toNat
                omega
            · skip
              refine V.go [.k (iv 2),
                .k (iv 2)] (fun _ _ => by kernel_rfl) fun _ _ G25 => ?_
              intro S25 t25
              refine V.rnd hZ1 (above, aboves, below, 2) [] (by kernel_rfl) ?_ ?_
              · skip
                refine ⟨?_, ?_, ?_, ?_⟩
                · show 0 ≤ (2 : Int)
                  omega
                · show (2 : Int) ≤ 6
                  omega
                · show above = Dm.abN [d0, d1, d2, d3, d4, d5] (2 : Int).toNat
                  rw [hf3, hcs2]; exact (Dm.abN_no (D := [d0, d1, d2, d3, d4, d5]) (n := 1) (show ¬ 0 < d1 by omega)).symm
                · show below = Dm.beN [d0, d1, d2, d3, d4, d5] (2 : Int).toNat
                  rw [hf4, hcs2]; exact (Dm.beN_no (D := [d0, d1, d2, d3, d4, d5]) (n := 1) (show ¬ d1 < 0 by omega)).symm
              · show (6 - (2 : Int)).toNat < (6 - k0).toNat
                omega
        · skip
          refine V.alt (fun (zz : Int) => (⟨[(1, pp ((G1 0).b) 0), (3, aboves.v), (4, tv below), (11, .agg #[tv ⟨#[103]⟩, tv ⟨#[109]⟩, tv ⟨#[115]⟩, tv ⟨#[74]⟩, tv ⟨#[99, 101, 110, 116]⟩, tv ⟨#[112, 99]⟩]), (12, iv zz), (13, bv (decide (k0 < 6)))], [], [.blk ((G1 0).b) #[iv d0, iv d1, iv d2, iv d3, iv d4, iv d5] 23, os true 9 above aboves]⟩ : St)) hcs3 [] (by kernel_rfl) ?_
          refine V.go [.k (iv 2),
            .k (tv ⟨#[115]⟩),
            .k (iv 2),
            .k (tv ⟨#[115]⟩)] (fun _ _ => by kernel_rfl) fun _ _ G26 => ?_
          intro S26 t26
          refine V.go [.k (iv 2),
            .k (pp ((G1 0).b) 2),
            .ld 0 2 false (fun _ => [iv d2]),
            .k (iv d2)] (fun _ _ => by kernel_rfl) fun _ _ G27 => ?_
          intro S27 t27
          refine V.go [.k (iv d2),
            .k (bv (decide (0 < d2))),
            .k (bv (decide (0 < d2)))] (fun _ _ => by kernel_rfl) fun _ _ G28 => ?_
          intro S28 t28
          refine V.cond (b := decide (0 < d2)) iDT iDF (by kernel_rfl) (fun q13 => ?_) (fun q14 => ?_)
          · skip
            refine nm (above ++ ([Dm.item ⟨#[115]⟩ d2] : List ByteArray) : List ByteArray) fun l3 hl3 => ?_
            have hl3n := congrArg List.length hl3; try simp only [List.length_append, List.length_cons, List.length_nil, List.length_replicate, List.length_set, List.length_take, List.length_drop, List.length_map, List.length_reverse, List.length_range] at hl3n
            refine V.reg [.k (aboves.v),
              .k (tv ⟨#[115]⟩),
              .k (iv d2),
              .cp g0 3 14 [] (fun _ G => item_ct ⟨#[115]⟩ d2 (by decide) (by omega)),
              .nr 4 true 9 ([Dm.item ⟨#[115]⟩ d2] : List ByteArray) [] (fun _ _ _ _ _ => trivial) (fun _ => #[tv (Dm.item ⟨#[115]⟩ d2)]),
              .ap 5 1 9 16 false true above (fun _ => aboves) (kf true (.g 4 0) ([Dm.item ⟨#[115]⟩ d2] : List ByteArray) (fun G => ⟨atB (G 4).b, 1, 1⟩)) true l3 hl3 (by (try simp only [List.length_append, List.length_cons, List.length_nil, List.length_replicate, List.length_set, List.length_take, List.length_drop, List.length_map, List.length_reverse, List.length_range]); omega) (fun h => by cases h) (.inr fun _ _ => trivial),
              .v fun G => ((G 5).s).v] (fun _ _ => by kernel_rfl) fun _ _ G29 kw30 => ?_
            intro S29 t29
            obtain ⟨⟨kl4, -⟩, -⟩ : Lq ([Dm.item ⟨#[115]⟩ d2] : List ByteArray) (SV.v ⟨atB (G29 4).b, 1, 1⟩) ∧ Lq l3 (((G29 5).s).v) ∧ True := kn kw30 (by kernel_rfl)
            clear kw30
            refine V.go [.k (iv 3),
              .k (iv 3)] (fun _ _ => by kernel_rfl) fun _ _ G30 => ?_
            intro S30 t30
            refine V.rnd hZ1 (l3, (G29 5).s, below, 3) [] (by kernel_rfl) ?_ ?_
            · skip
              refine ⟨?_, ?_, ?_, ?_⟩
              · show 0 ≤ (3 : Int)
                omega
              · show (3 : Int) ≤ 6
                omega
              · show l3 = Dm.abN [d0, d1, d2, d3, d4, d5] (3 : Int).toNat
                rw [hl3, hf3, hcs3]; exact (Dm.abN_pos (D := [d0, d1, d2, d3, d4, d5]) (n := 2) q13).symm
              · show below = Dm.beN [d0, d1, d2, d3, d4, d5] (3 : Int).toNat
                rw [hf4, hcs3]; exact (Dm.beN_no (D := [d0, d1, d2, d3, d4, d5]) (n := 2) (show ¬ d2 < 0 by omega)).symm
            · show (6 - (3 : Int)).toNat < (6 - k0).toNat
              omega
          · skip
            refine V.go [.k (iv d2),
              .k (bv (decide (d2 < 0))),
              .k (bv (decide (d2 < 0)))] (fun _ _ => by kernel_rfl) fun _ _ G31 => ?_
            intro S31 t31
            refine V.cond (b := decide (d2 < 0)) iDT iDF (by kernel_rfl) (fun q15 => ?_) (fun q16 => ?_)
            · skip
              have hz3 : (⟨#[47]⟩ : ByteArray).size = 1 := rfl
              refine nm ((⟨#[47]⟩ : ByteArray) ++ (Dm.item ⟨#[115]⟩ (-d2)) : ByteArray) fun t5 ht5 => ?_
              have ht5n : t5.size = (⟨#[47]⟩ : ByteArray).size + (Dm.item ⟨#[115]⟩ (-d2)).size := by rw [ht5, ByteArray.size_append]
              refine nm (below ++ t5 : ByteArray) fun t6 ht6 => ?_
              have ht6n : t6.size = below.size + t5.size := by rw [ht6, ByteArray.size_append]
              have hit := Dm.item_size (s := ⟨#[115]⟩) (e := -d2)
              have hsy : (⟨#[115]⟩ : ByteArray).size ≤ 4 := by decide
              refine V.go [.k (tv below),
                .k (tv ⟨#[115]⟩),
                .k (iv d2),
                .ng d2 (-d2) rfl (by omega) (by omega),
                .cp g0 4 14 [] (fun _ G => item_ct ⟨#[115]⟩ (-d2) (by decide) (by omega)),
                .sad g0 ⟨#[47]⟩ (Dm.item ⟨#[115]⟩ (-d2)) t5 ht5 (fun _ => by omega),
                .sad g0 below t5 t6 ht6 (fun _ => by omega),
                .k (tv t6)] (fun _ _ => by kernel_rfl) fun _ _ G32 => ?_
              intro S32 t32
              refine V.go [.k (iv 3),
                .k (iv 3)] (fun _ _ => by kernel_rfl) fun _ _ G33 => ?_
              intro S33 t33
              refine V.rnd hZ1 (above, aboves, t6, 3) [] (by kernel_rfl) ?_ ?_
              · skip
                refine ⟨?_, ?_, ?_, ?_⟩
                · show 0 ≤ (3 : Int)
                  omega
                · show (3 : Int) ≤ 6
                  omega
                · show above = Dm.abN [d0, d1, d2, d3, d4, d5] (3 : Int).toNat
                  rw [hf3, hcs3]; exact (Dm.abN_no (D := [d0, d1, d2, d3, d4, d5]) (n := 2) (show ¬ 0 < d2 by omega)).symm
                · show t6 = Dm.beN [d0, d1, d2, d3, d4, d5] (3 : Int).toNat
                  rw [ht6, ht5, hf4, hcs3]; exact (Dm.beN_neg (D := [d0, d1, d2, d3, d4, d5]) (n := 2) q15).symm
              · show (6 - (3 : Int)).toNat < (6 - k0).toNat
                omega
            · skip
              refine V.go [.k (iv 3),
                .k (iv 3)] (fun _ _ => by kernel_rfl) fun _ _ G34 => ?_
              intro S34 t34
              refine V.rnd hZ1 (above, aboves, below, 3) [] (by kernel_rfl) ?_ ?_
              · skip
                refine ⟨?_, ?_, ?_, ?_⟩
                · show 0 ≤ (3 : Int)
                  omega
                · show (3 : Int) ≤ 6
                  omega
                · show above = Dm.abN [d0, d1, d2, d3, d4, d5] (3 : Int).toNat
                  rw [hf3, hcs3]; exact (Dm.abN_no (D := [d0, d1, d2, d3, d4, d5]) (n := 2) (show ¬ 0 < d2 by omega)).symm
                · show below = Dm.beN [d0, d1, d2, d3, d4, d5] (3 : Int).toNat
                  rw [hf4, hcs3]; exact (Dm.beN_no (D := [d0, d1, d2, d3, d4, d5]) (n := 2) (show ¬ d2 < 0 by omega)).symm
              · show (6 - (3 : Int)).toNat < (6 - k0).toNat
                omega
        · skip
          refine V.alt (fun (zz : Int) => (⟨[(1, pp ((G1 0).b) 0), (3, aboves.v), (4, tv below), (11, .agg #[tv ⟨#[103]⟩, tv ⟨#[109]⟩, tv ⟨#[115]⟩, tv ⟨#[74]⟩, tv ⟨#[99, 101, 110, 116]⟩, tv ⟨#[112, 99]⟩]), (12, iv zz), (13, bv (decide (k0 < 6)))], [], [.blk ((G1 0).b) #[iv d0, iv d1, iv d2, iv d3, iv d4, iv d5] 23, os true 9 above aboves]⟩ : St)) hcs4 [] (by kernel_rfl) ?_
          refine V.go [.k (iv 3),
            .k (tv ⟨#[74]⟩),
            .k (iv 3),
            .k (tv ⟨#[74]⟩)] (fun _ _ => by kernel_rfl) fun _ _ G35 => ?_
          intro S35 t35
          refine V.go [.k (iv 3),
            .k (pp ((G1 0).b) 3),
            .ld 0 3 false (fun _ => [iv d3]),
            .k (iv d3)] (fun _ _ => by kernel_rfl) fun _ _ G36 => ?_
          intro S36 t36
          refine V.go [.k (iv d3),
            .k (bv (decide (0 < d3))),
            .k (bv (decide (0 < d3)))] (fun _ _ => by kernel_rfl) fun _ _ G37 => ?_
          intro S37 t37
          refine V.cond (b := decide (0 < d3)) iDT iDF (by kernel_rfl) (fun q17 => ?_) (fun q18 => ?_)
          · skip
            refine nm (above ++ ([Dm.item ⟨#[74]⟩ d3] : List ByteArray) : List ByteArray) fun l4 hl4 => ?_
            have hl4n := congrArg List.length hl4; try simp only [List.length_append, List.length_cons, List.length_nil, List.length_replicate, List.length_set, List.length_take, List.length_drop, List.length_map, List.length_reverse, List.length_range] at hl4n
            refine V.reg [.k (aboves.v),
              .k (tv ⟨#[74]⟩),
              .k (iv d3),
              .cp g0 3 14 [] (fun _ G => item_ct ⟨#[74]⟩ d3 (by decide) (by omega)),
              .nr 4 true 9 ([Dm.item ⟨#[74]⟩ d3] : List ByteArray) [] (fun _ _ _ _ _ => trivial) (fun _ => #[tv (Dm.item ⟨#[74]⟩ d3)]),
              .ap 5 1 9 16 false true above (fun _ => aboves) (kf true (.g 4 0) ([Dm.item ⟨#[74]⟩ d3] : List ByteArray) (fun G => ⟨atB (G 4).b, 1, 1⟩)) true l4 hl4 (by (try simp only [List.length_append, List.length_cons, List.length_nil, List.length_replicate, List.length_set, List.length_take, List.length_drop, List.length_map, List.length_reverse, List.length_range]); omega) (fun h => by cases h) (.inr fun _ _ => trivial),
              .v fun G => ((G 5).s).v] (fun _ _ => by kernel_rfl) fun _ _ G38 kw39 => ?_
            intro S38 t38
            obtain ⟨⟨kl5, -⟩, -⟩ : Lq ([Dm.item ⟨#[74]⟩ d3] : List ByteArray) (SV.v ⟨atB (G38 4).b, 1, 1⟩) ∧ Lq l4 (((G38 5).s).v) ∧ True := kn kw39 (by kernel_rfl)
            clear kw39
            refine V.go [.k (iv 4),
              .k (iv 4)] (fun _ _ => by kernel_rfl) fun _ _ G39 => ?_
            intro S39 t39
            refine V.rnd hZ1 (l4, (G38 5).s, below, 4) [] (by kernel_rfl) ?_ ?_
            · skip
              refine ⟨?_, ?_, ?_, ?_⟩
              · show 0 ≤ (4 : Int)
                omega
              · show (4 : Int) ≤ 6
                omega
              · show l4 = Dm.abN [d0, d1, d2, d3, d4, d5] (4 : Int).toNat
                rw [hl4, hf3, hcs4]; exact (Dm.abN_pos (D := [d0, d1, d2, d3, d4, d5]) (n := 3) q17).symm
              · show below = Dm.beN [d0, d1, d2, d3, d4, d5] (4 : Int).toNat
                rw [hf4, hcs4]; exact (Dm.beN_no (D := [d0, d1, d2, d3, d4, d5]) (n := 3) (show ¬ d3 < 0 by omega)).symm
            · show (6 - (4 : Int)).toNat < (6 - k0).toNat
              omega
          · skip
            refine V.go [.k (iv d3),
              .k (bv (decide (d3 < 0))),
              .k (bv (decide (d3 < 0)))] (fun _ _ => by kernel_rfl) fun _ _ G40 => ?_
            intro S40 t40
            refine V.cond (b := decide (d3 < 0)) iDT iDF (by kernel_rfl) (fun q19 => ?_) (fun q20 => ?_)
            · skip
              have hz4 : (⟨#[47]⟩ : ByteArray).size = 1 := rfl
              refine nm ((⟨#[47]⟩ : ByteArray) ++ (Dm.item ⟨#[74]⟩ (-d3)) : ByteArray) fun t7 ht7 => ?_
              have ht7n : t7.size = (⟨#[47]⟩ : ByteArray).size + (Dm.item ⟨#[74]⟩ (-d3)).size := by rw [ht7, ByteArray.size_append]
              refine nm (below ++ t7 : ByteArray) fun t8 ht8 => ?_
              have ht8n : t8.size = below.size + t7.size := by rw [ht8, ByteArray.size_append]
              have hit := Dm.item_size (s := ⟨#[74]⟩) (e := -d3)
              have hsy : (⟨#[74]⟩ : ByteArray).size ≤ 4 := by decide
              refine V.go [.k (tv below),
                .k (tv ⟨#[74]⟩),
                .k (iv d3),
                .ng d3 (-d3) rfl (by omega) (by omega),
                .cp g0 4 14 [] (fun _ G => item_ct ⟨#[74]⟩ (-d3) (by decide) (by omega)),
                .sad g0 ⟨#[47]⟩ (Dm.item ⟨#[74]⟩ (-d3)) t7 ht7 (fun _ => by omega),
                .sad g0 below t7 t8 ht8 (fun _ => by omega),
                .k (tv t8)] (fun _ _ => by kernel_rfl) fun _ _ G41 => ?_
              intro S41 t41
              refine V.go [.k (iv 4),
                .k (iv 4)] (fun _ _ => by kernel_rfl) fun _ _ G42 => ?_
              intro S42 t42
              refine V.rnd hZ1 (above, aboves, t8, 4) [] (by kernel_rfl) ?_ ?_
              · skip
                refine ⟨?_, ?_, ?_, ?_⟩
                · show 0 ≤ (4 : Int)
                  omega
                · show (4 : Int) ≤ 6
                  omega
                · show above = Dm.abN [d0, d1, d2, d3, d4, d5] (4 : Int).toNat
                  rw [hf3, hcs4]; exact (Dm.abN_no (D := [d0, d1, d2, d3, d4, d5]) (n := 3) (show ¬ 0 < d3 by omega)).symm
                · show t8 = Dm.beN [d0, d1, d2, d3, d4, d5] (4 : Int).toNat
                  rw [ht8, ht7, hf4, hcs4]; exact (Dm.beN_neg (D := [d0, d1, d2, d3, d4, d5]) (n := 3) q19).symm
              · show (6 - (4 : Int)).toNat < (6 - k0).toNat
                omega
            · skip
              refine V.go [.k (iv 4),
                .k (iv 4)] (fun _ _ => by kernel_rfl) fun _ _ G43 => ?_
              intro S43 t43
              refine V.rnd hZ1 (above, aboves, below, 4) [] (by kernel_rfl) ?_ ?_
              · skip
                refine ⟨?_, ?_, ?_, ?_⟩
                · show 0 ≤ (4 : Int)
                  omega
                · show (4 : Int) ≤ 6
                  omega
                · show above = Dm.abN [d0, d1, d2, d3, d4, d5] (4 : Int).toNat
                  rw [hf3, hcs4]; exact (Dm.abN_no (D := [d0, d1, d2, d3, d4, d5]) (n := 3) (show ¬ 0 < d3 by omega)).symm
                · show below = Dm.beN [d0, d1, d2, d3, d4, d5] (4 : Int).toNat
                  rw [hf4, hcs4]; exact (Dm.beN_no (D := [d0, d1, d2, d3, d4, d5]) (n := 3) (show ¬ d3 < 0 by omega)).symm
              · show (6 - (4 : Int)).toNat < (6 - k0).toNat
                omega
        · skip
          refine V.alt (fun (zz : Int) => (⟨[(1, pp ((G1 0).b) 0), (3, aboves.v), (4, tv below), (11, .agg #[tv ⟨#[103]⟩, tv ⟨#[109]⟩, tv ⟨#[115]⟩, tv ⟨#[74]⟩, tv ⟨#[99, 101, 110, 116]⟩, tv ⟨#[112, 99]⟩]), (12, iv zz), (13, bv (decide (k0 < 6)))], [], [.blk ((G1 0).b) #[iv d0, iv d1, iv d2, iv d3, iv d4, iv d5] 23, os true 9 above aboves]⟩ : St)) hcs5 [] (by kernel_rfl) ?_
          refine V.go [.k (iv 4),
            .k (tv ⟨#[99, 101, 110, 116]⟩),
            .k (iv 4),
            .k (tv ⟨#[99, 101, 110, 116]⟩)] (fun _ _ => by kernel_rfl) fun _ _ G44 => ?_
          intro S44 t44
          refine V.go [.k (iv 4),
            .k (pp ((G1 0).b) 4),
            .ld 0 4 false (fun _ => [iv d4]),
            .k (iv d4)] (fun _ _ => by kernel_rfl) fun _ _ G45 => ?_
          intro S45 t45
          refine V.go [.k (iv d4),
            .k (bv (decide (0 < d4))),
            .k (bv (decide (0 < d4)))] (fun _ _ => by kernel_rfl) fun _ _ G46 => ?_
          intro S46 t46
          refine V.cond (b := decide (0 < d4)) iDT iDF (by kernel_rfl) (fun q21 => ?_) (fun q22 => ?_)
          · skip
            refine nm (above ++ ([Dm.item ⟨#[99, 101, 110, 116]⟩ d4] : List ByteArray) : List ByteArray) fun l5 hl5 => ?_
            have hl5n := congrArg List.length hl5; try simp only [List.length_append, List.length_cons, List.length_nil, List.length_replicate, List.length_set, List.length_take, List.length_drop, List.length_map, List.length_reverse, List.length_range] at hl5n
            refine V.reg [.k (aboves.v),
              .k (tv ⟨#[99, 101, 110, 116]⟩),
              .k (iv d4),
              .cp g0 3 14 [] (fun _ G => item_ct ⟨#[99, 101, 110, 116]⟩ d4 (by decide) (by omega)),
              .nr 4 true 9 ([Dm.item ⟨#[99, 101, 110, 116]⟩ d4] : List ByteArray) [] (fun _ _ _ _ _ => trivial) (fun _ => #[tv (Dm.item ⟨#[99, 101, 110, 116]⟩ d4)]),
              .ap 5 1 9 16 false true above (fun _ => aboves) (kf true (.g 4 0) ([Dm.item ⟨#[99, 101, 110, 116]⟩ d4] : List ByteArray) (fun G => ⟨atB (G 4).b, 1, 1⟩)) true l5 hl5 (by (try simp only [List.length_append, List.length_cons, List.length_nil, List.length_replicate, List.length_set, List.length_take, List.length_drop, List.length_map, List.length_reverse, List.length_range]); omega) (fun h => by cases h) (.inr fun _ _ => trivial),
              .v fun G => ((G 5).s).v] (fun _ _ => by kernel_rfl) fun _ _ G47 kw48 => ?_
            intro S47 t47
            obtain ⟨⟨kl6, -⟩, -⟩ : Lq ([Dm.item ⟨#[99, 101, 110, 116]⟩ d4] : List ByteArray) (SV.v ⟨atB (G47 4).b, 1, 1⟩) ∧ Lq l5 (((G47 5).s).v) ∧ True := kn kw48 (by kernel_rfl)
            clear kw48
            refine V.go [.k (iv 5),
              .k (iv 5)] (fun _ _ => by kernel_rfl) fun _ _ G48 => ?_
            intro S48 t48
            refine V.rnd hZ1 (l5, (G47 5).s, below, 5) [] (by kernel_rfl) ?_ ?_
            · skip
              refine ⟨?_, ?_, ?_, ?_⟩
              · show 0 ≤ (5 : Int)
                omega
              · show (5 : Int) ≤ 6
                omega
              · show l5 = Dm.abN [d0, d1, d2, d3, d4, d5] (5 : Int).toNat
                rw [hl5, hf3, hcs5]; exact (Dm.abN_pos (D := [d0, d1, d2, d3, d4, d5]) (n := 4) q21).symm
              · show below = Dm.beN [d0, d1, d2, d3, d4, d5] (5 : Int).toNat
                rw [hf4, hcs5]; exact (Dm.beN_no (D := [d0, d1, d2, d3, d4, d5]) (n := 4) (show ¬ d4 < 0 by omega)).symm
            · show (6 - (5 : Int)).toNat < (6 - k0).toNat
              omega
          · skip
            refine V.go [.k (iv d4),
              .k (bv (decide (d4 < 0))),
              .k (bv (decide (d4 < 0)))] (fun _ _ => by kernel_rfl) fun _ _ G49 => ?_
            intro S49 t49
            refine V.cond (b := decide (d4 < 0)) iDT iDF (by kernel_rfl) (fun q23 => ?_) (fun q24 => ?_)
            · skip
              have hz5 : (⟨#[47]⟩ : ByteArray).size = 1 := rfl
              refine nm ((⟨#[47]⟩ : ByteArray) ++ (Dm.item ⟨#[99, 101, 110, 116]⟩ (-d4)) : ByteArray) fun t9 ht9 => ?_
              have ht9n : t9.size = (⟨#[47]⟩ : ByteArray).size + (Dm.item ⟨#[99, 101, 110, 116]⟩ (-d4)).size := by rw [ht9, ByteArray.size_append]
              refine nm (below ++ t9 : ByteArray) fun t10 ht10 => ?_
              have ht10n : t10.size = below.size + t9.size := by rw [ht10, ByteArray.size_append]
              have hit := Dm.item_size (s := ⟨#[99, 101, 110, 116]⟩) (e := -d4)
              have hsy : (⟨#[99, 101, 110, 116]⟩ : ByteArray).size ≤ 4 := by decide
              refine V.go [.k (tv below),
                .k (tv ⟨#[99, 101, 110, 116]⟩),
                .k (iv d4),
                .ng d4 (-d4) rfl (by omega) (by omega),
                .cp g0 4 14 [] (fun _ G => item_ct ⟨#[99, 101, 110, 116]⟩ (-d4) (by decide) (by omega)),
                .sad g0 ⟨#[47]⟩ (Dm.item ⟨#[99, 101, 110, 116]⟩ (-d4)) t9 ht9 (fun _ => by omega),
                .sad g0 below t9 t10 ht10 (fun _ => by omega),
                .k (tv t10)] (fun _ _ => by kernel_rfl) fun _ _ G50 => ?_
              intro S50 t50
              refine V.go [.k (iv 5),
                .k (iv 5)] (fun _ _ => by kernel_rfl) fun _ _ G51 => ?_
              intro S51 t51
              refine V.rnd hZ1 (above, aboves, t10, 5) [] (by kernel_rfl) ?_ ?_
              · skip
                refine ⟨?_, ?_, ?_, ?_⟩
                · show 0 ≤ (5 : Int)
                  omega
                · show (5 : Int) ≤ 6
                  omega
                · show above = Dm.abN [d0, d1, d2, d3, d4, d5] (5 : Int).toNat
                  rw [hf3, hcs5]; exact (Dm.abN_no (D := [d0, d1, d2, d3, d4, d5]) (n := 4) (show ¬ 0 < d4 by omega)).symm
                · show t10 = Dm.beN [d0, d1, d2, d3, d4, d5] (5 : Int).toNat
                  rw [ht10, ht9, hf4, hcs5]; exact (Dm.beN_neg (D := [d0, d1, d2, d3, d4, d5]) (n := 4) q23).symm
              · show (6 - (5 : Int)).toNat < (6 - k0).toNat
                omega
            · skip
              refine V.go [.k (iv 5),
                .k (iv 5)] (fun _ _ => by kernel_rfl) fun _ _ G52 => ?_
              intro S52 t52
              refine V.rnd hZ1 (above, aboves, below, 5) [] (by kernel_rfl) ?_ ?_
              · skip
                refine ⟨?_, ?_, ?_, ?_⟩
                · show 0 ≤ (5 : Int)
                  omega
                · show (5 : Int) ≤ 6
                  omega
                · show above = Dm.abN [d0, d1, d2, d3, d4, d5] (5 : Int).toNat
                  rw [hf3, hcs5]; exact (Dm.abN_no (D := [d0, d1, d2, d3, d4, d5]) (n := 4) (show ¬ 0 < d4 by omega)).symm
                · show below = Dm.beN [d0, d1, d2, d3, d4, d5] (5 : Int).toNat
                  rw [hf4, hcs5]; exact (Dm.beN_no (D := [d0, d1, d2, d3, d4, d5]) (n := 4) (show ¬ d4 < 0 by omega)).symm
              · show (6 - (5 : Int)).toNat < (6 - k0).toNat
                omega
        · skip
          refine V.alt (fun (zz : Int) => (⟨[(1, pp ((G1 0).b) 0), (3, aboves.v), (4, tv below), (11, .agg #[tv ⟨#[103]⟩, tv ⟨#[109]⟩, tv ⟨#[115]⟩, tv ⟨#[74]⟩, tv ⟨#[99, 101, 110, 116]⟩, tv ⟨#[112, 99]⟩]), (12, iv zz), (13, bv (decide (k0 < 6)))], [], [.blk ((G1 0).b) #[iv d0, iv d1, iv d2, iv d3, iv d4, iv d5] 23, os true 9 above aboves]⟩ : St)) hcs6 [] (by kernel_rfl) ?_
          refine V.go [.k (iv 5),
            .k (tv ⟨#[112, 99]⟩),
            .k (iv 5),
            .k (tv ⟨#[112, 99]⟩)] (fun _ _ => by kernel_rfl) fun _ _ G53 => ?_
          intro S53 t53
          refine V.go [.k (iv 5),
            .k (pp ((G1 0).b) 5),
            .ld 0 5 false (fun _ => [iv d5]),
            .k (iv d5)] (fun _ _ => by kernel_rfl) fun _ _ G54 => ?_
          intro S54 t54
          refine V.go [.k (iv d5),
            .k (bv (decide (0 < d5))),
            .k (bv (decide (0 < d5)))] (fun _ _ => by kernel_rfl) fun _ _ G55 => ?_
          intro S55 t55
          refine V.cond (b := decide (0 < d5)) iDT iDF (by kernel_rfl) (fun q25 => ?_) (fun q26 => ?_)
          · skip
            refine nm (above ++ ([Dm.item ⟨#[112, 99]⟩ d5] : List ByteArray) : List ByteArray) fun l6 hl6 => ?_
            have hl6n := congrArg List.length hl6; try simp only [List.length_append, List.length_cons, List.length_nil, List.length_replicate, List.length_set, List.length_take, List.length_drop, List.length_map, List.length_reverse, List.length_range] at hl6n
            refine V.reg [.k (aboves.v),
              .k (tv ⟨#[112, 99]⟩),
              .k (iv d5),
              .cp g0 3 14 [] (fun _ G => item_ct ⟨#[112, 99]⟩ d5 (by decide) (by omega)),
              .nr 4 true 9 ([Dm.item ⟨#[112, 99]⟩ d5] : List ByteArray) [] (fun _ _ _ _ _ => trivial) (fun _ => #[tv (Dm.item ⟨#[112, 99]⟩ d5)]),
              .ap 5 1 9 16 false true above (fun _ => aboves) (kf true (.g 4 0) ([Dm.item ⟨#[112, 99]⟩ d5] : List ByteArray) (fun G => ⟨atB (G 4).b, 1, 1⟩)) true l6 hl6 (by (try simp only [List.length_append, List.length_cons, List.length_nil, List.length_replicate, List.length_set, List.length_take, List.length_drop, List.length_map, List.length_reverse, List.length_range]); omega) (fun h => by cases h) (.inr fun _ _ => trivial),
              .v fun G => ((G 5).s).v] (fun _ _ => by kernel_rfl) fun _ _ G56 kw57 => ?_
            intro S56 t56
            obtain ⟨⟨kl7, -⟩, -⟩ : Lq ([Dm.item ⟨#[112, 99]⟩ d5] : List ByteArray) (SV.v ⟨atB (G56 4).b, 1, 1⟩) ∧ Lq l6 (((G56 5).s).v) ∧ True := kn kw57 (by kernel_rfl)
            clear kw57
            refine V.go [.k (iv 6),
              .k (iv 6)] (fun _ _ => by kernel_rfl) fun _ _ G57 => ?_
            intro S57 t57
            refine V.rnd hZ1 (l6, (G56 5).s, below, 6) [] (by kernel_rfl) ?_ ?_
            · skip
              refine ⟨?_, ?_, ?_, ?_⟩
              · show 0 ≤ (6 : Int)
                omega
              · show (6 : Int) ≤ 6
                omega
              · show l6 = Dm.abN [d0, d1, d2, d3, d4, d5] (6 : Int).toNat
                rw [hl6, hf3, hcs6]; exact (Dm.abN_pos (D := [d0, d1, d2, d3, d4, d5]) (n := 5) q25).symm
              · show below = Dm.beN [d0, d1, d2, d3, d4, d5] (6 : Int).toNat
                rw [hf4, hcs6]; exact (Dm.beN_no (D := [d0, d1, d2, d3, d4, d5]) (n := 5) (show ¬ d5 < 0 by omega)).symm
            · show (6 - (6 : Int)).toNat < (6 - k0).toNat
              omega
          · skip
            refine V.go [.k (iv d5),
              .k (bv (decide (d5 < 0))),
              .k (bv (decide (d5 < 0)))] (fun _ _ => by kernel_rfl) fun _ _ G58 => ?_
            intro S58 t58
            refine V.cond (b := decide (d5 < 0)) iDT iDF (by kernel_rfl) (fun q27 => ?_) (fun q28 => ?_)
            · skip
              have hz6 : (⟨#[47]⟩ : ByteArray).size = 1 := rfl
              refine nm ((⟨#[47]⟩ : ByteArray) ++ (Dm.item ⟨#[112, 99]⟩ (-d5)) : ByteArray) fun t11 ht11 => ?_
              have ht11n : t11.size = (⟨#[47]⟩ : ByteArray).size + (Dm.item ⟨#[112, 99]⟩ (-d5)).size := by rw [ht11, ByteArray.size_append]
              refine nm (below ++ t11 : ByteArray) fun t12 ht12 => ?_
              have ht12n : t12.size = below.size + t11.size := by rw [ht12, ByteArray.size_append]
              have hit := Dm.item_size (s := ⟨#[112, 99]⟩) (e := -d5)
              have hsy : (⟨#[112, 99]⟩ : ByteArray).size ≤ 4 := by decide
              refine V.go [.k (tv below),
                .k (tv ⟨#[112, 99]⟩),
                .k (iv d5),
                .ng d5 (-d5) rfl (by omega) (by omega),
                .cp g0 4 14 [] (fun _ G => item_ct ⟨#[112, 99]⟩ (-d5) (by decide) (by omega)),
                .sad g0 ⟨#[47]⟩ (Dm.item ⟨#[112, 99]⟩ (-d5)) t11 ht11 (fun _ => by omega),
                .sad g0 below t11 t12 ht12 (fun _ => by omega),
                .k (tv t12)] (fun _ _ => by kernel_rfl) fun _ _ G59 => ?_
              intro S59 t59
              refine V.go [.k (iv 6),
                .k (iv 6)] (fun _ _ => by kernel_rfl) fun _ _ G60 => ?_
              intro S60 t60
              refine V.rnd hZ1 (above, aboves, t12, 6) [] (by kernel_rfl) ?_ ?_
              · skip
                refine ⟨?_, ?_, ?_, ?_⟩
                · show 0 ≤ (6 : Int)
                  omega
                · show (6 : Int) ≤ 6
                  omega
                · show above = Dm.abN [d0, d1, d2, d3, d4, d5] (6 : Int).toNat
                  rw [hf3, hcs6]; exact (Dm.abN_no (D := [d0, d1, d2, d3, d4, d5]) (n := 5) (show ¬ 0 < d5 by omega)).symm
                · show t12 = Dm.beN [d0, d1, d2, d3, d4, d5] (6 : Int).toNat
                  rw [ht12, ht11, hf4, hcs6]; exact (Dm.beN_neg (D := [d0, d1, d2, d3, d4, d5]) (n := 5) q27).symm
              · show (6 - (6 : Int)).toNat < (6 - k0).toNat
                omega
            · skip
              refine V.go [.k (iv 6),
                .k (iv 6)] (fun _ _ => by kernel_rfl) fun _ _ G61 => ?_
              intro S61 t61
              refine V.rnd hZ1 (above, aboves, below, 6) [] (by kernel_rfl) ?_ ?_
              · skip
                refine ⟨?_, ?_, ?_, ?_⟩
                · show 0 ≤ (6 : Int)
                  omega
                · show (6 : Int) ≤ 6
                  omega
                · show above = Dm.abN [d0, d1, d2, d3, d4, d5] (6 : Int).toNat
                  rw [hf3, hcs6]; exact (Dm.abN_no (D := [d0, d1, d2, d3, d4, d5]) (n := 5) (show ¬ 0 < d5 by omega)).symm
                · show below = Dm.beN [d0, d1, d2, d3, d4, d5] (6 : Int).toNat
                  rw [hf4, hcs6]; exact (Dm.beN_no (D := [d0, d1, d2, d3, d4, d5]) (n := 5) (show ¬ d5 < 0 by omega)).symm
              · show (6 - (6 : Int)).toNat < (6 - k0).toNat
                omega
      · skip
        refine V.go [.k (aboves.v),
          .ln (ko true 9 1 above (fun _ => aboves)),
          .k (bv (decide ((above.length : Int) = 0)))] (fun _ _ => by kernel_rfl) fun _ _ G62 => ?_
        intro S62 t62
        refine V.cond (b := decide ((above.length : Int) = 0)) iDT iDF (by kernel_rfl) (fun q29 => ?_) (fun q30 => ?_)
        · skip
          refine V.go [.nl 0 1 true 9 ([⟨#[49]⟩] : List ByteArray) [] (fun _ _ _ _ _ => trivial) (fun _ => #[tv ⟨#[49]⟩]),
            .v fun G => SV.v ⟨atB (G 0).b, 1, 1⟩] (fun _ _ => by kernel_rfl) fun _ _ G63 => ?_
          intro S63 t63
          refine nm ((Dm.jn ([⟨#[49]⟩] : List ByteArray) ⟨#[42]⟩) ++ below : ByteArray) fun t13 ht13 => ?_
          have ht13n : t13.size = (Dm.jn ([⟨#[49]⟩] : List ByteArray) ⟨#[42]⟩).size + below.size := by rw [ht13, ByteArray.size_append]
          have hab : ([⟨#[49]⟩] : List ByteArray) = Dm.ab [d0, d1, d2, d3, d4, d5] := by
            unfold Dm.ab; rw [if_pos (by rw [show (6 : Nat) = k0.toNat by omega, ← hf3]; omega)]
          have hj := Dm.jn_size (Dm.ab_ok [d0, d1, d2, d3, d4, d5]).1 (Dm.ab_ok [d0, d1, d2, d3, d4, d5]).2
          have hj3 := (Dm.ab_ok [d0, d1, d2, d3, d4, d5]).2
          rw [← hab] at hj hj3
          refine V.go [.k (SV.v ⟨atB (G63 0).b, 1, 1⟩),
            .cp g0 1 15 [(ko true 9 1 ([⟨#[49]⟩] : List ByteArray) (fun _ => ⟨atB (G63 0).b, 1, 1⟩)).a] (fun _ G => join_ct ([⟨#[49]⟩] : List ByteArray) ⟨atB (G63 0).b, 1, 1⟩ ⟨#[42]⟩ (by omega) (by omega)),
            .k (tv below),
            .sad g0 (Dm.jn ([⟨#[49]⟩] : List ByteArray) ⟨#[42]⟩) below t13 ht13 (fun _ => by omega),
            .k (tv t13)] (fun _ _ => by kernel_rfl) fun _ _ G64 => ?_
          intro S64 t64
          have e0 : t13 = Dm.text [d0, d1, d2, d3, d4, d5] := by
            rw [ht13, hab, hf4]; unfold Dm.text; rw [if_pos hR, show k0.toNat = 6 by omega]
          exact V.ret [0] [] [] [] [] [] (tv t13) (fun _ _ => by kernel_rfl) (fun _ _ => (Eq.trans (by kernel_rfl) (cong1 (fun (x0 : ByteArray) => (tv x0 : Value)) e0)).trans (by kernel_rfl)) (fun _ _ => trivial)
        · skip
          refine nm ((Dm.jn above ⟨#[42]⟩) ++ below : ByteArray) fun t14 ht14 => ?_
          have ht14n : t14.size = (Dm.jn above ⟨#[42]⟩).size + below.size := by rw [ht14, ByteArray.size_append]
          have hab : above = Dm.ab [d0, d1, d2, d3, d4, d5] := by
            unfold Dm.ab; rw [if_neg (by rw [show (6 : Nat) = k0.toNat by omega, ← hf3]; omega), show (6 : Nat) = k0.toNat by omega]; exact hf3
          have hj := Dm.jn_size (Dm.ab_ok [d0, d1, d2, d3, d4, d5]).1 (Dm.ab_ok [d0, d1, d2, d3, d4, d5]).2
          have hj3 := (Dm.ab_ok [d0, d1, d2, d3, d4, d5]).2
          rw [← hab] at hj hj3
          refine V.go [.k (aboves.v),
            .cp g0 1 15 [(ko true 9 1 above (fun _ => aboves)).a] (fun _ G => join_ct above aboves ⟨#[42]⟩ (by omega) (by omega)),
            .k (tv below),
            .sad g0 (Dm.jn above ⟨#[42]⟩) below t14 ht14 (fun _ => by omega),
            .k (tv t14)] (fun _ _ => by kernel_rfl) fun _ _ G65 => ?_
          intro S65 t65
          have e0 : t14 = Dm.text [d0, d1, d2, d3, d4, d5] := by
            rw [ht14, hab, hf4]; unfold Dm.text; rw [if_pos hR, show k0.toNat = 6 by omega]
          exact V.ret [0] [] [] [] [] [] (tv t14) (fun _ _ => by kernel_rfl) (fun _ _ => (Eq.trans (by kernel_rfl) (cong1 (fun (x0 : ByteArray) => (tv x0 : Value)) e0)).trans (by kernel_rfl)) (fun _ _ => trivial)

end Kb
