/- The contracts of dimensions: reading. -/
import Derived.Test.YtmoekalfmahljaaVc
set_option linter.unusedVariables false
set_option linter.unusedSectionVars false
set_option linter.unusedSimpArgs false
namespace Kb
open Go Go.Proofs
set_option maxRecDepth 10000 in
set_option maxHeartbeats 4000000 in
theorem read_ct (s : ByteArray) (hs : s.size ≤ 1000000) :
    Cp Try.prog 8 #[tv s] [] (.tuple #[.agg #[iv (Dm.rdV s 0), iv (Dm.rdV s 1), iv (Dm.rdV s 2), iv (Dm.rdV s 3), iv (Dm.rdV s 4), iv (Dm.rdV s 5)], bv (Dm.rdB s)]) := by
  refine V.fn mo Try.func8 54 2 (by kernel_rfl) fun w H ε k0 => ?_
  clear k0
  refine V.go [.nb 0 0 (fun b => pp b 0) 23 (fun _ => #[iv 0, iv 0, iv 0, iv 0, iv 0, iv 0]),
    .k (bv false)] (fun _ _ => by kernel_rfl) fun _ _ G1 => ?_
  intro S1 t1
  refine V.go [.nb 0 1 (fun b => pp b 0) 23 (fun _ => #[iv 0, iv 0, iv 0, iv 0, iv 0, iv 0])] (fun _ _ => by kernel_rfl) fun _ _ G2 => ?_
  intro S2 t2
  have hz1 : (⟨#[42]⟩ : ByteArray).size = 1 := rfl
  refine nm ((⟨#[42]⟩ : ByteArray) ++ s : ByteArray) fun t1 ht1 => ?_
  have ht1n : t1.size = (⟨#[42]⟩ : ByteArray).size + s.size := by rw [ht1, ByteArray.size_append]
  refine V.go [.k (tv s),
    .sad g0 ⟨#[42]⟩ s t1 ht1 (fun _ => by omega),
    .k (tv t1)] (fun _ _ => by kernel_rfl) fun _ _ G3 => ?_
  intro S3 t3
  refine V.go [.k (tv s),
    .cp g0 1 16 [] (fun _ G => cutp_ct s ⟨#[49]⟩),
    .k (.tuple #[tv (Dm.cpR s ⟨#[49]⟩), bv (decide (Dm.cpB s ⟨#[49]⟩))]),
    .k (tv (Dm.cpR s ⟨#[49]⟩)),
    .k (bv (decide (Dm.cpB s ⟨#[49]⟩))),
    .k (tv (Dm.cpR s ⟨#[49]⟩)),
    .k (bv (decide (Dm.cpB s ⟨#[49]⟩)))] (fun _ _ => by kernel_rfl) fun _ _ G4 => ?_
  intro S4 t4
  refine V.go [.k (bv (decide (Dm.cpB s ⟨#[49]⟩)))] (fun _ _ => by kernel_rfl) fun _ _ G5 => ?_
  intro S5 t5
  refine V.cond (b := decide (Dm.cpB s ⟨#[49]⟩)) iDT iDF (by kernel_rfl) (fun q1 => ?_) (fun q2 => ?_)
  · skip
    refine V.go [.k (tv (Dm.cpR s ⟨#[49]⟩)),
      .k (tv (Dm.cpR s ⟨#[49]⟩))] (fun _ _ => by kernel_rfl) fun _ _ G6 => ?_
    intro S6 t6
    refine V.loop (γ := ByteArray × Int × Int × Int × Int × Int × Int) (fun ⟨rest, d_0, d_1, d_2, d_3, d_4, d_5⟩ => ⟨[(0, tv s), (2, pp ((G1 0).b) 0), (4, pp ((G2 0).b) 0), (5, tv rest)], [], [.blk ((G1 0).b) #[iv 0, iv 0, iv 0, iv 0, iv 0, iv 0] 23, .blk ((G2 0).b) #[iv d_0, iv d_1, iv d_2, iv d_3, iv d_4, iv d_5] 23]⟩) (fun ⟨rest, d_0, d_1, d_2, d_3, d_4, d_5⟩ => (Dm.parse rest [d_0, d_1, d_2, d_3, d_4, d_5] = Dm.parse (Dm.start s) [0, 0, 0, 0, 0, 0])) (fun ⟨rest, d_0, d_1, d_2, d_3, d_4, d_5⟩ => rest.size) (Dm.cpR s ⟨#[49]⟩, 0, 0, 0, 0, 0, 0) (by kernel_rfl) [] (by kernel_rfl) ?_ ?_
    · skip
      · show Dm.parse (Dm.cpR s ⟨#[49]⟩) [(0 : Int), (0 : Int), (0 : Int), (0 : Int), (0 : Int), (0 : Int)] = Dm.parse (Dm.start s) [0, 0, 0, 0, 0, 0]
        unfold Dm.start; rw [if_pos q1]
    · rintro ⟨rest, d_0, d_1, d_2, d_3, d_4, d_5⟩ hF1 kw7 Z1 hZ1
      have hf1 : Dm.parse rest [d_0, d_1, d_2, d_3, d_4, d_5] = Dm.parse (Dm.start s) [0, 0, 0, 0, 0, 0] := hF1
      clear kw7
      refine V.go [.k (tv rest),
        .sne rest ByteArray.empty] (fun _ _ => by kernel_rfl) fun _ _ G7 => ?_
      intro S7 t7
      refine V.cond (b := !(decide (rest = ByteArray.empty))) (iNT iDF) (iNF iDT) (by kernel_rfl) (fun q3 => ?_) (fun q4 => ?_)
      · skip
        have hrn := q3
        have hrz := Dm.size_ne hrn
        refine V.go [.k (iv 1)] (fun _ _ => by kernel_rfl) fun _ _ G8 => ?_
        intro S8 t8
        refine nm ((bl rest).getD (0 : Int).toNat default : UInt8) fun c1 hc1 => ?_
        refine V.go [.k (tv rest),
          .sid g0 rest (0 : Int) c1 hc1 (fun _ => ⟨by omega, by omega⟩)] (fun _ _ => by kernel_rfl) fun _ _ G9 => ?_
        intro S9 t9
        refine V.go [.k (bv (decide ((c1.toNat : Int) = 42))),
          .k (bv (decide ((c1.toNat : Int) = 42)))] (fun _ _ => by kernel_rfl) fun _ _ G10 => ?_
        intro S10 t10
        refine V.cond (b := decide ((c1.toNat : Int) = 42)) iDT iDF (by kernel_rfl) (fun q5 => ?_) (fun q6 => ?_)
        · skip
          refine nm (rest.extract (1 : Int).toNat (rest.size : Int).toNat : ByteArray) fun t2 ht2 => ?_
          have ht2n : t2.size = min (rest.size : Int).toNat rest.size - (1 : Int).toNat := by rw [ht2, ByteArray.size_extract]
          refine V.go [.k (tv rest),
            .ssl g0 rest (some (1 : Int)) none 1 (rest.size : Int) rfl rfl t2 ht2 (fun _ => ⟨by omega, by omega, by omega⟩),
            .cp g0 2 17 [] (fun _ G => cut_ct t2),
            .k (.tuple #[iv (Dm.cuB t2), iv (Dm.cuE t2), tv (Dm.cuR t2), bv ((Dm.cut t2).isSome)]),
            .k (iv (Dm.cuB t2)),
            .k (iv (Dm.cuE t2)),
            .k (tv (Dm.cuR t2)),
            .k (bv ((Dm.cut t2).isSome)),
            .k (iv (Dm.cuB t2)),
            .k (iv (Dm.cuE t2)),
            .k (tv (Dm.cuR t2)),
            .k (bv ((Dm.cut t2).isSome))] (fun _ _ => by kernel_rfl) fun _ _ G11 => ?_
          intro S11 t11
          refine V.go [.k (bv ((Dm.cut t2).isSome)),
            .k (bv (!((Dm.cut t2).isSome)))] (fun _ _ => by kernel_rfl) fun _ _ G12 => ?_
          intro S12 t12
          refine V.cond (b := !((Dm.cut t2).isSome)) (iNT Iff.rfl) (iNF Iff.rfl) (by kernel_rfl) (fun q7 => ?_) (fun q8 => ?_)
          · skip
            refine V.go [.k (.agg #[iv 0, iv 0, iv 0, iv 0, iv 0, iv 0]),
              .st 0 (fun _ => .blk ((G1 0).b) #[iv 0, iv 0, iv 0, iv 0, iv 0, iv 0] 23),
              .k (bv false)] (fun _ _ => by kernel_rfl) fun _ _ G13 => ?_
            intro S13 t13
            have e0 : (0 : Int) = Dm.rdV s 0 := by
              have hrd := Dm.read_bad (by rw [← hf1]; exact Dm.parse_none hrn ht2 (by first | exact q7 | (have h := q7; simpa using h)))
              unfold Dm.rdV; rw [hrd]; rfl
            have e1 : (0 : Int) = Dm.rdV s 1 := by
              have hrd := Dm.read_bad (by rw [← hf1]; exact Dm.parse_none hrn ht2 (by first | exact q7 | (have h := q7; simpa using h)))
              unfold Dm.rdV; rw [hrd]; rfl
            have e2 : (0 : Int) = Dm.rdV s 2 := by
              have hrd := Dm.read_bad (by rw [← hf1]; exact Dm.parse_none hrn ht2 (by first | exact q7 | (have h := q7; simpa using h)))
              unfold Dm.rdV; rw [hrd]; rfl
            have e3 : (0 : Int) = Dm.rdV s 3 := by
              have hrd := Dm.read_bad (by rw [← hf1]; exact Dm.parse_none hrn ht2 (by first | exact q7 | (have h := q7; simpa using h)))
              unfold Dm.rdV; rw [hrd]; rfl
            have e4 : (0 : Int) = Dm.rdV s 4 := by
              have hrd := Dm.read_bad (by rw [← hf1]; exact Dm.parse_none hrn ht2 (by first | exact q7 | (have h := q7; simpa using h)))
              unfold Dm.rdV; rw [hrd]; rfl
            have e5 : (0 : Int) = Dm.rdV s 5 := by
              have hrd := Dm.read_bad (by rw [← hf1]; exact Dm.parse_none hrn ht2 (by first | exact q7 | (have h := q7; simpa using h)))
              unfold Dm.rdV; rw [hrd]; rfl
            have e6 : false = Dm.rdB s := by
              have hrd := Dm.read_bad (by rw [← hf1]; exact Dm.parse_none hrn ht2 (by first | exact q7 | (have h := q7; simpa using h)))
              unfold Dm.rdB; rw [hrd]; rfl
            exact V.ret [0, 0] [] [] [] [] [] (.tuple #[.agg #[iv 0, iv 0, iv 0, iv 0, iv 0, iv 0], bv false]) (fun _ _ => by kernel_rfl) (fun _ _ => (Eq.trans (by kernel_rfl) (cong7 (fun (x0 : Int) (x1 : Int) (x2 : Int) (x3 : Int) (x4 : Int) (x5 : Int) (x6 : Bool) => (.tuple #[.agg #[iv x0, iv x1, iv x2, iv x3, iv x4, iv x5], bv x6] : Value)) e0 e1 e2 e3 e4 e5 e6)).trans (by kernel_rfl)) (fun _ _ => trivial)
          · skip
            have hok : (Dm.cut t2).isSome = true := by first | exact q8 | (have h := q8; simpa using h)
            have hcs6 := Dm.cut_ok hok
            rcases (by omega : (Dm.cuB t2) = 0 ∨ (Dm.cuB t2) = 1 ∨ (Dm.cuB t2) = 2 ∨ (Dm.cuB t2) = 3 ∨ (Dm.cuB t2) = 4 ∨ (Dm.cuB t2) = 5) with hcs1 | hcs2 | hcs3 | hcs4 | hcs5 | hcs6
            · skip
              refine V.alt (fun (zz : Int) => (⟨[(0, tv s), (2, pp ((G1 0).b) 0), (4, pp ((G2 0).b) 0), (8, iv 1), (9, iv zz), (10, iv (Dm.cuE t2)), (11, tv (Dm.cuR t2)), (40, bv (!((Dm.cut t2).isSome)))], [], [.blk ((G1 0).b) #[iv 0, iv 0, iv 0, iv 0, iv 0, iv 0] 23, .blk ((G2 0).b) #[iv d_0, iv d_1, iv d_2, iv d_3, iv d_4, iv d_5] 23]⟩ : St)) hcs1 [] (by kernel_rfl) ?_
              refine nm (1 * (Dm.cuE t2) : Int) fun n1 hn1 => ?_
              refine V.go [.k (iv 0),
                .k (iv 1),
                .k (iv (Dm.cuE t2)),
                .ar (1 * (Dm.cuE t2)) n1 hn1 (by omega) (by omega),
                .k (tv (Dm.cuR t2)),
                .k (pp ((G2 0).b) 0),
                .st 1 (fun _ => .blk ((G2 0).b) #[iv n1, iv d_1, iv d_2, iv d_3, iv d_4, iv d_5] 23),
                .k (tv (Dm.cuR t2))] (fun _ _ => by kernel_rfl) fun _ _ G14 => ?_
              intro S14 t14
              refine V.rnd hZ1 (Dm.cuR t2, n1, d_1, d_2, d_3, d_4, d_5) [] (by kernel_rfl) ?_ ?_
              · skip
                · show Dm.parse (Dm.cuR t2) [n1, d_1, d_2, d_3, d_4, d_5] = Dm.parse (Dm.start s) [0, 0, 0, 0, 0, 0]
                  have hp := Dm.parse_step (d := [d_0, d_1, d_2, d_3, d_4, d_5]) hrn hc1 ht2 hok (.inl ⟨q5, rfl⟩)
                  rw [hcs1, ← hn1] at hp
                  rw [← hf1, hp]; rfl
              · show (Dm.cuR t2).size < rest.size
                have := (Dm.cut_ok hok).2.2
                omega
            · skip
              refine V.alt (fun (zz : Int) => (⟨[(0, tv s), (2, pp ((G1 0).b) 0), (4, pp ((G2 0).b) 0), (8, iv 1), (9, iv zz), (10, iv (Dm.cuE t2)), (11, tv (Dm.cuR t2)), (40, bv (!((Dm.cut t2).isSome)))], [], [.blk ((G1 0).b) #[iv 0, iv 0, iv 0, iv 0, iv 0, iv 0] 23, .blk ((G2 0).b) #[iv d_0, iv d_1, iv d_2, iv d_3, iv d_4, iv d_5] 23]⟩ : St)) hcs2 [] (by kernel_rfl) ?_
              refine nm (1 * (Dm.cuE t2) : Int) fun n2 hn2 => ?_
              refine V.go [.k (iv 1),
                .k (iv 1),
                .k (iv (Dm.cuE t2)),
                .ar (1 * (Dm.cuE t2)) n2 hn2 (by omega) (by omega),
                .k (tv (Dm.cuR t2)),
                .k (pp ((G2 0).b) 1),
                .st 1 (fun _ => .blk ((G2 0).b) #[iv d_0, iv n2, iv d_2, iv d_3, iv d_4, iv d_5] 23),
                .k (tv (Dm.cuR t2))] (fun _ _ => by kernel_rfl) fun _ _ G15 => ?_
              intro S15 t15
              refine V.rnd hZ1 (Dm.cuR t2, d_0, n2, d_2, d_3, d_4, d_5) [] (by kernel_rfl) ?_ ?_
              · skip
                · show Dm.parse (Dm.cuR t2) [d_0, n2, d_2, d_3, d_4, d_5] = Dm.parse (Dm.start s) [0, 0, 0, 0, 0, 0]
                  have hp := Dm.parse_step (d := [d_0, d_1, d_2, d_3, d_4, d_5]) hrn hc1 ht2 hok (.inl ⟨q5, rfl⟩)
                  rw [hcs2, ← hn2] at hp
                  rw [← hf1, hp]; rfl
              · show (Dm.cuR t2).size < rest.size
                have := (Dm.cut_ok hok).2.2
                omega
            · skip
              refine V.alt (fun (zz : Int) => (⟨[(0, tv s), (2, pp ((G1 0).b) 0), (4, pp ((G2 0).b) 0), (8, iv 1), (9, iv zz), (10, iv (Dm.cuE t2)), (11, tv (Dm.cuR t2)), (40, bv (!((Dm.cut t2).isSome)))], [], [.blk ((G1 0).b) #[iv 0, iv 0, iv 0, iv 0, iv 0, iv 0] 23, .blk ((G2 0).b) #[iv d_0, iv d_1, iv d_2, iv d_3, iv d_4, iv d_5] 23]⟩ : St)) hcs3 [] (by kernel_rfl) ?_
              refine nm (1 * (Dm.cuE t2) : Int) fun n3 hn3 => ?_
              refine V.go [.k (iv 2),
                .k (iv 1),
                .k (iv (Dm.cuE t2)),
                .ar (1 * (Dm.cuE t2)) n3 hn3 (by omega) (by omega),
                .k (tv (Dm.cuR t2)),
                .k (pp ((G2 0).b) 2),
                .st 1 (fun _ => .blk ((G2 0).b) #[iv d_0, iv d_1, iv n3, iv d_3, iv d_4, iv d_5] 23),
                .k (tv (Dm.cuR t2))] (fun _ _ => by kernel_rfl) fun _ _ G16 => ?_
              intro S16 t16
              refine V.rnd hZ1 (Dm.cuR t2, d_0, d_1, n3, d_3, d_4, d_5) [] (by kernel_rfl) ?_ ?_
              · skip
                · show Dm.parse (Dm.cuR t2) [d_0, d_1, n3, d_3, d_4, d_5] = Dm.parse (Dm.start s) [0, 0, 0, 0, 0, 0]
                  have hp := Dm.parse_step (d := [d_0, d_1, d_2, d_3, d_4, d_5]) hrn hc1 ht2 hok (.inl ⟨q5, rfl⟩)
                  rw [hcs3, ← hn3] at hp
                  rw [← hf1, hp]; rfl
              · show (Dm.cuR t2).size < rest.size
                have := (Dm.cut_ok hok).2.2
                omega
            · skip
              refine V.alt (fun (zz : Int) => (⟨[(0, tv s), (2, pp ((G1 0).b) 0), (4, pp ((G2 0).b) 0), (8, iv 1), (9, iv zz), (10, iv (Dm.cuE t2)), (11, tv (Dm.cuR t2)), (40, bv (!((Dm.cut t2).isSome)))], [], [.blk ((G1 0).b) #[iv 0, iv 0, iv 0, iv 0, iv 0, iv 0] 23, .blk ((G2 0).b) #[iv d_0, iv d_1, iv d_2, iv d_3, iv d_4, iv d_5] 23]⟩ : St)) hcs4 [] (by kernel_rfl) ?_
              refine nm (1 * (Dm.cuE t2) : Int) fun n4 hn4 => ?_
              refine V.go [.k (iv 3),
                .k (iv 1),
                .k (iv (Dm.cuE t2)),
                .ar (1 * (Dm.cuE t2)) n4 hn4 (by omega) (by omega),
                .k (tv (Dm.cuR t2)),
                .k (pp ((G2 0).b) 3),
                .st 1 (fun _ => .blk ((G2 0).b) #[iv d_0, iv d_1, iv d_2, iv n4, iv d_4, iv d_5] 23),
                .k (tv (Dm.cuR t2))] (fun _ _ => by kernel_rfl) fun _ _ G17 => ?_
              intro S17 t17
              refine V.rnd hZ1 (Dm.cuR t2, d_0, d_1, d_2, n4, d_4, d_5) [] (by kernel_rfl) ?_ ?_
              · skip
                · show Dm.parse (Dm.cuR t2) [d_0, d_1, d_2, n4, d_4, d_5] = Dm.parse (Dm.start s) [0, 0, 0, 0, 0, 0]
                  have hp := Dm.parse_step (d := [d_0, d_1, d_2, d_3, d_4, d_5]) hrn hc1 ht2 hok (.inl ⟨q5, rfl⟩)
                  rw [hcs4, ← hn4] at hp
                  rw [← hf1, hp]; rfl
              · show (Dm.cuR t2).size < rest.size
                have := (Dm.cut_ok hok).2.2
                omega
            · skip
              refine V.alt (fun (zz : Int) => (⟨[(0, tv s), (2, pp ((G1 0).b) 0), (4, pp ((G2 0).b) 0), (8, iv 1), (9, iv zz), (10, iv (Dm.cuE t2)), (11, tv (Dm.cuR t2)), (40, bv (!((Dm.cut t2).isSome)))], [], [.blk ((G1 0).b) #[iv 0, iv 0, iv 0, iv 0, iv 0, iv 0] 23, .blk ((G2 0).b) #[iv d_0, iv d_1, iv d_2, iv d_3, iv d_4, iv d_5] 23]⟩ : St)) hcs5 [] (by kernel_rfl) ?_
              refine nm (1 * (Dm.cuE t2) : Int) fun n5 hn5 => ?_
              refine V.go [.k (iv 4),
                .k (iv 1),
                .k (iv (Dm.cuE t2)),
                .ar (1 * (Dm.cuE t2)) n5 hn5 (by omega) (by omega),
                .k (tv (Dm.cuR t2)),
                .k (pp ((G2 0).b) 4),
                .st 1 (fun _ => .blk ((G2 0).b) #[iv d_0, iv d_1, iv d_2, iv d_3, iv n5, iv d_5] 23),
                .k (tv (Dm.cuR t2))] (fun _ _ => by kernel_rfl) fun _ _ G18 => ?_
              intro S18 t18
              refine V.rnd hZ1 (Dm.cuR t2, d_0, d_1, d_2, d_3, n5, d_5) [] (by kernel_rfl) ?_ ?_
              · skip
                · show Dm.parse (Dm.cuR t2) [d_0, d_1, d_2, d_3, n5, d_5] = Dm.parse (Dm.start s) [0, 0, 0, 0, 0, 0]
                  have hp := Dm.parse_step (d := [d_0, d_1, d_2, d_3, d_4, d_5]) hrn hc1 ht2 hok (.inl ⟨q5, rfl⟩)
                  rw [hcs5, ← hn5] at hp
                  rw [← hf1, hp]; rfl
              · show (Dm.cuR t2).size < rest.size
                have := (Dm.cut_ok hok).2.2
                omega
            · skip
              refine V.alt (fun (zz : Int) => (⟨[(0, tv s), (2, pp ((G1 0).b) 0), (4, pp ((G2 0).b) 0), (8, iv 1), (9, iv zz), (10, iv (Dm.cuE t2)), (11, tv (Dm.cuR t2)), (40, bv (!((Dm.cut t2).isSome)))], [], [.blk ((G1 0).b) #[iv 0, iv 0, iv 0, iv 0, iv 0, iv 0] 23, .blk ((G2 0).b) #[iv d_0, iv d_1, iv d_2, iv d_3, iv d_4, iv d_5] 23]⟩ : St)) hcs6 [] (by kernel_rfl) ?_
              refine nm (1 * (Dm.cuE t2) : Int) fun n6 hn6 => ?_
              refine V.go [.k (iv 5),
                .k (iv 1),
                .k (iv (Dm.cuE t2)),
                .ar (1 * (Dm.cuE t2)) n6 hn6 (by omega) (by omega),
                .k (tv (Dm.cuR t2)),
                .k (pp ((G2 0).b) 5),
                .st 1 (fun _ => .blk ((G2 0).b) #[iv d_0, iv d_1, iv d_2, iv d_3, iv d_4, iv n6] 23),
                .k (tv (Dm.cuR t2))] (fun _ _ => by kernel_rfl) fun _ _ G19 => ?_
              intro S19 t19
              refine V.rnd hZ1 (Dm.cuR t2, d_0, d_1, d_2, d_3, d_4, n6) [] (by kernel_rfl) ?_ ?_
              · skip
                · show Dm.parse (Dm.cuR t2) [d_0, d_1, d_2, d_3, d_4, n6] = Dm.parse (Dm.start s) [0, 0, 0, 0, 0, 0]
                  have hp := Dm.parse_step (d := [d_0, d_1, d_2, d_3, d_4, d_5]) hrn hc1 ht2 hok (.inl ⟨q5, rfl⟩)
                  rw [hcs6, ← hn6] at hp
                  rw [← hf1, hp]; rfl
              · show (Dm.cuR t2).size < rest.size
                have := (Dm.cut_ok hok).2.2
                omega
        · skip
          refine V.go [.k (bv (decide ((c1.toNat : Int) = 47))),
            .k (bv (decide ((c1.toNat : Int) = 47)))] (fun _ _ => by kernel_rfl) fun _ _ G20 => ?_
          intro S20 t20
          refine V.cond (b := decide ((c1.toNat : Int) = 47)) iDT iDF (by kernel_rfl) (fun q9 => ?_) (fun q10 => ?_)
          · skip
            refine V.go [.k (iv (-1))] (fun _ _ => by kernel_rfl) fun _ _ G21 => ?_
            intro S21 t21
            refine nm (rest.extract (1 : Int).toNat (rest.size : Int).toNat : ByteArray) fun t3 ht3 => ?_
            have ht3n : t3.size = min (rest.size : Int).toNat rest.size - (1 : Int).toNat := by rw [ht3, ByteArray.size_extract]
            refine V.go [.k (tv rest),
              .ssl g0 rest (some (1 : Int)) none 1 (rest.size : Int) rfl rfl t3 ht3 (fun _ => ⟨by omega, by omega, by omega⟩),
              .cp g0 2 17 [] (fun _ G => cut_ct t3),
              .k (.tuple #[iv (Dm.cuB t3), iv (Dm.cuE t3), tv (Dm.cuR t3), bv ((Dm.cut t3).isSome)]),
              .k (iv (Dm.cuB t3)),
              .k (iv (Dm.cuE t3)),
              .k (tv (Dm.cuR t3)),
              .k (bv ((Dm.cut t3).isSome)),
              .k (iv (Dm.cuB t3)),
              .k (iv (Dm.cuE t3)),
              .k (tv (Dm.cuR t3)),
              .k (bv ((Dm.cut t3).isSome))] (fun _ _ => by kernel_rfl) fun _ _ G22 => ?_
            intro S22 t22
            refine V.go [.k (bv ((Dm.cut t3).isSome)),
              .k (bv (!((Dm.cut t3).isSome)))] (fun _ _ => by kernel_rfl) fun _ _ G23 => ?_
            intro S23 t23
            refine V.cond (b := !((Dm.cut t3).isSome)) (iNT Iff.rfl) (iNF Iff.rfl) (by kernel_rfl) (fun q11 => ?_) (fun q12 => ?_)
            · skip
              refine V.go [.k (.agg #[iv 0, iv 0, iv 0, iv 0, iv 0, iv 0]),
                .st 0 (fun _ => .blk ((G1 0).b) #[iv 0, iv 0, iv 0, iv 0, iv 0, iv 0] 23),
                .k (bv false)] (fun _ _ => by kernel_rfl) fun _ _ G24 => ?_
              intro S24 t24
              have e0 : (0 : Int) = Dm.rdV s 0 := by
                have hrd := Dm.read_bad (by rw [← hf1]; exact Dm.parse_none hrn ht3 (by first | exact q11 | (have h := q11; simpa using h)))
                unfold Dm.rdV; rw [hrd]; rfl
              have e1 : (0 : Int) = Dm.rdV s 1 := by
                have hrd := Dm.read_bad (by rw [← hf1]; exact Dm.parse_none hrn ht3 (by first | exact q11 | (have h := q11; simpa using h)))
                unfold Dm.rdV; rw [hrd]; rfl
              have e2 : (0 : Int) = Dm.rdV s 2 := by
                have hrd := Dm.read_bad (by rw [← hf1]; exact Dm.parse_none hrn ht3 (by first | exact q11 | (have h := q11; simpa using h)))
                unfold Dm.rdV; rw [hrd]; rfl
              have e3 : (0 : Int) = Dm.rdV s 3 := by
                have hrd := Dm.read_bad (by rw [← hf1]; exact Dm.parse_none hrn ht3 (by first | exact q11 | (have h := q11; simpa using h)))
                unfold Dm.rdV; rw [hrd]; rfl
              have e4 : (0 : Int) = Dm.rdV s 4 := by
                have hrd := Dm.read_bad (by rw [← hf1]; exact Dm.parse_none hrn ht3 (by first | exact q11 | (have h := q11; simpa using h)))
                unfold Dm.rdV; rw [hrd]; rfl
              have e5 : (0 : Int) = Dm.rdV s 5 := by
                have hrd := Dm.read_bad (by rw [← hf1]; exact Dm.parse_none hrn ht3 (by first | exact q11 | (have h := q11; simpa using h)))
                unfold Dm.rdV; rw [hrd]; rfl
              have e6 : false = Dm.rdB s := by
                have hrd := Dm.read_bad (by rw [← hf1]; exact Dm.parse_none hrn ht3 (by first | exact q11 | (have h := q11; simpa using h)))
                unfold Dm.rdB; rw [hrd]; rfl
              exact V.ret [0, 0] [] [] [] [] [] (.tuple #[.agg #[iv 0, iv 0, iv 0, iv 0, iv 0, iv 0], bv false]) (fun _ _ => by kernel_rfl) (fun _ _ => (Eq.trans (by kernel_rfl) (cong7 (fun (x0 : Int) (x1 : Int) (x2 : Int) (x3 : Int) (x4 : Int) (x5 : Int) (x6 : Bool) => (.tuple #[.agg #[iv x0, iv x1, iv x2, iv x3, iv x4, iv x5], bv x6] : Value)) e0 e1 e2 e3 e4 e5 e6)).trans (by kernel_rfl)) (fun _ _ => trivial)
            · skip
              have hok : (Dm.cut t3).isSome = true := by first | exact q12 | (have h := q12; simpa using h)
              have hcs6 := Dm.cut_ok hok
              rcases (by omega : (Dm.cuB t3) = 0 ∨ (Dm.cuB t3) = 1 ∨ (Dm.cuB t3) = 2 ∨ (Dm.cuB t3) = 3 ∨ (Dm.cuB t3) = 4 ∨ (Dm.cuB t3) = 5) with hcs7 | hcs8 | hcs9 | hcs10 | hcs11 | hcs12
              · skip
                refine V.alt (fun (zz : Int) => (⟨[(0, tv s), (2, pp ((G1 0).b) 0), (4, pp ((G2 0).b) 0), (8, iv (-1)), (9, iv zz), (10, iv (Dm.cuE t3)), (11, tv (Dm.cuR t3)), (40, bv (!((Dm.cut t3).isSome)))], [], [.blk ((G1 0).b) #[iv 0, iv 0, iv 0, iv 0, iv 0, iv 0] 23, .blk ((G2 0).b) #[iv d_0, iv d_1, iv d_2, iv d_3, iv d_4, iv d_5] 23]⟩ : St)) hcs7 [] (by kernel_rfl) ?_
                refine nm ((-1) * (Dm.cuE t3) : Int) fun n7 hn7 => ?_
                refine V.go [.k (iv 0),
                  .k (iv (-1)),
                  .k (iv (Dm.cuE t3)),
                  .ar ((-1) * (Dm.cuE t3)) n7 hn7 (by omega) (by omega),
                  .k (tv (Dm.cuR t3)),
                  .k (pp ((G2 0).b) 0),
                  .st 1 (fun _ => .blk ((G2 0).b) #[iv n7, iv d_1, iv d_2, iv d_3, iv d_4, iv d_5] 23),
                  .k (tv (Dm.cuR t3))] (fun _ _ => by kernel_rfl) fun _ _ G25 => ?_
                intro S25 t25
                refine V.rnd hZ1 (Dm.cuR t3, n7, d_1, d_2, d_3, d_4, d_5) [] (by kernel_rfl) ?_ ?_
                · skip
                  · show Dm.parse (Dm.cuR t3) [n7, d_1, d_2, d_3, d_4, d_5] = Dm.parse (Dm.start s) [0, 0, 0, 0, 0, 0]
                    have hp := Dm.parse_step (d := [d_0, d_1, d_2, d_3, d_4, d_5]) hrn hc1 ht3 hok (.inr ⟨q6, q9, rfl⟩)
                    rw [hcs7, ← hn7] at hp
                    rw [← hf1, hp]; rfl
                · show (Dm.cuR t3).size < rest.size
                  have := (Dm.cut_ok hok).2.2
                  omega
              · skip
                refine V.alt (fun (zz : Int) => (⟨[(0, tv s), (2, pp ((G1 0).b) 0), (4, pp ((G2 0).b) 0), (8, iv (-1)), (9, iv zz), (10, iv (Dm.cuE t3)), (11, tv (Dm.cuR t3)), (40, bv (!((Dm.cut t3).isSome)))], [], [.blk ((G1 0).b) #[iv 0, iv 0, iv 0, iv 0, iv 0, iv 0] 23, .blk ((G2 0).b) #[iv d_0, iv d_1, iv d_2, iv d_3, iv d_4, iv d_5] 23]⟩ : St)) hcs8 [] (by kernel_rfl) ?_
                refine nm ((-1) * (Dm.cuE t3) : Int) fun n8 hn8 => ?_
                refine V.go [.k (iv 1),
                  .k (iv (-1)),
                  .k (iv (Dm.cuE t3)),
                  .ar ((-1) * (Dm.cuE t3)) n8 hn8 (by omega) (by omega),
                  .k (tv (Dm.cuR t3)),
                  .k (pp ((G2 0).b) 1),
                  .st 1 (fun _ => .blk ((G2 0).b) #[iv d_0, iv n8, iv d_2, iv d_3, iv d_4, iv d_5] 23),
                  .k (tv (Dm.cuR t3))] (fun _ _ => by kernel_rfl) fun _ _ G26 => ?_
                intro S26 t26
                refine V.rnd hZ1 (Dm.cuR t3, d_0, n8, d_2, d_3, d_4, d_5) [] (by kernel_rfl) ?_ ?_
                · skip
                  · show Dm.parse (Dm.cuR t3) [d_0, n8, d_2, d_3, d_4, d_5] = Dm.parse (Dm.start s) [0, 0, 0, 0, 0, 0]
                    have hp := Dm.parse_step (d := [d_0, d_1, d_2, d_3, d_4, d_5]) hrn hc1 ht3 hok (.inr ⟨q6, q9, rfl⟩)
                    rw [hcs8, ← hn8] at hp
                    rw [← hf1, hp]; rfl
                · show (Dm.cuR t3).size < rest.size
                  have := (Dm.cut_ok hok).2.2
                  omega
              · skip
                refine V.alt (fun (zz : Int) => (⟨[(0, tv s), (2, pp ((G1 0).b) 0), (4, pp ((G2 0).b) 0), (8, iv (-1)), (9, iv zz), (10, iv (Dm.cuE t3)), (11, tv (Dm.cuR t3)), (40, bv (!((Dm.cut t3).isSome)))], [], [.blk ((G1 0).b) #[iv 0, iv 0, iv 0, iv 0, iv 0, iv 0] 23, .blk ((G2 0).b) #[iv d_0, iv d_1, iv d_2, iv d_3, iv d_4, iv d_5] 23]⟩ : St)) hcs9 [] (by kernel_rfl) ?_
                refine nm ((-1) * (Dm.cuE t3) : Int) fun n9 hn9 => ?_
                refine V.go [.k (iv 2),
                  .k (iv (-1)),
                  .k (iv (Dm.cuE t3)),
                  .ar ((-1) * (Dm.cuE t3)) n9 hn9 (by omega) (by omega),
                  .k (tv (Dm.cuR t3)),
                  .k (pp ((G2 0).b) 2),
                  .st 1 (fun _ => .blk ((G2 0).b) #[iv d_0, iv d_1, iv n9, iv d_3, iv d_4, iv d_5] 23),
                  .k (tv (Dm.cuR t3))] (fun _ _ => by kernel_rfl) fun _ _ G27 => ?_
                intro S27 t27
                refine V.rnd hZ1 (Dm.cuR t3, d_0, d_1, n9, d_3, d_4, d_5) [] (by kernel_rfl) ?_ ?_
                · skip
                  · show Dm.parse (Dm.cuR t3) [d_0, d_1, n9, d_3, d_4, d_5] = Dm.parse (Dm.start s) [0, 0, 0, 0, 0, 0]
                    have hp := Dm.parse_step (d := [d_0, d_1, d_2, d_3, d_4, d_5]) hrn hc1 ht3 hok (.inr ⟨q6, q9, rfl⟩)
                    rw [hcs9, ← hn9] at hp
                    rw [← hf1, hp]; rfl
                · show (Dm.cuR t3).size < rest.size
                  have := (Dm.cut_ok hok).2.2
                  omega
              · skip
                refine V.alt (fun (zz : Int) => (⟨[(0, tv s), (2, pp ((G1 0).b) 0), (4, pp ((G2 0).b) 0), (8, iv (-1)), (9, iv zz), (10, iv (Dm.cuE t3)), (11, tv (Dm.cuR t3)), (40, bv (!((Dm.cut t3).isSome)))], [], [.blk ((G1 0).b) #[iv 0, iv 0, iv 0, iv 0, iv 0, iv 0] 23, .blk ((G2 0).b) #[iv d_0, iv d_1, iv d_2, iv d_3, iv d_4, iv d_5] 23]⟩ : St)) hcs10 [] (by kernel_rfl) ?_
                refine nm ((-1) * (Dm.cuE t3) : Int) fun n10 hn10 => ?_
                refine V.go [.k (iv 3),
                  .k (iv (-1)),
                  .k (iv (Dm.cuE t3)),
                  .ar ((-1) * (Dm.cuE t3)) n10 hn10 (by omega) (by omega),
                  .k (tv (Dm.cuR t3)),
                  .k (pp ((G2 0).b) 3),
                  .st 1 (fun _ => .blk ((G2 0).b) #[iv d_0, iv d_1, iv d_2, iv n10, iv d_4, iv d_5] 23),
                  .k (tv (Dm.cuR t3))] (fun _ _ => by kernel_rfl) fun _ _ G28 => ?_
                intro S28 t28
                refine V.rnd hZ1 (Dm.cuR t3, d_0, d_1, d_2, n10, d_4, d_5) [] (by kernel_rfl) ?_ ?_
                · skip
                  · show Dm.parse (Dm.cuR t3) [d_0, d_1, d_2, n10, d_4, d_5] = Dm.parse (Dm.start s) [0, 0, 0, 0, 0, 0]
                    have hp := Dm.parse_step (d := [d_0, d_1, d_2, d_3, d_4, d_5]) hrn hc1 ht3 hok (.inr ⟨q6, q9, rfl⟩)
                    rw [hcs10, ← hn10] at hp
                    rw [← hf1, hp]; rfl
                · show (Dm.cuR t3).size < rest.size
                  have := (Dm.cut_ok hok).2.2
                  omega
              · skip
                refine V.alt (fun (zz : Int) => (⟨[(0, tv s), (2, pp ((G1 0).b) 0), (4, pp ((G2 0).b) 0), (8, iv (-1)), (9, iv zz), (10, iv (Dm.cuE t3)), (11, tv (Dm.cuR t3)), (40, bv (!((Dm.cut t3).isSome)))], [], [.blk ((G1 0).b) #[iv 0, iv 0, iv 0, iv 0, iv 0, iv 0] 23, .blk ((G2 0).b) #[iv d_0, iv d_1, iv d_2, iv d_3, iv d_4, iv d_5] 23]⟩ : St)) hcs11 [] (by kernel_rfl) ?_
                refine nm ((-1) * (Dm.cuE t3) : Int) fun n11 hn11 => ?_
                refine V.go [.k (iv 4),
                  .k (iv (-1)),
                  .k (iv (Dm.cuE t3)),
                  .ar ((-1) * (Dm.cuE t3)) n11 hn11 (by omega) (by omega),
                  .k (tv (Dm.cuR t3)),
                  .k (pp ((G2 0).b) 4),
                  .st 1 (fun _ => .blk ((G2 0).b) #[iv d_0, iv d_1, iv d_2, iv d_3, iv n11, iv d_5] 23),
                  .k (tv (Dm.cuR t3))] (fun _ _ => by kernel_rfl) fun _ _ G29 => ?_
                intro S29 t29
                refine V.rnd hZ1 (Dm.cuR t3, d_0, d_1, d_2, d_3, n11, d_5) [] (by kernel_rfl) ?_ ?_
                · skip
                  · show Dm.parse (Dm.cuR t3) [d_0, d_1, d_2, d_3, n11, d_5] = Dm.parse (Dm.start s) [0, 0, 0, 0, 0, 0]
                    have hp := Dm.parse_step (d := [d_0, d_1, d_2, d_3, d_4, d_5]) hrn hc1 ht3 hok (.inr ⟨q6, q9, rfl⟩)
                    rw [hcs11, ← hn11] at hp
                    rw [← hf1, hp]; rfl
                · show (Dm.cuR t3).size < rest.size
                  have := (Dm.cut_ok hok).2.2
                  omega
              · skip
                refine V.alt (fun (zz : Int) => (⟨[(0, tv s), (2, pp ((G1 0).b) 0), (4, pp ((G2 0).b) 0), (8, iv (-1)), (9, iv zz), (10, iv (Dm.cuE t3)), (11, tv (Dm.cuR t3)), (40, bv (!((Dm.cut t3).isSome)))], [], [.blk ((G1 0).b) #[iv 0, iv 0, iv 0, iv 0, iv 0, iv 0] 23, .blk ((G2 0).b) #[iv d_0, iv d_1, iv d_2, iv d_3, iv d_4, iv d_5] 23]⟩ : St)) hcs12 [] (by kernel_rfl) ?_
                refine nm ((-1) * (Dm.cuE t3) : Int) fun n12 hn12 => ?_
                refine V.go [.k (iv 5),
                  .k (iv (-1)),
                  .k (iv (Dm.cuE t3)),
                  .ar ((-1) * (Dm.cuE t3)) n12 hn12 (by omega) (by omega),
                  .k (tv (Dm.cuR t3)),
                  .k (pp ((G2 0).b) 5),
                  .st 1 (fun _ => .blk ((G2 0).b) #[iv d_0, iv d_1, iv d_2, iv d_3, iv d_4, iv n12] 23),
                  .k (tv (Dm.cuR t3))] (fun _ _ => by kernel_rfl) fun _ _ G30 => ?_
                intro S30 t30
                refine V.rnd hZ1 (Dm.cuR t3, d_0, d_1, d_2, d_3, d_4, n12) [] (by kernel_rfl) ?_ ?_
                · skip
                  · show Dm.parse (Dm.cuR t3) [d_0, d_1, d_2, d_3, d_4, n12] = Dm.parse (Dm.start s) [0, 0, 0, 0, 0, 0]
                    have hp := Dm.parse_step (d := [d_0, d_1, d_2, d_3, d_4, d_5]) hrn hc1 ht3 hok (.inr ⟨q6, q9, rfl⟩)
                    rw [hcs12, ← hn12] at hp
                    rw [← hf1, hp]; rfl
                · show (Dm.cuR t3).size < rest.size
                  have := (Dm.cut_ok hok).2.2
                  omega
          · skip
            refine V.go [.k (.agg #[iv 0, iv 0, iv 0, iv 0, iv 0, iv 0]),
              .st 0 (fun _ => .blk ((G1 0).b) #[iv 0, iv 0, iv 0, iv 0, iv 0, iv 0] 23),
              .k (bv false)] (fun _ _ => by kernel_rfl) fun _ _ G31 => ?_
            intro S31 t31
            have e0 : (0 : Int) = Dm.rdV s 0 := by
              have hrd := Dm.read_bad (by rw [← hf1]; exact Dm.parse_bad hrn hc1 q6 q10)
              unfold Dm.rdV; rw [hrd]; rfl
            have e1 : (0 : Int) = Dm.rdV s 1 := by
              have hrd := Dm.read_bad (by rw [← hf1]; exact Dm.parse_bad hrn hc1 q6 q10)
              unfold Dm.rdV; rw [hrd]; rfl
            have e2 : (0 : Int) = Dm.rdV s 2 := by
              have hrd := Dm.read_bad (by rw [← hf1]; exact Dm.parse_bad hrn hc1 q6 q10)
              unfold Dm.rdV; rw [hrd]; rfl
            have e3 : (0 : Int) = Dm.rdV s 3 := by
              have hrd := Dm.read_bad (by rw [← hf1]; exact Dm.parse_bad hrn hc1 q6 q10)
              unfold Dm.rdV; rw [hrd]; rfl
            have e4 : (0 : Int) = Dm.rdV s 4 := by
              have hrd := Dm.read_bad (by rw [← hf1]; exact Dm.parse_bad hrn hc1 q6 q10)
              unfold Dm.rdV; rw [hrd]; rfl
            have e5 : (0 : Int) = Dm.rdV s 5 := by
              have hrd := Dm.read_bad (by rw [← hf1]; exact Dm.parse_bad hrn hc1 q6 q10)
              unfold Dm.rdV; rw [hrd]; rfl
            have e6 : false = Dm.rdB s := by
              have hrd := Dm.read_bad (by rw [← hf1]; exact Dm.parse_bad hrn hc1 q6 q10)
              unfold Dm.rdB; rw [hrd]; rfl
            exact V.ret [0, 0] [] [] [] [] [] (.tuple #[.agg #[iv 0, iv 0, iv 0, iv 0, iv 0, iv 0], bv false]) (fun _ _ => by kernel_rfl) (fun _ _ => (Eq.trans (by kernel_rfl) (cong7 (fun (x0 : Int) (x1 : Int) (x2 : Int) (x3 : Int) (x4 : Int) (x5 : Int) (x6 : Bool) => (.tuple #[.agg #[iv x0, iv x1, iv x2, iv x3, iv x4, iv x5], bv x6] : Value)) e0 e1 e2 e3 e4 e5 e6)).trans (by kernel_rfl)) (fun _ _ => trivial)
      · skip
        have hre : rest = ByteArray.empty := by first | exact q4 | exact Decidable.not_not.1 q4
        have hpe := (Dm.parse_end (d := [d_0, d_1, d_2, d_3, d_4, d_5]) hre).symm.trans hf1
        refine V.go [.ld 1 0 true (fun _ => [iv d_0, iv d_1, iv d_2, iv d_3, iv d_4, iv d_5]),
          .cp g0 1 7 [] (fun _ G => text_ct d_0 d_1 d_2 d_3 d_4 d_5),
          .k (tv s),
          .sne (Dm.text [d_0, d_1, d_2, d_3, d_4, d_5]) s] (fun _ _ => by kernel_rfl) fun _ _ G32 => ?_
        intro S32 t32
        refine V.cond (b := !(decide ((Dm.text [d_0, d_1, d_2, d_3, d_4, d_5]) = s))) (iNT iDF) (iNF iDT) (by kernel_rfl) (fun q13 => ?_) (fun q14 => ?_)
        · skip
          refine V.go [.k (.agg #[iv 0, iv 0, iv 0, iv 0, iv 0, iv 0]),
            .st 0 (fun _ => .blk ((G1 0).b) #[iv 0, iv 0, iv 0, iv 0, iv 0, iv 0] 23),
            .k (bv false)] (fun _ _ => by kernel_rfl) fun _ _ G33 => ?_
          intro S33 t33
          have e0 : (0 : Int) = Dm.rdV s 0 := by
            have hrd := Dm.read_ne hpe q13
            unfold Dm.rdV; rw [hrd]; rfl
          have e1 : (0 : Int) = Dm.rdV s 1 := by
            have hrd := Dm.read_ne hpe q13
            unfold Dm.rdV; rw [hrd]; rfl
          have e2 : (0 : Int) = Dm.rdV s 2 := by
            have hrd := Dm.read_ne hpe q13
            unfold Dm.rdV; rw [hrd]; rfl
          have e3 : (0 : Int) = Dm.rdV s 3 := by
            have hrd := Dm.read_ne hpe q13
            unfold Dm.rdV; rw [hrd]; rfl
          have e4 : (0 : Int) = Dm.rdV s 4 := by
            have hrd := Dm.read_ne hpe q13
            unfold Dm.rdV; rw [hrd]; rfl
          have e5 : (0 : Int) = Dm.rdV s 5 := by
            have hrd := Dm.read_ne hpe q13
            unfold Dm.rdV; rw [hrd]; rfl
          have e6 : false = Dm.rdB s := by
            have hrd := Dm.read_ne hpe q13
            unfold Dm.rdB; rw [hrd]; rfl
          exact V.ret [0, 0] [] [] [] [] [] (.tuple #[.agg #[iv 0, iv 0, iv 0, iv 0, iv 0, iv 0], bv false]) (fun _ _ => by kernel_rfl) (fun _ _ => (Eq.trans (by kernel_rfl) (cong7 (fun (x0 : Int) (x1 : Int) (x2 : Int) (x3 : Int) (x4 : Int) (x5 : Int) (x6 : Bool) => (.tuple #[.agg #[iv x0, iv x1, iv x2, iv x3, iv x4, iv x5], bv x6] : Value)) e0 e1 e2 e3 e4 e5 e6)).trans (by kernel_rfl)) (fun _ _ => trivial)
        · skip
          refine V.go [.ld 1 0 true (fun _ => [iv d_0, iv d_1, iv d_2, iv d_3, iv d_4, iv d_5]),
            .st 0 (fun _ => .blk ((G1 0).b) #[iv d_0, iv d_1, iv d_2, iv d_3, iv d_4, iv d_5] 23),
            .k (bv true)] (fun _ _ => by kernel_rfl) fun _ _ G34 => ?_
          intro S34 t34
          have e0 : d_0 = Dm.rdV s 0 := by
            have hrd := Dm.read_ok hpe (by first | exact q14 | exact Decidable.not_not.1 q14)
            unfold Dm.rdV; rw [hrd]; rfl
          have e1 : d_1 = Dm.rdV s 1 := by
            have hrd := Dm.read_ok hpe (by first | exact q14 | exact Decidable.not_not.1 q14)
            unfold Dm.rdV; rw [hrd]; rfl
          have e2 : d_2 = Dm.rdV s 2 := by
            have hrd := Dm.read_ok hpe (by first | exact q14 | exact Decidable.not_not.1 q14)
            unfold Dm.rdV; rw [hrd]; rfl
          have e3 : d_3 = Dm.rdV s 3 := by
            have hrd := Dm.read_ok hpe (by first | exact q14 | exact Decidable.not_not.1 q14)
            unfold Dm.rdV; rw [hrd]; rfl
          have e4 : d_4 = Dm.rdV s 4 := by
            have hrd := Dm.read_ok hpe (by first | exact q14 | exact Decidable.not_not.1 q14)
            unfold Dm.rdV; rw [hrd]; rfl
          have e5 : d_5 = Dm.rdV s 5 := by
            have hrd := Dm.read_ok hpe (by first | exact q14 | exact Decidable.not_not.1 q14)
            unfold Dm.rdV; rw [hrd]; rfl
          have e6 : true = Dm.rdB s := by
            have hrd := Dm.read_ok hpe (by first | exact q14 | exact Decidable.not_not.1 q14)
            unfold Dm.rdB; rw [hrd]; rfl
          exact V.ret [0, 0] [] [] [] [] [] (.tuple #[.agg #[iv d_0, iv d_1, iv d_2, iv d_3, iv d_4, iv d_5], bv true]) (fun _ _ => by kernel_rfl) (fun _ _ => (Eq.trans (by kernel_rfl) (cong7 (fun (x0 : Int) (x1 : Int) (x2 : Int) (x3 : Int) (x4 : Int) (x5 : Int) (x6 : Bool) => (.tuple #[.agg #[iv x0, iv x1, iv x2, iv x3, iv x4, iv x5], bv x6] : Value)) e0 e1 e2 e3 e4 e5 e6)).trans (by kernel_rfl)) (fun _ _ => trivial)
  · skip
    refine V.loop (γ := ByteArray × Int × Int × Int × Int × Int × Int) (fun ⟨rest_1, d_0_1, d_1_1, d_2_1, d_3_1, d_4_1, d_5_1⟩ => ⟨[(0, tv s), (2, pp ((G1 0).b) 0), (4, pp ((G2 0).b) 0), (5, tv rest_1)], [], [.blk ((G1 0).b) #[iv 0, iv 0, iv 0, iv 0, iv 0, iv 0] 23, .blk ((G2 0).b) #[iv d_0_1, iv d_1_1, iv d_2_1, iv d_3_1, iv d_4_1, iv d_5_1] 23]⟩) (fun ⟨rest_1, d_0_1, d_1_1, d_2_1, d_3_1, d_4_1, d_5_1⟩ => (Dm.parse rest_1 [d_0_1, d_1_1, d_2_1, d_3_1, d_4_1, d_5_1] = Dm.parse (Dm.start s) [0, 0, 0, 0, 0, 0])) (fun ⟨rest_1, d_0_1, d_1_1, d_2_1, d_3_1, d_4_1, d_5_1⟩ => rest_1.size) (t1, 0, 0, 0, 0, 0, 0) (by kernel_rfl) [] (by kernel_rfl) ?_ ?_
    · skip
      · show Dm.parse t1 [(0 : Int), (0 : Int), (0 : Int), (0 : Int), (0 : Int), (0 : Int)] = Dm.parse (Dm.start s) [0, 0, 0, 0, 0, 0]
        unfold Dm.start; rw [if_neg q2, ht1]
    · rintro ⟨rest_1, d_0_1, d_1_1, d_2_1, d_3_1, d_4_1, d_5_1⟩ hF2 kw36 Z2 hZ2
      have hf2 : Dm.parse rest_1 [d_0_1, d_1_1, d_2_1, d_3_1, d_4_1, d_5_1] = Dm.parse (Dm.start s) [0, 0, 0, 0, 0, 0] := hF2
      clear kw36
      refine V.go [.k (tv rest_1),
        .sne rest_1 ByteArray.empty] (fun _ _ => by kernel_rfl) fun _ _ G35 => ?_
      intro S35 t35
      refine V.cond (b := !(decide (rest_1 = ByteArray.empty))) (iNT iDF) (iNF iDT) (by kernel_rfl) (fun q15 => ?_) (fun q16 => ?_)
      · skip
        have hrn := q15
        have hrz := Dm.size_ne hrn
        refine V.go [.k (iv 1)] (fun _ _ => by kernel_rfl) fun _ _ G36 => ?_
        intro S36 t36
        refine nm ((bl rest_1).getD (0 : Int).toNat default : UInt8) fun c2 hc2 => ?_
        refine V.go [.k (tv rest_1),
          .sid g0 rest_1 (0 : Int) c2 hc2 (fun _ => ⟨by omega, by omega⟩)] (fun _ _ => by kernel_rfl) fun _ _ G37 => ?_
        intro S37 t37
        refine V.go [.k (bv (decide ((c2.toNat : Int) = 42))),
          .k (bv (decide ((c2.toNat : Int) = 42)))] (fun _ _ => by kernel_rfl) fun _ _ G38 => ?_
        intro S38 t38
        refine V.cond (b := decide ((c2.toNat : Int) = 42)) iDT iDF (by kernel_rfl) (fun q17 => ?_) (fun q18 => ?_)
        · skip
          refine nm (rest_1.extract (1 : Int).toNat (rest_1.size : Int).toNat : ByteArray) fun t4 ht4 => ?_
          have ht4n : t4.size = min (rest_1.size : Int).toNat rest_1.size - (1 : Int).toNat := by rw [ht4, ByteArray.size_extract]
          refine V.go [.k (tv rest_1),
            .ssl g0 rest_1 (some (1 : Int)) none 1 (rest_1.size : Int) rfl rfl t4 ht4 (fun _ => ⟨by omega, by omega, by omega⟩),
            .cp g0 2 17 [] (fun _ G => cut_ct t4),
            .k (.tuple #[iv (Dm.cuB t4), iv (Dm.cuE t4), tv (Dm.cuR t4), bv ((Dm.cut t4).isSome)]),
            .k (iv (Dm.cuB t4)),
            .k (iv (Dm.cuE t4)),
            .k (tv (Dm.cuR t4)),
            .k (bv ((Dm.cut t4).isSome)),
            .k (iv (Dm.cuB t4)),
            .k (iv (Dm.cuE t4)),
            .k (tv (Dm.cuR t4)),
            .k (bv ((Dm.cut t4).isSome))] (fun _ _ => by kernel_rfl) fun _ _ G39 => ?_
          intro S39 t39
          refine V.go [.k (bv ((Dm.cut t4).isSome)),
            .k (bv (!((Dm.cut t4).isSome)))] (fun _ _ => by kernel_rfl) fun _ _ G40 => ?_
          intro S40 t40
          refine V.cond (b := !((Dm.cut t4).isSome)) (iNT Iff.rfl) (iNF Iff.rfl) (by kernel_rfl) (fun q19 => ?_) (fun q20 => ?_)
          · skip
            refine V.go [.k (.agg #[iv 0, iv 0, iv 0, iv 0, iv 0, iv 0]),
              .st 0 (fun _ => .blk ((G1 0).b) #[iv 0, iv 0, iv 0, iv 0, iv 0, iv 0] 23),
              .k (bv false)] (fun _ _ => by kernel_rfl) fun _ _ G41 => ?_
            intro S41 t41
            have e0 : (0 : Int) = Dm.rdV s 0 := by
              have hrd := Dm.read_bad (by rw [← hf2]; exact Dm.parse_none hrn ht4 (by first | exact q19 | (have h := q19; simpa using h)))
              unfold Dm.rdV; rw [hrd]; rfl
            have e1 : (0 : Int) = Dm.rdV s 1 := by
              have hrd := Dm.read_bad (by rw [← hf2]; exact Dm.parse_none hrn ht4 (by first | exact q19 | (have h := q19; simpa using h)))
              unfold Dm.rdV; rw [hrd]; rfl
            have e2 : (0 : Int) = Dm.rdV s 2 := by
              have hrd := Dm.read_bad (by rw [← hf2]; exact Dm.parse_none hrn ht4 (by first | exact q19 | (have h := q19; simpa using h)))
              unfold Dm.rdV; rw [hrd]; rfl
            have e3 : (0 : Int) = Dm.rdV s 3 := by
              have hrd := Dm.read_bad (by rw [← hf2]; exact Dm.parse_none hrn ht4 (by first | exact q19 | (have h := q19; simpa using h)))
              unfold Dm.rdV; rw [hrd]; rfl
            have e4 : (0 : Int) = Dm.rdV s 4 := by
              have hrd := Dm.read_bad (by rw [← hf2]; exact Dm.parse_none hrn ht4 (by first | exact q19 | (have h := q19; simpa using h)))
              unfold Dm.rdV; rw [hrd]; rfl
            have e5 : (0 : Int) = Dm.rdV s 5 := by
              have hrd := Dm.read_bad (by rw [← hf2]; exact Dm.parse_none hrn ht4 (by first | exact q19 | (have h := q19; simpa using h)))
              unfold Dm.rdV; rw [hrd]; rfl
            have e6 : false = Dm.rdB s := by
              have hrd := Dm.read_bad (by rw [← hf2]; exact Dm.parse_none hrn ht4 (by first | exact q19 | (have h := q19; simpa using h)))
              unfold Dm.rdB; rw [hrd]; rfl
            exact V.ret [0, 0] [] [] [] [] [] (.tuple #[.agg #[iv 0, iv 0, iv 0, iv 0, iv 0, iv 0], bv false]) (fun _ _ => by kernel_rfl) (fun _ _ => (Eq.trans (by kernel_rfl) (cong7 (fun (x0 : Int) (x1 : Int) (x2 : Int) (x3 : Int) (x4 : Int) (x5 : Int) (x6 : Bool) => (.tuple #[.agg #[iv x0, iv x1, iv x2, iv x3, iv x4, iv x5], bv x6] : Value)) e0 e1 e2 e3 e4 e5 e6)).trans (by kernel_rfl)) (fun _ _ => trivial)
          · skip
            have hok : (Dm.cut t4).isSome = true := by first | exact q20 | (have h := q20; simpa using h)
            have hcs6 := Dm.cut_ok hok
            rcases (by omega : (Dm.cuB t4) = 0 ∨ (Dm.cuB t4) = 1 ∨ (Dm.cuB t4) = 2 ∨ (Dm.cuB t4) = 3 ∨ (Dm.cuB t4) = 4 ∨ (Dm.cuB t4) = 5) with hcs13 | hcs14 | hcs15 | hcs16 | hcs17 | hcs18
            · skip
              refine V.alt (fun (zz : Int) => (⟨[(0, tv s), (2, pp ((G1 0).b) 0), (4, pp ((G2 0).b) 0), (8, iv 1), (9, iv zz), (10, iv (Dm.cuE t4)), (11, tv (Dm.cuR t4)), (40, bv (!((Dm.cut t4).isSome)))], [], [.blk ((G1 0).b) #[iv 0, iv 0, iv 0, iv 0, iv 0, iv 0] 23, .blk ((G2 0).b) #[iv d_0_1, iv d_1_1, iv d_2_1, iv d_3_1, iv d_4_1, iv d_5_1] 23]⟩ : St)) hcs13 [] (by kernel_rfl) ?_
              refine nm (1 * (Dm.cuE t4) : Int) fun n13 hn13 => ?_
              refine V.go [.k (iv 0),
                .k (iv 1),
                .k (iv (Dm.cuE t4)),
                .ar (1 * (Dm.cuE t4)) n13 hn13 (by omega) (by omega),
                .k (tv (Dm.cuR t4)),
                .k (pp ((G2 0).b) 0),
                .st 1 (fun _ => .blk ((G2 0).b) #[iv n13, iv d_1_1, iv d_2_1, iv d_3_1, iv d_4_1, iv d_5_1] 23),
                .k (tv (Dm.cuR t4))] (fun _ _ => by kernel_rfl) fun _ _ G42 => ?_
              intro S42 t42
              refine V.rnd hZ2 (Dm.cuR t4, n13, d_1_1, d_2_1, d_3_1, d_4_1, d_5_1) [] (by kernel_rfl) ?_ ?_
              · skip
                · show Dm.parse (Dm.cuR t4) [n13, d_1_1, d_2_1, d_3_1, d_4_1, d_5_1] = Dm.parse (Dm.start s) [0, 0, 0, 0, 0, 0]
                  have hp := Dm.parse_step (d := [d_0_1, d_1_1, d_2_1, d_3_1, d_4_1, d_5_1]) hrn hc2 ht4 hok (.inl ⟨q17, rfl⟩)
                  rw [hcs13, ← hn13] at hp
                  rw [← hf2, hp]; rfl
              · show (Dm.cuR t4).size < rest_1.size
                have := (Dm.cut_ok hok).2.2
                omega
            · skip
              refine V.alt (fun (zz : Int) => (⟨[(0, tv s), (2, pp ((G1 0).b) 0), (4, pp ((G2 0).b) 0), (8, iv 1), (9, iv zz), (10, iv (Dm.cuE t4)), (11, tv (Dm.cuR t4)), (40, bv (!((Dm.cut t4).isSome)))], [], [.blk ((G1 0).b) #[iv 0, iv 0, iv 0, iv 0, iv 0, iv 0] 23, .blk ((G2 0).b) #[iv d_0_1, iv d_1_1, iv d_2_1, iv d_3_1, iv d_4_1, iv d_5_1] 23]⟩ : St)) hcs14 [] (by kernel_rfl) ?_
              refine nm (1 * (Dm.cuE t4) : Int) fun n14 hn14 => ?_
              refine V.go [.k (iv 1),
                .k (iv 1),
                .k (iv (Dm.cuE t4)),
                .ar (1 * (Dm.cuE t4)) n14 hn14 (by omega) (by omega),
                .k (tv (Dm.cuR t4)),
                .k (pp ((G2 0).b) 1),
                .st 1 (fun _ => .blk ((G2 0).b) #[iv d_0_1, iv n14, iv d_2_1, iv d_3_1, iv d_4_1, iv d_5_1] 23),
                .k (tv (Dm.cuR t4))] (fun _ _ => by kernel_rfl) fun _ _ G43 => ?_
              intro S43 t43
              refine V.rnd hZ2 (Dm.cuR t4, d_0_1, n14, d_2_1, d_3_1, d_4_1, d_5_1) [] (by kernel_rfl) ?_ ?_
              · skip
                · show Dm.parse (Dm.cuR t4) [d_0_1, n14, d_2_1, d_3_1, d_4_1, d_5_1] = Dm.parse (Dm.start s) [0, 0, 0, 0, 0, 0]
                  have hp := Dm.parse_step (d := [d_0_1, d_1_1, d_2_1, d_3_1, d_4_1, d_5_1]) hrn hc2 ht4 hok (.inl ⟨q17, rfl⟩)
                  rw [hcs14, ← hn14] at hp
                  rw [← hf2, hp]; rfl
              · show (Dm.cuR t4).size < rest_1.size
                have := (Dm.cut_ok hok).2.2
                omega
            · skip
              refine V.alt (fun (zz : Int) => (⟨[(0, tv s), (2, pp ((G1 0).b) 0), (4, pp ((G2 0).b) 0), (8, iv 1), (9, iv zz), (10, iv (Dm.cuE t4)), (11, tv (Dm.cuR t4)), (40, bv (!((Dm.cut t4).isSome)))], [], [.blk ((G1 0).b) #[iv 0, iv 0, iv 0, iv 0, iv 0, iv 0] 23, .blk ((G2 0).b) #[iv d_0_1, iv d_1_1, iv d_2_1, iv d_3_1, iv d_4_1, iv d_5_1] 23]⟩ : St)) hcs15 [] (by kernel_rfl) ?_
              refine nm (1 * (Dm.cuE t4) : Int) fun n15 hn15 => ?_
              refine V.go [.k (iv 2),
                .k (iv 1),
                .k (iv (Dm.cuE t4)),
                .ar (1 * (Dm.cuE t4)) n15 hn15 (by omega) (by omega),
                .k (tv (Dm.cuR t4)),
                .k (pp ((G2 0).b) 2),
                .st 1 (fun _ => .blk ((G2 0).b) #[iv d_0_1, iv d_1_1, iv n15, iv d_3_1, iv d_4_1, iv d_5_1] 23),
                .k (tv (Dm.cuR t4))] (fun _ _ => by kernel_rfl) fun _ _ G44 => ?_
              intro S44 t44
              refine V.rnd hZ2 (Dm.cuR t4, d_0_1, d_1_1, n15, d_3_1, d_4_1, d_5_1) [] (by kernel_rfl) ?_ ?_
              · skip
                · show Dm.parse (Dm.cuR t4) [d_0_1, d_1_1, n15, d_3_1, d_4_1, d_5_1] = Dm.parse (Dm.start s) [0, 0, 0, 0, 0, 0]
                  have hp := Dm.parse_step (d := [d_0_1, d_1_1, d_2_1, d_3_1, d_4_1, d_5_1]) hrn hc2 ht4 hok (.inl ⟨q17, rfl⟩)
                  rw [hcs15, ← hn15] at hp
                  rw [← hf2, hp]; rfl
              · show (Dm.cuR t4).size < rest_1.size
                have := (Dm.cut_ok hok).2.2
                omega
            · skip
              refine V.alt (fun (zz : Int) => (⟨[(0, tv s), (2, pp ((G1 0).b) 0), (4, pp ((G2 0).b) 0), (8, iv 1), (9, iv zz), (10, iv (Dm.cuE t4)), (11, tv (Dm.cuR t4)), (40, bv (!((Dm.cut t4).isSome)))], [], [.blk ((G1 0).b) #[iv 0, iv 0, iv 0, iv 0, iv 0, iv 0] 23, .blk ((G2 0).b) #[iv d_0_1, iv d_1_1, iv d_2_1, iv d_3_1, iv d_4_1, iv d_5_1] 23]⟩ : St)) hcs16 [] (by kernel_rfl) ?_
              refine nm (1 * (Dm.cuE t4) : Int) fun n16 hn16 => ?_
              refine V.go [.k (iv 3),
                .k (iv 1),
                .k (iv (Dm.cuE t4)),
                .ar (1 * (Dm.cuE t4)) n16 hn16 (by omega) (by omega),
                .k (tv (Dm.cuR t4)),
                .k (pp ((G2 0).b) 3),
                .st 1 (fun _ => .blk ((G2 0).b) #[iv d_0_1, iv d_1_1, iv d_2_1, iv n16, iv d_4_1, iv d_5_1] 23),
                .k (tv (Dm.cuR t4))] (fun _ _ => by kernel_rfl) fun _ _ G45 => ?_
              intro S45 t45
              refine V.rnd hZ2 (Dm.cuR t4, d_0_1, d_1_1, d_2_1, n16, d_4_1, d_5_1) [] (by kernel_rfl) ?_ ?_
              · skip
                · show Dm.parse (Dm.cuR t4) [d_0_1, d_1_1, d_2_1, n16, d_4_1, d_5_1] = Dm.parse (Dm.start s) [0, 0, 0, 0, 0, 0]
                  have hp := Dm.parse_step (d := [d_0_1, d_1_1, d_2_1, d_3_1, d_4_1, d_5_1]) hrn hc2 ht4 hok (.inl ⟨q17, rfl⟩)
                  rw [hcs16, ← hn16] at hp
                  rw [← hf2, hp]; rfl
              · show (Dm.cuR t4).size < rest_1.size
                have := (Dm.cut_ok hok).2.2
                omega
            · skip
              refine V.alt (fun (zz : Int) => (⟨[(0, tv s), (2, pp ((G1 0).b) 0), (4, pp ((G2 0).b) 0), (8, iv 1), (9, iv zz), (10, iv (Dm.cuE t4)), (11, tv (Dm.cuR t4)), (40, bv (!((Dm.cut t4).isSome)))], [], [.blk ((G1 0).b) #[iv 0, iv 0, iv 0, iv 0, iv 0, iv 0] 23, .blk ((G2 0).b) #[iv d_0_1, iv d_1_1, iv d_2_1, iv d_3_1, iv d_4_1, iv d_5_1] 23]⟩ : St)) hcs17 [] (by kernel_rfl) ?_
              refine nm (1 * (Dm.cuE t4) : Int) fun n17 hn17 => ?_
              refine V.go [.k (iv 4),
                .k (iv 1),
                .k (iv (Dm.cuE t4)),
                .ar (1 * (Dm.cuE t4)) n17 hn17 (by omega) (by omega),
                .k (tv (Dm.cuR t4)),
                .k (pp ((G2 0).b) 4),
                .st 1 (fun _ => .blk ((G2 0).b) #[iv d_0_1, iv d_1_1, iv d_2_1, iv d_3_1, iv n17, iv d_5_1] 23),
                .k (tv (Dm.cuR t4))] (fun _ _ => by kernel_rfl) fun _ _ G46 => ?_
              intro S46 t46
              refine V.rnd hZ2 (Dm.cuR t4, d_0_1, d_1_1, d_2_1, d_3_1, n17, d_5_1) [] (by kernel_rfl) ?_ ?_
              · skip
                · show Dm.parse (Dm.cuR t4) [d_0_1, d_1_1, d_2_1, d_3_1, n17, d_5_1] = Dm.parse (Dm.start s) [0, 0, 0, 0, 0, 0]
                  have hp := Dm.parse_step (d := [d_0_1, d_1_1, d_2_1, d_3_1, d_4_1, d_5_1]) hrn hc2 ht4 hok (.inl ⟨q17, rfl⟩)
                  rw [hcs17, ← hn17] at hp
                  rw [← hf2, hp]; rfl
              · show (Dm.cuR t4).size < rest_1.size
                have := (Dm.cut_ok hok).2.2
                omega
            · skip
              refine V.alt (fun (zz : Int) => (⟨[(0, tv s), (2, pp ((G1 0).b) 0), (4, pp ((G2 0).b) 0), (8, iv 1), (9, iv zz), (10, iv (Dm.cuE t4)), (11, tv (Dm.cuR t4)), (40, bv (!((Dm.cut t4).isSome)))], [], [.blk ((G1 0).b) #[iv 0, iv 0, iv 0, iv 0, iv 0, iv 0] 23, .blk ((G2 0).b) #[iv d_0_1, iv d_1_1, iv d_2_1, iv d_3_1, iv d_4_1, iv d_5_1] 23]⟩ : St)) hcs18 [] (by kernel_rfl) ?_
              refine nm (1 * (Dm.cuE t4) : Int) fun n18 hn18 => ?_
              refine V.go [.k (iv 5),
                .k (iv 1),
                .k (iv (Dm.cuE t4)),
                .ar (1 * (Dm.cuE t4)) n18 hn18 (by omega) (by omega),
                .k (tv (Dm.cuR t4)),
                .k (pp ((G2 0).b) 5),
                .st 1 (fun _ => .blk ((G2 0).b) #[iv d_0_1, iv d_1_1, iv d_2_1, iv d_3_1, iv d_4_1, iv n18] 23),
                .k (tv (Dm.cuR t4))] (fun _ _ => by kernel_rfl) fun _ _ G47 => ?_
              intro S47 t47
              refine V.rnd hZ2 (Dm.cuR t4, d_0_1, d_1_1, d_2_1, d_3_1, d_4_1, n18) [] (by kernel_rfl) ?_ ?_
              · skip
                · show Dm.parse (Dm.cuR t4) [d_0_1, d_1_1, d_2_1, d_3_1, d_4_1, n18] = Dm.parse (Dm.start s) [0, 0, 0, 0, 0, 0]
                  have hp := Dm.parse_step (d := [d_0_1, d_1_1, d_2_1, d_3_1, d_4_1, d_5_1]) hrn hc2 ht4 hok (.inl ⟨q17, rfl⟩)
                  rw [hcs18, ← hn18] at hp
                  rw [← hf2, hp]; rfl
              · show (Dm.cuR t4).size < rest_1.size
                have := (Dm.cut_ok hok).2.2
                omega
        · skip
          refine V.go [.k (bv (decide ((c2.toNat : Int) = 47))),
            .k (bv (decide ((c2.toNat : Int) = 47)))] (fun _ _ => by kernel_rfl) fun _ _ G48 => ?_
          intro S48 t48
          refine V.cond (b := decide ((c2.toNat : Int) = 47)) iDT iDF (by kernel_rfl) (fun q21 => ?_) (fun q22 => ?_)
          · skip
            refine V.go [.k (iv (-1))] (fun _ _ => by kernel_rfl) fun _ _ G49 => ?_
            intro S49 t49
            refine nm (rest_1.extract (1 : Int).toNat (rest_1.size : Int).toNat : ByteArray) fun t5 ht5 => ?_
            have ht5n : t5.size = min (rest_1.size : Int).toNat rest_1.size - (1 : Int).toNat := by rw [ht5, ByteArray.size_extract]
            refine V.go [.k (tv rest_1),
              .ssl g0 rest_1 (some (1 : Int)) none 1 (rest_1.size : Int) rfl rfl t5 ht5 (fun _ => ⟨by omega, by omega, by omega⟩),
              .cp g0 2 17 [] (fun _ G => cut_ct t5),
              .k (.tuple #[iv (Dm.cuB t5), iv (Dm.cuE t5), tv (Dm.cuR t5), bv ((Dm.cut t5).isSome)]),
              .k (iv (Dm.cuB t5)),
              .k (iv (Dm.cuE t5)),
              .k (tv (Dm.cuR t5)),
              .k (bv ((Dm.cut t5).isSome)),
              .k (iv (Dm.cuB t5)),
              .k (iv (Dm.cuE t5)),
              .k (tv (Dm.cuR t5)),
              .k (bv ((Dm.cut t5).isSome))] (fun _ _ => by kernel_rfl) fun _ _ G50 => ?_
            intro S50 t50
            refine V.go [.k (bv ((Dm.cut t5).isSome)),
              .k (bv (!((Dm.cut t5).isSome)))] (fun _ _ => by kernel_rfl) fun _ _ G51 => ?_
            intro S51 t51
            refine V.cond (b := !((Dm.cut t5).isSome)) (iNT Iff.rfl) (iNF Iff.rfl) (by kernel_rfl) (fun q23 => ?_) (fun q24 => ?_)
            · skip
              refine V.go [.k (.agg #[iv 0, iv 0, iv 0, iv 0, iv 0, iv 0]),
                .st 0 (fun _ => .blk ((G1 0).b) #[iv 0, iv 0, iv 0, iv 0, iv 0, iv 0] 23),
                .k (bv false)] (fun _ _ => by kernel_rfl) fun _ _ G52 => ?_
              intro S52 t52
              have e0 : (0 : Int) = Dm.rdV s 0 := by
                have hrd := Dm.read_bad (by rw [← hf2]; exact Dm.parse_none hrn ht5 (by first | exact q23 | (have h := q23; simpa using h)))
                unfold Dm.rdV; rw [hrd]; rfl
              have e1 : (0 : Int) = Dm.rdV s 1 := by
                have hrd := Dm.read_bad (by rw [← hf2]; exact Dm.parse_none hrn ht5 (by first | exact q23 | (have h := q23; simpa using h)))
                unfold Dm.rdV; rw [hrd]; rfl
              have e2 : (0 : Int) = Dm.rdV s 2 := by
                have hrd := Dm.read_bad (by rw [← hf2]; exact Dm.parse_none hrn ht5 (by first | exact q23 | (have h := q23; simpa using h)))
                unfold Dm.rdV; rw [hrd]; rfl
              have e3 : (0 : Int) = Dm.rdV s 3 := by
                have hrd := Dm.read_bad (by rw [← hf2]; exact Dm.parse_none hrn ht5 (by first | exact q23 | (have h := q23; simpa using h)))
                unfold Dm.rdV; rw [hrd]; rfl
              have e4 : (0 : Int) = Dm.rdV s 4 := by
                have hrd := Dm.read_bad (by rw [← hf2]; exact Dm.parse_none hrn ht5 (by first | exact q23 | (have h := q23; simpa using h)))
                unfold Dm.rdV; rw [hrd]; rfl
              have e5 : (0 : Int) = Dm.rdV s 5 := by
                have hrd := Dm.read_bad (by rw [← hf2]; exact Dm.parse_none hrn ht5 (by first | exact q23 | (have h := q23; simpa using h)))
                unfold Dm.rdV; rw [hrd]; rfl
              have e6 : false = Dm.rdB s := by
                have hrd := Dm.read_bad (by rw [← hf2]; exact Dm.parse_none hrn ht5 (by first | exact q23 | (have h := q23; simpa using h)))
                unfold Dm.rdB; rw [hrd]; rfl
              exact V.ret [0, 0] [] [] [] [] [] (.tuple #[.agg #[iv 0, iv 0, iv 0, iv 0, iv 0, iv 0], bv false]) (fun _ _ => by kernel_rfl) (fun _ _ => (Eq.trans (by kernel_rfl) (cong7 (fun (x0 : Int) (x1 : Int) (x2 : Int) (x3 : Int) (x4 : Int) (x5 : Int) (x6 : Bool) => (.tuple #[.agg #[iv x0, iv x1, iv x2, iv x3, iv x4, iv x5], bv x6] : Value)) e0 e1 e2 e3 e4 e5 e6)).trans (by kernel_rfl)) (fun _ _ => trivial)
            · skip
              have hok : (Dm.cut t5).isSome = true := by first | exact q24 | (have h := q24; simpa using h)
              have hcs6 := Dm.cut_ok hok
              rcases (by omega : (Dm.cuB t5) = 0 ∨ (Dm.cuB t5) = 1 ∨ (Dm.cuB t5) = 2 ∨ (Dm.cuB t5) = 3 ∨ (Dm.cuB t5) = 4 ∨ (Dm.cuB t5) = 5) with hcs19 | hcs20 | hcs21 | hcs22 | hcs23 | hcs24
              · skip
                refine V.alt (fun (zz : Int) => (⟨[(0, tv s), (2, pp ((G1 0).b) 0), (4, pp ((G2 0).b) 0), (8, iv (-1)), (9, iv zz), (10, iv (Dm.cuE t5)), (11, tv (Dm.cuR t5)), (40, bv (!((Dm.cut t5).isSome)))], [], [.blk ((G1 0).b) #[iv 0, iv 0, iv 0, iv 0, iv 0, iv 0] 23, .blk ((G2 0).b) #[iv d_0_1, iv d_1_1, iv d_2_1, iv d_3_1, iv d_4_1, iv d_5_1] 23]⟩ : St)) hcs19 [] (by kernel_rfl) ?_
                refine nm ((-1) * (Dm.cuE t5) : Int) fun n19 hn19 => ?_
                refine V.go [.k (iv 0),
                  .k (iv (-1)),
                  .k (iv (Dm.cuE t5)),
                  .ar ((-1) * (Dm.cuE t5)) n19 hn19 (by omega) (by omega),
                  .k (tv (Dm.cuR t5)),
                  .k (pp ((G2 0).b) 0),
                  .st 1 (fun _ => .blk ((G2 0).b) #[iv n19, iv d_1_1, iv d_2_1, iv d_3_1, iv d_4_1, iv d_5_1] 23),
                  .k (tv (Dm.cuR t5))] (fun _ _ => by kernel_rfl) fun _ _ G53 => ?_
                intro S53 t53
                refine V.rnd hZ2 (Dm.cuR t5, n19, d_1_1, d_2_1, d_3_1, d_4_1, d_5_1) [] (by kernel_rfl) ?_ ?_
                · skip
                  · show Dm.parse (Dm.cuR t5) [n19, d_1_1, d_2_1, d_3_1, d_4_1, d_5_1] = Dm.parse (Dm.start s) [0, 0, 0, 0, 0, 0]
                    have hp := Dm.parse_step (d := [d_0_1, d_1_1, d_2_1, d_3_1, d_4_1, d_5_1]) hrn hc2 ht5 hok (.inr ⟨q18, q21, rfl⟩)
                    rw [hcs19, ← hn19] at hp
                    rw [← hf2, hp]; rfl
                · show (Dm.cuR t5).size < rest_1.size
                  have := (Dm.cut_ok hok).2.2
                  omega
              · skip
                refine V.alt (fun (zz : Int) => (⟨[(0, tv s), (2, pp ((G1 0).b) 0), (4, pp ((G2 0).b) 0), (8, iv (-1)), (9, iv zz), (10, iv (Dm.cuE t5)), (11, tv (Dm.cuR t5)), (40, bv (!((Dm.cut t5).isSome)))], [], [.blk ((G1 0).b) #[iv 0, iv 0, iv 0, iv 0, iv 0, iv 0] 23, .blk ((G2 0).b) #[iv d_0_1, iv d_1_1, iv d_2_1, iv d_3_1, iv d_4_1, iv d_5_1] 23]⟩ : St)) hcs20 [] (by kernel_rfl) ?_
                refine nm ((-1) * (Dm.cuE t5) : Int) fun n20 hn20 => ?_
                refine V.go [.k (iv 1),
                  .k (iv (-1)),
                  .k (iv (Dm.cuE t5)),
                  .ar ((-1) * (Dm.cuE t5)) n20 hn20 (by omega) (by omega),
                  .k (tv (Dm.cuR t5)),
                  .k (pp ((G2 0).b) 1),
                  .st 1 (fun _ => .blk ((G2 0).b) #[iv d_0_1, iv n20, iv d_2_1, iv d_3_1, iv d_4_1, iv d_5_1] 23),
                  .k (tv (Dm.cuR t5))] (fun _ _ => by kernel_rfl) fun _ _ G54 => ?_
                intro S54 t54
                refine V.rnd hZ2 (Dm.cuR t5, d_0_1, n20, d_2_1, d_3_1, d_4_1, d_5_1) [] (by kernel_rfl) ?_ ?_
                · skip
                  · show Dm.parse (Dm.cuR t5) [d_0_1, n20, d_2_1, d_3_1, d_4_1, d_5_1] = Dm.parse (Dm.start s) [0, 0, 0, 0, 0, 0]
                    have hp := Dm.parse_step (d := [d_0_1, d_1_1, d_2_1, d_3_1, d_4_1, d_5_1]) hrn hc2 ht5 hok (.inr ⟨q18, q21, rfl⟩)
                    rw [hcs20, ← hn20] at hp
                    rw [← hf2, hp]; rfl
                · show (Dm.cuR t5).size < rest_1.size
                  have := (Dm.cut_ok hok).2.2
                  omega
              · skip
                refine V.alt (fun (zz : Int) => (⟨[(0, tv s), (2, pp ((G1 0).b) 0), (4, pp ((G2 0).b) 0), (8, iv (-1)), (9, iv zz), (10, iv (Dm.cuE t5)), (11, tv (Dm.cuR t5)), (40, bv (!((Dm.cut t5).isSome)))], [], [.blk ((G1 0).b) #[iv 0, iv 0, iv 0, iv 0, iv 0, iv 0] 23, .blk ((G2 0).b) #[iv d_0_1, iv d_1_1, iv d_2_1, iv d_3_1, iv d_4_1, iv d_5_1] 23]⟩ : St)) hcs21 [] (by kernel_rfl) ?_
                refine nm ((-1) * (Dm.cuE t5) : Int) fun n21 hn21 => ?_
                refine V.go [.k (iv 2),
                  .k (iv (-1)),
                  .k (iv (Dm.cuE t5)),
                  .ar ((-1) * (Dm.cuE t5)) n21 hn21 (by omega) (by omega),
                  .k (tv (Dm.cuR t5)),
                  .k (pp ((G2 0).b) 2),
                  .st 1 (fun _ => .blk ((G2 0).b) #[iv d_0_1, iv d_1_1, iv n21, iv d_3_1, iv d_4_1, iv d_5_1] 23),
                  .k (tv (Dm.cuR t5))] (fun _ _ => by kernel_rfl) fun _ _ G55 => ?_
                intro S55 t55
                refine V.rnd hZ2 (Dm.cuR t5, d_0_1, d_1_1, n21, d_3_1, d_4_1, d_5_1) [] (by kernel_rfl) ?_ ?_
                · skip
                  · show Dm.parse (Dm.cuR t5) [d_0_1, d_1_1, n21, d_3_1, d_4_1, d_5_1] = Dm.parse (Dm.start s) [0, 0, 0, 0, 0, 0]
                    have hp := Dm.parse_step (d := [d_0_1, d_1_1, d_2_1, d_3_1, d_4_1, d_5_1]) hrn hc2 ht5 hok (.inr ⟨q18, q21, rfl⟩)
                    rw [hcs21, ← hn21] at hp
                    rw [← hf2, hp]; rfl
                · show (Dm.cuR t5).size < rest_1.size
                  have := (Dm.cut_ok hok).2.2
                  omega
              · skip
                refine V.alt (fun (zz : Int) => (⟨[(0, tv s), (2, pp ((G1 0).b) 0), (4, pp ((G2 0).b) 0), (8, iv (-1)), (9, iv zz), (10, iv (Dm.cuE t5)), (11, tv (Dm.cuR t5)), (40, bv (!((Dm.cut t5).isSome)))], [], [.blk ((G1 0).b) #[iv 0, iv 0, iv 0, iv 0, iv 0, iv 0] 23, .blk ((G2 0).b) #[iv d_0_1, iv d_1_1, iv d_2_1, iv d_3_1, iv d_4_1, iv d_5_1] 23]⟩ : St)) hcs22 [] (by kernel_rfl) ?_
                refine nm ((-1) * (Dm.cuE t5) : Int) fun n22 hn22 => ?_
                refine V.go [.k (iv 3),
                  .k (iv (-1)),
                  .k (iv (Dm.cuE t5)),
                  .ar ((-1) * (Dm.cuE t5)) n22 hn22 (by omega) (by omega),
                  .k (tv (Dm.cuR t5)),
                  .k (pp ((G2 0).b) 3),
                  .st 1 (fun _ => .blk ((G2 0).b) #[iv d_0_1, iv d_1_1, iv d_2_1, iv n22, iv d_4_1, iv d_5_1] 23),
                  .k (tv (Dm.cuR t5))] (fun _ _ => by kernel_rfl) fun _ _ G56 => ?_
                intro S56 t56
                refine V.rnd hZ2 (Dm.cuR t5, d_0_1, d_1_1, d_2_1, n22, d_4_1, d_5_1) [] (by kernel_rfl) ?_ ?_
                · skip
                  · show Dm.parse (Dm.cuR t5) [d_0_1, d_1_1, d_2_1, n22, d_4_1, d_5_1] = Dm.parse (Dm.start s) [0, 0, 0, 0, 0, 0]
                    have hp := Dm.parse_step (d := [d_0_1, d_1_1, d_2_1, d_3_1, d_4_1, d_5_1]) hrn hc2 ht5 hok (.inr ⟨q18, q21, rfl⟩)
                    rw [hcs22, ← hn22] at hp
                    rw [← hf2, hp]; rfl
                · show (Dm.cuR t5).size < rest_1.size
                  have := (Dm.cut_ok hok).2.2
                  omega
              · skip
                refine V.alt (fun (zz : Int) => (⟨[(0, tv s), (2, pp ((G1 0).b) 0), (4, pp ((G2 0).b) 0), (8, iv (-1)), (9, iv zz), (10, iv (Dm.cuE t5)), (11, tv (Dm.cuR t5)), (40, bv (!((Dm.cut t5).isSome)))], [], [.blk ((G1 0).b) #[iv 0, iv 0, iv 0, iv 0, iv 0, iv 0] 23, .blk ((G2 0).b) #[iv d_0_1, iv d_1_1, iv d_2_1, iv d_3_1, iv d_4_1, iv d_5_1] 23]⟩ : St)) hcs23 [] (by kernel_rfl) ?_
                refine nm ((-1) * (Dm.cuE t5) : Int) fun n23 hn23 => ?_
                refine V.go [.k (iv 4),
                  .k (iv (-1)),
                  .k (iv (Dm.cuE t5)),
                  .ar ((-1) * (Dm.cuE t5)) n23 hn23 (by omega) (by omega),
                  .k (tv (Dm.cuR t5)),
                  .k (pp ((G2 0).b) 4),
                  .st 1 (fun _ => .blk ((G2 0).b) #[iv d_0_1, iv d_1_1, iv d_2_1, iv d_3_1, iv n23, iv d_5_1] 23),
                  .k (tv (Dm.cuR t5))] (fun _ _ => by kernel_rfl) fun _ _ G57 => ?_
                intro S57 t57
                refine V.rnd hZ2 (Dm.cuR t5, d_0_1, d_1_1, d_2_1, d_3_1, n23, d_5_1) [] (by kernel_rfl) ?_ ?_
                · skip
                  · show Dm.parse (Dm.cuR t5) [d_0_1, d_1_1, d_2_1, d_3_1, n23, d_5_1] = Dm.parse (Dm.start s) [0, 0, 0, 0, 0, 0]
                    have hp := Dm.parse_step (d := [d_0_1, d_1_1, d_2_1, d_3_1, d_4_1, d_5_1]) hrn hc2 ht5 hok (.inr ⟨q18, q21, rfl⟩)
                    rw [hcs23, ← hn23] at hp
                    rw [← hf2, hp]; rfl
                · show (Dm.cuR t5).size < rest_1.size
                  have := (Dm.cut_ok hok).2.2
                  omega
              · skip
                refine V.alt (fun (zz : Int) => (⟨[(0, tv s), (2, pp ((G1 0).b) 0), (4, pp ((G2 0).b) 0), (8, iv (-1)), (9, iv zz), (10, iv (Dm.cuE t5)), (11, tv (Dm.cuR t5)), (40, bv (!((Dm.cut t5).isSome)))], [], [.blk ((G1 0).b) #[iv 0, iv 0, iv 0, iv 0, iv 0, iv 0] 23, .blk ((G2 0).b) #[iv d_0_1, iv d_1_1, iv d_2_1, iv d_3_1, iv d_4_1, iv d_5_1] 23]⟩ : St)) hcs24 [] (by kernel_rfl) ?_
                refine nm ((-1) * (Dm.cuE t5) : Int) fun n24 hn24 => ?_
                refine V.go [.k (iv 5),
                  .k (iv (-1)),
                  .k (iv (Dm.cuE t5)),
                  .ar ((-1) * (Dm.cuE t5)) n24 hn24 (by omega) (by omega),
                  .k (tv (Dm.cuR t5)),
                  .k (pp ((G2 0).b) 5),
                  .st 1 (fun _ => .blk ((G2 0).b) #[iv d_0_1, iv d_1_1, iv d_2_1, iv d_3_1, iv d_4_1, iv n24] 23),
                  .k (tv (Dm.cuR t5))] (fun _ _ => by kernel_rfl) fun _ _ G58 => ?_
                intro S58 t58
                refine V.rnd hZ2 (Dm.cuR t5, d_0_1, d_1_1, d_2_1, d_3_1, d_4_1, n24) [] (by kernel_rfl) ?_ ?_
                · skip
                  · show Dm.parse (Dm.cuR t5) [d_0_1, d_1_1, d_2_1, d_3_1, d_4_1, n24] = Dm.parse (Dm.start s) [0, 0, 0, 0, 0, 0]
                    have hp := Dm.parse_step (d := [d_0_1, d_1_1, d_2_1, d_3_1, d_4_1, d_5_1]) hrn hc2 ht5 hok (.inr ⟨q18, q21, rfl⟩)
                    rw [hcs24, ← hn24] at hp
                    rw [← hf2, hp]; rfl
                · show (Dm.cuR t5).size < rest_1.size
                  have := (Dm.cut_ok hok).2.2
                  omega
          · skip
            refine V.go [.k (.agg #[iv 0, iv 0, iv 0, iv 0, iv 0, iv 0]),
              .st 0 (fun _ => .blk ((G1 0).b) #[iv 0, iv 0, iv 0, iv 0, iv 0, iv 0] 23),
              .k (bv false)] (fun _ _ => by kernel_rfl) fun _ _ G59 => ?_
            intro S59 t59
            have e0 : (0 : Int) = Dm.rdV s 0 := by
              have hrd := Dm.read_bad (by rw [← hf2]; exact Dm.parse_bad hrn hc2 q18 q22)
              unfold Dm.rdV; rw [hrd]; rfl
            have e1 : (0 : Int) = Dm.rdV s 1 := by
              have hrd := Dm.read_bad (by rw [← hf2]; exact Dm.parse_bad hrn hc2 q18 q22)
              unfold Dm.rdV; rw [hrd]; rfl
            have e2 : (0 : Int) = Dm.rdV s 2 := by
              have hrd := Dm.read_bad (by rw [← hf2]; exact Dm.parse_bad hrn hc2 q18 q22)
              unfold Dm.rdV; rw [hrd]; rfl
            have e3 : (0 : Int) = Dm.rdV s 3 := by
              have hrd := Dm.read_bad (by rw [← hf2]; exact Dm.parse_bad hrn hc2 q18 q22)
              unfold Dm.rdV; rw [hrd]; rfl
            have e4 : (0 : Int) = Dm.rdV s 4 := by
              have hrd := Dm.read_bad (by rw [← hf2]; exact Dm.parse_bad hrn hc2 q18 q22)
              unfold Dm.rdV; rw [hrd]; rfl
            have e5 : (0 : Int) = Dm.rdV s 5 := by
              have hrd := Dm.read_bad (by rw [← hf2]; exact Dm.parse_bad hrn hc2 q18 q22)
              unfold Dm.rdV; rw [hrd]; rfl
            have e6 : false = Dm.rdB s := by
              have hrd := Dm.read_bad (by rw [← hf2]; exact Dm.parse_bad hrn hc2 q18 q22)
              unfold Dm.rdB; rw [hrd]; rfl
            exact V.ret [0, 0] [] [] [] [] [] (.tuple #[.agg #[iv 0, iv 0, iv 0, iv 0, iv 0, iv 0], bv false]) (fun _ _ => by kernel_rfl) (fun _ _ => (Eq.trans (by kernel_rfl) (cong7 (fun (x0 : Int) (x1 : Int) (x2 : Int) (x3 : Int) (x4 : Int) (x5 : Int) (x6 : Bool) => (.tuple #[.agg #[iv x0, iv x1, iv x2, iv x3, iv x4, iv x5], bv x6] : Value)) e0 e1 e2 e3 e4 e5 e6)).trans (by kernel_rfl)) (fun _ _ => trivial)
      · skip
        have hre : rest_1 = ByteArray.empty := by first | exact q16 | exact Decidable.not_not.1 q16
        have hpe := (Dm.parse_end (d := [d_0_1, d_1_1, d_2_1, d_3_1, d_4_1, d_5_1]) hre).symm.trans hf2
        refine V.go [.ld 1 0 true (fun _ => [iv d_0_1, iv d_1_1, iv d_2_1, iv d_3_1, iv d_4_1, iv d_5_1]),
          .cp g0 1 7 [] (fun _ G => text_ct d_0_1 d_1_1 d_2_1 d_3_1 d_4_1 d_5_1),
          .k (tv s),
          .sne (Dm.text [d_0_1, d_1_1, d_2_1, d_3_1, d_4_1, d_5_1]) s] (fun _ _ => by kernel_rfl) fun _ _ G60 => ?_
        intro S60 t60
        refine V.cond (b := !(decide ((Dm.text [d_0_1, d_1_1, d_2_1, d_3_1, d_4_1, d_5_1]) = s))) (iNT iDF) (iNF iDT) (by kernel_rfl) (fun q25 => ?_) (fun q26 => ?_)
        · skip
          refine V.go [.k (.agg #[iv 0, iv 0, iv 0, iv 0, iv 0, iv 0]),
            .st 0 (fun _ => .blk ((G1 0).b) #[iv 0, iv 0, iv 0, iv 0, iv 0, iv 0] 23),
            .k (bv false)] (fun _ _ => by kernel_rfl) fun _ _ G61 => ?_
          intro S61 t61
          have e0 : (0 : Int) = Dm.rdV s 0 := by
            have hrd := Dm.read_ne hpe q25
            unfold Dm.rdV; rw [hrd]; rfl
          have e1 : (0 : Int) = Dm.rdV s 1 := by
            have hrd := Dm.read_ne hpe q25
            unfold Dm.rdV; rw [hrd]; rfl
          have e2 : (0 : Int) = Dm.rdV s 2 := by
            have hrd := Dm.read_ne hpe q25
            unfold Dm.rdV; rw [hrd]; rfl
          have e3 : (0 : Int) = Dm.rdV s 3 := by
            have hrd := Dm.read_ne hpe q25
            unfold Dm.rdV; rw [hrd]; rfl
          have e4 : (0 : Int) = Dm.rdV s 4 := by
            have hrd := Dm.read_ne hpe q25
            unfold Dm.rdV; rw [hrd]; rfl
          have e5 : (0 : Int) = Dm.rdV s 5 := by
            have hrd := Dm.read_ne hpe q25
            unfold Dm.rdV; rw [hrd]; rfl
          have e6 : false = Dm.rdB s := by
            have hrd := Dm.read_ne hpe q25
            unfold Dm.rdB; rw [hrd]; rfl
          exact V.ret [0, 0] [] [] [] [] [] (.tuple #[.agg #[iv 0, iv 0, iv 0, iv 0, iv 0, iv 0], bv false]) (fun _ _ => by kernel_rfl) (fun _ _ => (Eq.trans (by kernel_rfl) (cong7 (fun (x0 : Int) (x1 : Int) (x2 : Int) (x3 : Int) (x4 : Int) (x5 : Int) (x6 : Bool) => (.tuple #[.agg #[iv x0, iv x1, iv x2, iv x3, iv x4, iv x5], bv x6] : Value)) e0 e1 e2 e3 e4 e5 e6)).trans (by kernel_rfl)) (fun _ _ => trivial)
        · skip
          refine V.go [.ld 1 0 true (fun _ => [iv d_0_1, iv d_1_1, iv d_2_1, iv d_3_1, iv d_4_1, iv d_5_1]),
            .st 0 (fun _ => .blk ((G1 0).b) #[iv d_0_1, iv d_1_1, iv d_2_1, iv d_3_1, iv d_4_1, iv d_5_1] 23),
            .k (bv true)] (fun _ _ => by kernel_rfl) fun _ _ G62 => ?_
          intro S62 t62
          have e0 : d_0_1 = Dm.rdV s 0 := by
            have hrd := Dm.read_ok hpe (by first | exact q26 | exact Decidable.not_not.1 q26)
            unfold Dm.rdV; rw [hrd]; rfl
          have e1 : d_1_1 = Dm.rdV s 1 := by
            have hrd := Dm.read_ok hpe (by first | exact q26 | exact Decidable.not_not.1 q26)
            unfold Dm.rdV; rw [hrd]; rfl
          have e2 : d_2_1 = Dm.rdV s 2 := by
            have hrd := Dm.read_ok hpe (by first | exact q26 | exact Decidable.not_not.1 q26)
            unfold Dm.rdV; rw [hrd]; rfl
          have e3 : d_3_1 = Dm.rdV s 3 := by
            have hrd := Dm.read_ok hpe (by first | exact q26 | exact Decidable.not_not.1 q26)
            unfold Dm.rdV; rw [hrd]; rfl
          have e4 : d_4_1 = Dm.rdV s 4 := by
            have hrd := Dm.read_ok hpe (by first | exact q26 | exact Decidable.not_not.1 q26)
            unfold Dm.rdV; rw [hrd]; rfl
          have e5 : d_5_1 = Dm.rdV s 5 := by
            have hrd := Dm.read_ok hpe (by first | exact q26 | exact Decidable.not_not.1 q26)
            unfold Dm.rdV; rw [hrd]; rfl
          have e6 : true = Dm.rdB s := by
            have hrd := Dm.read_ok hpe (by first | exact q26 | exact Decidable.not_not.1 q26)
            unfold Dm.rdB; rw [hrd]; rfl
          exact V.ret [0, 0] [] [] [] [] [] (.tuple #[.agg #[iv d_0_1, iv d_1_1, iv d_2_1, iv d_3_1, iv d_4_1, iv d_5_1], bv true]) (fun _ _ => by kernel_rfl) (fun _ _ => (Eq.trans (by kernel_rfl) (cong7 (fun (x0 : Int) (x1 : Int) (x2 : Int) (x3 : Int) (x4 : Int) (x5 : Int) (x6 : Bool) => (.tuple #[.agg #[iv x0, iv x1, iv x2, iv x3, iv x4, iv x5], bv x6] : Value)) e0 e1 e2 e3 e4 e5 e6)).trans (by kernel_rfl)) (fun _ _ => trivial)

end Kb
