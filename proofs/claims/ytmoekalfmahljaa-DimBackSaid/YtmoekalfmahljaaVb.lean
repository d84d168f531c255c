/- The contracts of dimensions: texts cut. -/
import Derived.Test.YtmoekalfmahljaaJn
import Derived.Test.YtmoekalfmahljaaMo
import Derived.Test.YtmoekalfmahljaaVa
set_option linter.unusedVariables false
set_option linter.unusedSectionVars false
set_option linter.unusedSimpArgs false
namespace Kb
open Go Go.Proofs
set_option maxRecDepth 10000 in
theorem hasp_ct (s prefix_ : ByteArray) :
    Cp Try.prog 28 #[tv s, tv prefix_] [] (bv (decide (Dm.cpB s prefix_))) := by
  refine V.fn mo Try.func28 18 0 (by kernel_rfl) fun w H ε k0 => ?_
  clear k0
  refine V.go [.k (bv false)] (fun _ _ => by kernel_rfl) fun _ _ G1 => ?_
  intro S1 t1
  refine nm (s.extract (0 : Int).toNat (prefix_.size : Int).toNat : ByteArray) fun t1 ht1 => ?_
  have ht1n : t1.size = min (prefix_.size : Int).toNat s.size - (0 : Int).toNat := by rw [ht1, ByteArray.size_extract]
  refine nm ((decide ((prefix_.size : Int) ≤ (s.size : Int))) && (decide (t1 = prefix_)) : Bool) fun p1 hp1 => ?_
  refine V.go [.k (tv s),
    .k (iv (s.size : Int)),
    .k (tv prefix_),
    .k (iv (prefix_.size : Int)),
    .k (bv (decide ((prefix_.size : Int) ≤ (s.size : Int)))),
    .k (bv (decide ((prefix_.size : Int) ≤ (s.size : Int)))),
    .k (tv s),
    .k (tv prefix_),
    .k (iv (prefix_.size : Int)),
    .ssl (gT (b := decide ((prefix_.size : Int) ≤ (s.size : Int))) iDT) s none (some (prefix_.size : Int)) 0 (prefix_.size : Int) rfl rfl t1 ht1 (fun hg => ⟨by omega, by omega, by omega⟩),
    .k (tv prefix_),
    .seq t1 prefix_,
    .andn g0 false (decide ((prefix_.size : Int) ≤ (s.size : Int))) (decide (t1 = prefix_)) p1 hp1,
    .k (bv p1)] (fun _ _ => by kernel_rfl) fun _ _ G2 => ?_
  intro S2 t2
  have e0 : p1 = decide (Dm.cpB s prefix_) := by
    refine Bool.eq_iff_iff.2 (Iff.trans (iN hp1 (iAT iDT iDT)) (Iff.trans ?_ decide_eq_true_iff.symm))
    rw [ht1]; exact Iff.rfl
  exact V.ret [0] [] [] [] [] [] (bv p1) (fun _ _ => by kernel_rfl) (fun _ _ => (Eq.trans (by kernel_rfl) (cong1 (fun (x0 : Bool) => (bv x0 : Value)) e0)).trans (by kernel_rfl)) (fun _ _ => trivial)

set_option maxRecDepth 10000 in
theorem slcut_ct (s prefix_ : ByteArray) :
    Cp Try.prog 25 #[tv s, tv prefix_] [] (.tuple #[tv (Dm.cpR s prefix_), bv (decide (Dm.cpB s prefix_))]) := by
  refine V.fn mo Try.func25 15 0 (by kernel_rfl) fun w H ε k0 => ?_
  clear k0
  refine V.go [.k (tv ByteArray.empty),
    .k (bv false)] (fun _ _ => by kernel_rfl) fun _ _ G1 => ?_
  intro S1 t1
  refine V.go [.k (tv s),
    .k (tv prefix_),
    .cp g0 2 28 [] (fun _ G => hasp_ct s prefix_),
    .k (bv (!(decide (Dm.cpB s prefix_))))] (fun _ _ => by kernel_rfl) fun _ _ G2 => ?_
  intro S2 t2
  refine V.cond (b := !(decide (Dm.cpB s prefix_))) (iNT iDF) (iNF iDT) (by kernel_rfl) (fun q1 => ?_) (fun q2 => ?_)
  · skip
    refine V.go [.k (tv s),
      .k (tv s),
      .k (bv false)] (fun _ _ => by kernel_rfl) fun _ _ G3 => ?_
    intro S3 t3
    have e0 : s = Dm.cpR s prefix_ := by
      exact (if_neg q1).symm
    have e1 : false = decide (Dm.cpB s prefix_) := by
      exact (decide_eq_false q1).symm
    exact V.ret [0, 0] [] [] [] [] [] (.tuple #[tv s, bv false]) (fun _ _ => by kernel_rfl) (fun _ _ => (Eq.trans (by kernel_rfl) (cong2 (fun (x0 : ByteArray) (x1 : Bool) => (.tuple #[tv x0, bv x1] : Value)) e0 e1)).trans (by kernel_rfl)) (fun _ _ => trivial)
  · skip
    have hB : Dm.cpB s prefix_ := by first | exact q2 | exact Decidable.not_not.1 q2
    have hB1 := hB.1
    refine nm (s.extract (prefix_.size : Int).toNat (s.size : Int).toNat : ByteArray) fun t1 ht1 => ?_
    have ht1n : t1.size = min (s.size : Int).toNat s.size - (prefix_.size : Int).toNat := by rw [ht1, ByteArray.size_extract]
    refine V.go [.k (tv s),
      .k (tv prefix_),
      .k (iv (prefix_.size : Int)),
      .ssl g0 s (some (prefix_.size : Int)) none (prefix_.size : Int) (s.size : Int) rfl rfl t1 ht1 (fun _ => ⟨by omega, by omega, by omega⟩),
      .k (tv t1),
      .k (bv true)] (fun _ _ => by kernel_rfl) fun _ _ G4 => ?_
    intro S4 t4
    have e0 : t1 = Dm.cpR s prefix_ := by
      unfold Dm.cpR; rw [if_pos hB, ht1]; rfl
    have e1 : true = decide (Dm.cpB s prefix_) := by
      exact (decide_eq_true hB).symm
    exact V.ret [0, 0] [] [] [] [] [] (.tuple #[tv t1, bv true]) (fun _ _ => by kernel_rfl) (fun _ _ => (Eq.trans (by kernel_rfl) (cong2 (fun (x0 : ByteArray) (x1 : Bool) => (.tuple #[tv x0, bv x1] : Value)) e0 e1)).trans (by kernel_rfl)) (fun _ _ => trivial)

set_option maxRecDepth 10000 in
theorem cutp_ct (s prefix_ : ByteArray) :
    Cp Try.prog 16 #[tv s, tv prefix_] [] (.tuple #[tv (Dm.cpR s prefix_), bv (decide (Dm.cpB s prefix_))]) := by
  refine V.fn mo Try.func16 11 0 (by kernel_rfl) fun w H ε k0 => ?_
  clear k0
  refine V.go [.k (tv ByteArray.empty),
    .k (bv false)] (fun _ _ => by kernel_rfl) fun _ _ G1 => ?_
  intro S1 t1
  refine V.go [.k (tv s),
    .k (tv prefix_),
    .cp g0 2 25 [] (fun _ G => slcut_ct s prefix_),
    .k (tv (Dm.cpR s prefix_)),
    .k (bv (decide (Dm.cpB s prefix_))),
    .k (tv (Dm.cpR s prefix_)),
    .k (bv (decide (Dm.cpB s prefix_)))] (fun _ _ => by kernel_rfl) fun _ _ G2 => ?_
  intro S2 t2
  exact V.ret [0, 0] [] [] [] [] [] (.tuple #[tv (Dm.cpR s prefix_), bv (decide (Dm.cpB s prefix_))]) (fun _ _ => by kernel_rfl) (fun _ _ => by kernel_rfl) (fun _ _ => trivial)

set_option maxRecDepth 10000 in
theorem item_ct (symbol : ByteArray) (exponent : Int) (hs : symbol.size ≤ 100) (he : 0 ≤ exponent ∧ exponent ≤ 9) :
    Cp Try.prog 14 #[tv symbol, iv exponent] [] (tv (Dm.item symbol exponent)) := by
  refine V.fn mo Try.func14 14 0 (by kernel_rfl) fun w H ε k0 => ?_
  clear k0
  refine V.go [.k (tv ByteArray.empty)] (fun _ _ => by kernel_rfl) fun _ _ G1 => ?_
  intro S1 t1
  refine V.go [.k (iv exponent),
    .k (bv (decide (exponent = 1)))] (fun _ _ => by kernel_rfl) fun _ _ G2 => ?_
  intro S2 t2
  refine V.cond (b := decide (exponent = 1)) iDT iDF (by kernel_rfl) (fun q1 => ?_) (fun q2 => ?_)
  · skip
    refine V.go [.k (tv symbol),
      .k (tv symbol)] (fun _ _ => by kernel_rfl) fun _ _ G3 => ?_
    intro S3 t3
    have e0 : symbol = Dm.item symbol exponent := by
      unfold Dm.item; rw [if_pos q1]
    exact V.ret [0] [] [] [] [] [] (tv symbol) (fun _ _ => by kernel_rfl) (fun _ _ => (Eq.trans (by kernel_rfl) (cong1 (fun (x0 : ByteArray) => (tv x0 : Value)) e0)).trans (by kernel_rfl)) (fun _ _ => trivial)
  · skip
    refine nm (⟨#[UInt8.ofNat (48 + exponent).toNat]⟩ : ByteArray) fun t1 ht1 => ?_
    have ht1n : t1.size = 1 := by rw [ht1]; rfl
    refine nm (symbol ++ t1 : ByteArray) fun t2 ht2 => ?_
    have ht2n : t2.size = symbol.size + t1.size := by rw [ht2, ByteArray.size_append]
    refine V.go [.k (tv symbol),
      .k (iv exponent),
      .a (48 + exponent) (by omega) (by omega),
      .ek g0 .u8 (48 + exponent) (48 + exponent) (fun _ => by rw [wrapU8]; omega),
      .e g0 (.string (Utf8.encode (48 + exponent))) (.string t1) (fun _ => by rw [ht1, enc1 (by omega) (by omega)]),
      .sad g0 symbol t1 t2 ht2 (fun _ => by omega),
      .k (tv t2)] (fun _ _ => by kernel_rfl) fun _ _ G4 => ?_
    intro S4 t4
    have e0 : t2 = Dm.item symbol exponent := by
      unfold Dm.item; rw [if_neg q2, ht2, ht1]
    exact V.ret [0] [] [] [] [] [] (tv t2) (fun _ _ => by kernel_rfl) (fun _ _ => (Eq.trans (by kernel_rfl) (cong1 (fun (x0 : ByteArray) => (tv x0 : Value)) e0)).trans (by kernel_rfl)) (fun _ _ => trivial)

set_option maxRecDepth 10000 in
theorem cut_ct (s : ByteArray) :
    Cp Try.prog 17 #[tv s] [] (.tuple #[iv (Dm.cuB s), iv (Dm.cuE s), tv (Dm.cuR s), bv ((Dm.cut s).isSome)]) := by
  refine V.fn mo Try.func17 47 0 (by kernel_rfl) fun w H ε k0 => ?_
  clear k0
  refine V.go [.k (iv 0),
    .k (iv 0),
    .k (tv ByteArray.empty),
    .k (bv false)] (fun _ _ => by kernel_rfl) fun _ _ G1 => ?_
  intro S1 t1
  refine V.go [.cp g0 0 13 [] (fun _ G => symbols_ct ),
    .k (iv 0)] (fun _ _ => by kernel_rfl) fun _ _ G2 => ?_
  intro S2 t2
  refine V.loop (γ := Int) (fun k0 => ⟨[(0, tv s), (10, .agg #[tv ⟨#[103]⟩, tv ⟨#[109]⟩, tv ⟨#[115]⟩, tv ⟨#[74]⟩, tv ⟨#[99, 101, 110, 116]⟩, tv ⟨#[112, 99]⟩]), (11, iv k0)], [], []⟩) (fun k0 => (0 ≤ k0) ∧ (k0 ≤ 6) ∧ (∀ j : Nat, j < k0.toNat → ¬ Dm.cpB s (Dm.sy.getD j default))) (fun k0 => (6 - k0).toNat) 0 (by kernel_rfl) [] (by kernel_rfl) ?_ ?_
  · skip
    refine ⟨?_, ?_, ?_⟩
    · show 0 ≤ (0 : Int)
      first | omega | rfl | (simp; done) | (subst_vars; simp; done)
    · show (0 : Int) ≤ 6
      first | omega | rfl | (simp; done) | (subst_vars; simp; done)
    · show ∀ j : Nat, j < (0 : Int).toNat → ¬ Dm.cpB s (Dm.sy.getD j default)
      intro j hj; simp at hj
  · rintro k0 hF1 kw3 Z1 hZ1
    have hF1 : (0 ≤ k0) ∧ (k0 ≤ 6) ∧ (∀ j : Nat, j < k0.toNat → ¬ Dm.cpB s (Dm.sy.getD j default)) := hF1
    obtain ⟨hf1, hf2, hf3⟩ := hF1
    clear kw3
    refine V.go [.k (bv (decide (k0 < 6)))] (fun _ _ => by kernel_rfl) fun _ _ G3 => ?_
    intro S3 t3
    refine V.cond (b := decide (k0 < 6)) iDT iDF (by kernel_rfl) (fun q1 => ?_) (fun q2 => ?_)
    · skip
      rcases (by omega : k0 = 0 ∨ k0 = 1 ∨ k0 = 2 ∨ k0 = 3 ∨ k0 = 4 ∨ k0 = 5) with hcs1 | hcs2 | hcs3 | hcs4 | hcs5 | hcs6
      · skip
        refine V.alt (fun (zz : Int) => (⟨[(0, tv s), (10, .agg #[tv ⟨#[103]⟩, tv ⟨#[109]⟩, tv ⟨#[115]⟩, tv ⟨#[74]⟩, tv ⟨#[99, 101, 110, 116]⟩, tv ⟨#[112, 99]⟩]), (11, iv zz), (12, bv (decide (k0 < 6)))], [], []⟩ : St)) hcs1 [] (by kernel_rfl) ?_
        refine V.go [.k (iv 0),
          .k (tv ⟨#[103]⟩),
          .k (iv 0),
          .k (tv ⟨#[103]⟩)] (fun _ _ => by kernel_rfl) fun _ _ G4 => ?_
        intro S4 t4
        refine V.go [.k (tv s),
          .k (tv ⟨#[103]⟩),
          .cp g0 2 16 [] (fun _ G => cutp_ct s ⟨#[103]⟩),
          .k (.tuple #[tv (Dm.cpR s ⟨#[103]⟩), bv (decide (Dm.cpB s ⟨#[103]⟩))]),
          .k (tv (Dm.cpR s ⟨#[103]⟩)),
          .k (bv (decide (Dm.cpB s ⟨#[103]⟩))),
          .k (tv (Dm.cpR s ⟨#[103]⟩)),
          .k (bv (decide (Dm.cpB s ⟨#[103]⟩)))] (fun _ _ => by kernel_rfl) fun _ _ G5 => ?_
        intro S5 t5
        refine V.go [.k (bv (decide (Dm.cpB s ⟨#[103]⟩))),
          .k (bv (!(decide (Dm.cpB s ⟨#[103]⟩)))),
          .k (bv (!(decide (Dm.cpB s ⟨#[103]⟩))))] (fun _ _ => by kernel_rfl) fun _ _ G6 => ?_
        intro S6 t6
        refine V.cond (b := !(decide (Dm.cpB s ⟨#[103]⟩))) (iNT iDF) (iNF iDT) (by kernel_rfl) (fun q3 => ?_) (fun q4 => ?_)
        · skip
          refine V.go [.k (iv 1),
            .k (iv 1)] (fun _ _ => by kernel_rfl) fun _ _ G7 => ?_
          intro S7 t7
          refine V.rnd hZ1 1 [] (by kernel_rfl) ?_ ?_
          · skip
            refine ⟨?_, ?_, ?_⟩
            · show 0 ≤ (1 : Int)
              omega
            · show (1 : Int) ≤ 6
              omega
            · show ∀ j : Nat, j < (1 : Int).toNat → ¬ Dm.cpB s (Dm.sy.getD j default)
              exact Dm.upto_succ (P := fun j => ¬ Dm.cpB s (Dm.sy.getD j default)) (n := 0) (by omega) hf3 q3
          · show (6 - (1 : Int)).toNat < (6 - k0).toNat
            omega
        · skip
          refine nm ((bl (Dm.cpR s ⟨#[103]⟩)).getD (0 : Int).toNat default : UInt8) fun c1 hc1 => ?_
          refine nm ((!(decide ((Dm.cpR s ⟨#[103]⟩) = ByteArray.empty))) && (decide (50 ≤ (c1.toNat : Int))) : Bool) fun p1 hp1 => ?_
          refine V.go [.k (tv (Dm.cpR s ⟨#[103]⟩)),
            .sne (Dm.cpR s ⟨#[103]⟩) ByteArray.empty,
            .k (bv (!(decide ((Dm.cpR s ⟨#[103]⟩) = ByteArray.empty)))),
            .k (tv (Dm.cpR s ⟨#[103]⟩)),
            .sid (gT (b := !(decide ((Dm.cpR s ⟨#[103]⟩) = ByteArray.empty))) (iNT iDF)) (Dm.cpR s ⟨#[103]⟩) (0 : Int) c1 hc1 (fun hg => ⟨by omega, by have := Dm.size_ne hg; omega⟩),
            .k (bv (decide (50 ≤ (c1.toNat : Int)))),
            .andn g0 false (!(decide ((Dm.cpR s ⟨#[103]⟩) = ByteArray.empty))) (decide (50 ≤ (c1.toNat : Int))) p1 hp1,
            .k (bv p1),
            .k (tv (Dm.cpR s ⟨#[103]⟩)),
            .sid (gT (b := p1) (iN hp1 (iAT (iNT iDF) iDT))) (Dm.cpR s ⟨#[103]⟩) (0 : Int) c1 hc1 (fun hg => ⟨by omega, by have := Dm.size_ne hg.1; omega⟩),
            .k (bv (decide ((c1.toNat : Int) ≤ 57))),
            .and g0 false p1 (decide ((c1.toNat : Int) ≤ 57)),
            .k (bv (p1 && (decide ((c1.toNat : Int) ≤ 57))))] (fun _ _ => by kernel_rfl) fun _ _ G8 => ?_
          intro S8 t8
          refine V.cond (b := p1 && (decide ((c1.toNat : Int) ≤ 57))) (iAT (iN hp1 (iAT (iNT iDF) iDT)) iDT) (iAF (iN hp1 (iAF (iNF iDT) iDF)) iDF) (by kernel_rfl) (fun q5 => ?_) (fun q6 => ?_)
          · skip
            obtain ⟨⟨hne, hlo⟩, hup⟩ := q5
            have hsz := Dm.size_ne hne
            refine nm ((c1.toNat : Int) - 48 : Int) fun n1 hn1 => ?_
            refine nm ((Dm.cpR s ⟨#[103]⟩).extract (1 : Int).toNat ((Dm.cpR s ⟨#[103]⟩).size : Int).toNat : ByteArray) fun t1 ht1 => ?_
            have ht1n : t1.size = min ((Dm.cpR s ⟨#[103]⟩).size : Int).toNat (Dm.cpR s ⟨#[103]⟩).size - (1 : Int).toNat := by rw [ht1, ByteArray.size_extract]
            refine V.go [.k (iv 0),
              .k (tv (Dm.cpR s ⟨#[103]⟩)),
              .sid g0 (Dm.cpR s ⟨#[103]⟩) (0 : Int) c1 hc1 (fun _ => ⟨by omega, by omega⟩),
              .ek g0 .u8 ((c1.toNat : Int) - 48) n1 (fun _ => by rw [wrapU8]; omega),
              .arg g0 n1 n1 rfl (fun _ => by omega),
              .k (tv (Dm.cpR s ⟨#[103]⟩)),
              .ssl g0 (Dm.cpR s ⟨#[103]⟩) (some (1 : Int)) none 1 ((Dm.cpR s ⟨#[103]⟩).size : Int) rfl rfl t1 ht1 (fun _ => ⟨by omega, by omega, by omega⟩),
              .k (iv 0),
              .k (iv n1),
              .k (tv t1),
              .k (bv true)] (fun _ _ => by kernel_rfl) fun _ _ G9 => ?_
            intro S9 t9
            have e0 : (0 : Int) = Dm.cuB s := by
              have hct := (Dm.cut_at (s := s) 0 (by omega) (fun j hj => hf3 j (by omega)) (by first | exact q4 | exact Decidable.not_not.1 q4)).trans (congrArg some (Dm.aft_y hne hc1 hlo hup ht1))
              unfold Dm.cuB; rw [hct]; rfl
            have e1 : n1 = Dm.cuE s := by
              have hct := (Dm.cut_at (s := s) 0 (by omega) (fun j hj => hf3 j (by omega)) (by first | exact q4 | exact Decidable.not_not.1 q4)).trans (congrArg some (Dm.aft_y hne hc1 hlo hup ht1))
              unfold Dm.cuE; rw [hct]; first | rfl | (simp only [Option.getD_some]; omega)
            have e2 : t1 = Dm.cuR s := by
              have hct := (Dm.cut_at (s := s) 0 (by omega) (fun j hj => hf3 j (by omega)) (by first | exact q4 | exact Decidable.not_not.1 q4)).trans (congrArg some (Dm.aft_y hne hc1 hlo hup ht1))
              unfold Dm.cuR; rw [hct]; rfl
            have e3 : true = (Dm.cut s).isSome := by
              have hct := (Dm.cut_at (s := s) 0 (by omega) (fun j hj => hf3 j (by omega)) (by first | exact q4 | exact Decidable.not_not.1 q4)).trans (congrArg some (Dm.aft_y hne hc1 hlo hup ht1))
              rw [hct]; rfl
            exact V.ret [0, 0, 0, 0] [] [] [] [] [] (.tuple #[iv 0, iv n1, tv t1, bv true]) (fun _ _ => by kernel_rfl) (fun _ _ => (Eq.trans (by kernel_rfl) (cong4 (fun (x0 : Int) (x1 : Int) (x2 : ByteArray) (x3 : Bool) => (.tuple #[iv x0, iv x1, tv x2, bv x3] : Value)) e0 e1 e2 e3)).trans (by kernel_rfl)) (fun _ _ => trivial)
          · skip
            refine V.go [.k (iv 0),
              .k (tv (Dm.cpR s ⟨#[103]⟩)),
              .k (iv 0),
              .k (iv 1),
              .k (tv (Dm.cpR s ⟨#[103]⟩)),
              .k (bv true)] (fun _ _ => by kernel_rfl) fun _ _ G10 => ?_
            intro S10 t10
            have e0 : (0 : Int) = Dm.cuB s := by
              have hct := (Dm.cut_at (s := s) 0 (by omega) (fun j hj => hf3 j (by omega)) (by first | exact q4 | exact Decidable.not_not.1 q4)).trans (congrArg some (Dm.aft_n hc1 q6))
              unfold Dm.cuB; rw [hct]; rfl
            have e1 : (1 : Int) = Dm.cuE s := by
              have hct := (Dm.cut_at (s := s) 0 (by omega) (fun j hj => hf3 j (by omega)) (by first | exact q4 | exact Decidable.not_not.1 q4)).trans (congrArg some (Dm.aft_n hc1 q6))
              unfold Dm.cuE; rw [hct]; first | rfl | (simp only [Option.getD_some]; omega)
            have e2 : (Dm.cpR s ⟨#[103]⟩) = Dm.cuR s := by
              have hct := (Dm.cut_at (s := s) 0 (by omega) (fun j hj => hf3 j (by omega)) (by first | exact q4 | exact Decidable.not_not.1 q4)).trans (congrArg some (Dm.aft_n hc1 q6))
              unfold Dm.cuR; rw [hct]; rfl
            have e3 : true = (Dm.cut s).isSome := by
              have hct := (Dm.cut_at (s := s) 0 (by omega) (fun j hj => hf3 j (by omega)) (by first | exact q4 | exact Decidable.not_not.1 q4)).trans (congrArg some (Dm.aft_n hc1 q6))
              rw [hct]; rfl
            exact V.ret [0, 0, 0, 0] [] [] [] [] [] (.tuple #[iv 0, iv 1, tv (Dm.cpR s ⟨#[103]⟩), bv true]) (fun _ _ => by kernel_rfl) (fun _ _ => (Eq.trans (by kernel_rfl) (cong4 (fun (x0 : Int) (x1 : Int) (x2 : ByteArray) (x3 : Bool) => (.tuple #[iv x0, iv x1, tv x2, bv x3] : Value)) e0 e1 e2 e3)).trans (by kernel_rfl)) (fun _ _ => trivial)
      · skip
        refine V.alt (fun (zz : Int) => (⟨[(0, tv s), (10, .agg #[tv ⟨#[103]⟩, tv ⟨#[109]⟩, tv ⟨#[115]⟩, tv ⟨#[74]⟩, tv ⟨#[99, 101, 110, 116]⟩, tv ⟨#[112, 99]⟩]), (11, iv zz), (12, bv (decide (k0 < 6)))], [], []⟩ : St)) hcs2 [] (by kernel_rfl) ?_
        refine V.go [.k (iv 1),
          .k (tv ⟨#[109]⟩),
          .k (iv 1),
          .k (tv ⟨#[109]⟩)] (fun _ _ => by kernel_rfl) fun _ _ G11 => ?_
        intro S11 t11
        refine V.go [.k (tv s),
          .k (tv ⟨#[109]⟩),
          .cp g0 2 16 [] (fun _ G => cutp_ct s ⟨#[109]⟩),
          .k (.tuple #[tv (Dm.cpR s ⟨#[109]⟩), bv (decide (Dm.cpB s ⟨#[109]⟩))]),
          .k (tv (Dm.cpR s ⟨#[109]⟩)),
          .k (bv (decide (Dm.cpB s ⟨#[109]⟩))),
          .k (tv (Dm.cpR s ⟨#[109]⟩)),
          .k (bv (decide (Dm.cpB s ⟨#[109]⟩)))] (fun _ _ => by kernel_rfl) fun _ _ G12 => ?_
        intro S12 t12
        refine V.go [.k (bv (decide (Dm.cpB s ⟨#[109]⟩))),
          .k (bv (!(decide (Dm.cpB s ⟨#[109]⟩)))),
          .k (bv (!(decide (Dm.cpB s ⟨#[109]⟩))))] (fun _ _ => by kernel_rfl) fun _ _ G13 => ?_
        intro S13 t13
        refine V.cond (b := !(decide (Dm.cpB s ⟨#[109]⟩))) (iNT iDF) (iNF iDT) (by kernel_rfl) (fun q7 => ?_) (fun q8 => ?_)
        · skip
          refine V.go [.k (iv 2),
            .k (iv 2)] (fun _ _ => by kernel_rfl) fun _ _ G14 => ?_
          intro S14 t14
          refine V.rnd hZ1 2 [] (by kernel_rfl) ?_ ?_
          · skip
            refine ⟨?_, ?_, ?_⟩
            · show 0 ≤ (2 : Int)
              omega
            · show (2 : Int) ≤ 6
              omega
            · show ∀ j : Nat, j < (2 : Int).toNat → ¬ Dm.cpB s (Dm.sy.getD j default)
              exact Dm.upto_succ (P := fun j => ¬ Dm.cpB s (Dm.sy.getD j default)) (n := 1) (by omega) hf3 q7
          · show (6 - (2 : Int)).toNat < (6 - k0).toNat
            omega
        · skip
          refine nm ((bl (Dm.cpR s ⟨#[109]⟩)).getD (0 : Int).toNat default : UInt8) fun c2 hc2 => ?_
          refine nm ((!(decide ((Dm.cpR s ⟨#[109]⟩) = ByteArray.empty))) && (decide (50 ≤ (c2.toNat : Int))) : Bool) fun p2 hp2 => ?_
          refine V.go [.k (tv (Dm.cpR s ⟨#[109]⟩)),
            .sne (Dm.cpR s ⟨#[109]⟩) ByteArray.empty,
            .k (bv (!(decide ((Dm.cpR s ⟨#[109]⟩) = ByteArray.empty)))),
            .k (tv (Dm.cpR s ⟨#[109]⟩)),
            .sid (gT (b := !(decide ((Dm.cpR s ⟨#[109]⟩) = ByteArray.empty))) (iNT iDF)) (Dm.cpR s ⟨#[109]⟩) (0 : Int) c2 hc2 (fun hg => ⟨by omega, by have := Dm.size_ne hg; omega⟩),
            .k (bv (decide (50 ≤ (c2.toNat : Int)))),
            .andn g0 false (!(decide ((Dm.cpR s ⟨#[109]⟩) = ByteArray.empty))) (decide (50 ≤ (c2.toNat : Int))) p2 hp2,
            .k (bv p2),
            .k (tv (Dm.cpR s ⟨#[109]⟩)),
            .sid (gT (b := p2) (iN hp2 (iAT (iNT iDF) iDT))) (Dm.cpR s ⟨#[109]⟩) (0 : Int) c2 hc2 (fun hg => ⟨by omega, by have := Dm.size_ne hg.1; omega⟩),
            .k (bv (decide ((c2.toNat : Int) ≤ 57))),
            .and g0 false p2 (decide ((c2.toNat : Int) ≤ 57)),
            .k (bv (p2 && (decide ((c2.toNat : Int) ≤ 57))))] (fun _ _ => by kernel_rfl) fun _ _ G15 => ?_
          intro S15 t15
          refine V.cond (b := p2 && (decide ((c2.toNat : Int) ≤ 57))) (iAT (iN hp2 (iAT (iNT iDF) iDT)) iDT) (iAF (iN hp2 (iAF (iNF iDT) iDF)) iDF) (by kernel_rfl) (fun q9 => ?_) (fun q10 => ?_)
          · skip
            obtain ⟨⟨hne, hlo⟩, hup⟩ := q9
            have hsz := Dm.size_ne hne
            refine nm ((c2.toNat : Int) - 48 : Int) fun n2 hn2 => ?_
            refine nm ((Dm.cpR s ⟨#[109]⟩).extract (1 : Int).toNat ((Dm.cpR s ⟨#[109]⟩).size : Int).toNat : ByteArray) fun t2 ht2 => ?_
            have ht2n : t2.size = min ((Dm.cpR s ⟨#[109]⟩).size : Int).toNat (Dm.cpR s ⟨#[109]⟩).size - (1 : Int).toNat := by rw [ht2, ByteArray.size_extract]
            refine V.go [.k (iv 1),
              .k (tv (Dm.cpR s ⟨#[109]⟩)),
              .sid g0 (Dm.cpR s ⟨#[109]⟩) (0 : Int) c2 hc2 (fun _ => ⟨by omega, by omega⟩),
              .ek g0 .u8 ((c2.toNat : Int) - 48) n2 (fun _ => by rw [wrapU8]; omega),
              .arg g0 n2 n2 rfl (fun _ => by omega),
              .k (tv (Dm.cpR s ⟨#[109]⟩)),
              .ssl g0 (Dm.cpR s ⟨#[109]⟩) (some (1 : Int)) none 1 ((Dm.cpR s ⟨#[109]⟩).size : Int) rfl rfl t2 ht2 (fun _ => ⟨by omega, by omega, by omega⟩),
              .k (iv 1),
              .k (iv n2),
              .k (tv t2),
              .k (bv true)] (fun _ _ => by kernel_rfl) fun _ _ G16 => ?_
            intro S16 t16
            have e0 : (1 : Int) = Dm.cuB s := by
              have hct := (Dm.cut_at (s := s) 1 (by omega) (fun j hj => hf3 j (by omega)) (by first | exact q8 | exact Decidable.not_not.1 q8)).trans (congrArg some (Dm.aft_y hne hc2 hlo hup ht2))
              unfold Dm.cuB; rw [hct]; rfl
            have e1 : n2 = Dm.cuE s := by
              have hct := (Dm.cut_at (s := s) 1 (by omega) (fun j hj => hf3 j (by omega)) (by first | exact q8 | exact Decidable.not_not.1 q8)).trans (congrArg some (Dm.aft_y hne hc2 hlo hup ht2))
              unfold Dm.cuE; rw [hct]; first | rfl | (simp only [Option.getD_some]; omega)
            have e2 : t2 = Dm.cuR s := by
              have hct := (Dm.cut_at (s := s) 1 (by omega) (fun j hj => hf3 j (by omega)) (by first | exact q8 | exact Decidable.not_not.1 q8)).trans (congrArg some (Dm.aft_y hne hc2 hlo hup ht2))
              unfold Dm.cuR; rw [hct]; rfl
            have e3 : true = (Dm.cut s).isSome := by
              have hct := (Dm.cut_at (s := s) 1 (by omega) (fun j hj => hf3 j (by omega)) (by first | exact q8 | exact Decidable.not_not.1 q8)).trans (congrArg some (Dm.aft_y hne hc2 hlo hup ht2))
              rw [hct]; rfl
            exact V.ret [0, 0, 0, 0] [] [] [] [] [] (.tuple #[iv 1, iv n2, tv t2, bv true]) (fun _ _ => by kernel_rfl) (fun _ _ => (Eq.trans (by kernel_rfl) (cong4 (fun (x0 : Int) (x1 : Int) (x2 : ByteArray) (x3 : Bool) => (.tuple #[iv x0, iv x1, tv x2, bv x3] : Value)) e0 e1 e2 e3)).trans (by kernel_rfl)) (fun _ _ => trivial)
          · skip
            refine V.go [.k (iv 1),
              .k (tv (Dm.cpR s ⟨#[109]⟩)),
              .k (iv 1),
              .k (iv 1),
              .k (tv (Dm.cpR s ⟨#[109]⟩)),
              .k (bv true)] (fun _ _ => by kernel_rfl) fun _ _ G17 => ?_
            intro S17 t17
            have e0 : (1 : Int) = Dm.cuB s := by
              have hct := (Dm.cut_at (s := s) 1 (by omega) (fun j hj => hf3 j (by omega)) (by first | exact q8 | exact Decidable.not_not.1 q8)).trans (congrArg some (Dm.aft_n hc2 q10))
              unfold Dm.cuB; rw [hct]; rfl
            have e1 : (1 : Int) = Dm.cuE s := by
              have hct := (Dm.cut_at (s := s) 1 (by omega) (fun j hj => hf3 j (by omega)) (by first | exact q8 | exact Decidable.not_not.1 q8)).trans (congrArg some (Dm.aft_n hc2 q10))
              unfold Dm.cuE; rw [hct]; first | rfl | (simp only [Option.getD_some]; omega)
            have e2 : (Dm.cpR s ⟨#[109]⟩) = Dm.cuR s := by
              have hct := (Dm.cut_at (s := s) 1 (by omega) (fun j hj => hf3 j (by omega)) (by first | exact q8 | exact Decidable.not_not.1 q8)).trans (congrArg some (Dm.aft_n hc2 q10))
              unfold Dm.cuR; rw [hct]; rfl
            have e3 : true = (Dm.cut s).isSome := by
              have hct := (Dm.cut_at (s := s) 1 (by omega) (fun j hj => hf3 j (by omega)) (by first | exact q8 | exact Decidable.not_not.1 q8)).trans (congrArg some (Dm.aft_n hc2 q10))
              rw [hct]; rfl
            exact V.ret [0, 0, 0, 0] [] [] [] [] [] (.tuple #[iv 1, iv 1, tv (Dm.cpR s ⟨#[109]⟩), bv true]) (fun _ _ => by kernel_rfl) (fun _ _ => (Eq.trans (by kernel_rfl) (cong4 (fun (x0 : Int) (x1 : Int) (x2 : ByteArray) (x3 : Bool) => (.tuple #[iv x0, iv x1, tv x2, bv x3] : Value)) e0 e1 e2 e3)).trans (by kernel_rfl)) (fun _ _ => trivial)
      · skip
        refine V.alt (fun (zz : Int) => (⟨[(0, tv s), (10, .agg #[tv ⟨#[103]⟩, tv ⟨#[109]⟩, tv ⟨#[115]⟩, tv ⟨#[74]⟩, tv ⟨#[99, 101, 110, 116]⟩, tv ⟨#[112, 99]⟩]), (11, iv zz), (12, bv (decide (k0 < 6)))], [], []⟩ : St)) hcs3 [] (by kernel_rfl) ?_
        refine V.go [.k (iv 2),
          .k (tv ⟨#[115]⟩),
          .k (iv 2),
          .k (tv ⟨#[115]⟩)] (fun _ _ => by kernel_rfl) fun _ _ G18 => ?_
        intro S18 t18
        refine V.go [.k (tv s),
          .k (tv ⟨#[115]⟩),
          .cp g0 2 16 [] (fun _ G => cutp_ct s ⟨#[115]⟩),
          .k (.tuple #[tv (Dm.cpR s ⟨#[115]⟩), bv (decide (Dm.cpB s ⟨#[115]⟩))]),
          .k (tv (Dm.cpR s ⟨#[115]⟩)),
          .k (bv (decide (Dm.cpB s ⟨#[115]⟩))),
          .k (tv (Dm.cpR s ⟨#[115]⟩)),
          .k (bv (decide (Dm.cpB s ⟨#[115]⟩)))] (fun _ _ => by kernel_rfl) fun _ _ G19 => ?_
        intro S19 t19
        refine V.go [.k (bv (decide (Dm.cpB s ⟨#[115]⟩))),
          .k (bv (!(decide (Dm.cpB s ⟨#[115]⟩)))),
          .k (bv (!(decide (Dm.cpB s ⟨#[115]⟩))))] (fun _ _ => by kernel_rfl) fun _ _ G20 => ?_
        intro S20 t20
        refine V.cond (b := !(decide (Dm.cpB s ⟨#[115]⟩))) (iNT iDF) (iNF iDT) (by kernel_rfl) (fun q11 => ?_) (fun q12 => ?_)
        · skip
          refine V.go [.k (iv 3),
            .k (iv 3)] (fun _ _ => by kernel_rfl) fun _ _ G21 => ?_
          intro S21 t21
          refine V.rnd hZ1 3 [] (by kernel_rfl) ?_ ?_
          · skip
            refine ⟨?_, ?_, ?_⟩
            · show 0 ≤ (3 : Int)
              omega
            · show (3 : Int) ≤ 6
              omega
            · show ∀ j : Nat, j < (3 : Int).toNat → ¬ Dm.cpB s (Dm.sy.getD j default)
              exact Dm.upto_succ (P := fun j => ¬ Dm.cpB s (Dm.sy.getD j default)) (n := 2) (by omega) hf3 q11
          · show (6 - (3 : Int)).toNat < (6 - k0).toNat
            omega
        · skip
          refine nm ((bl (Dm.cpR s ⟨#[115]⟩)).getD (0 : Int).toNat default : UInt8) fun c3 hc3 => ?_
          refine nm ((!(decide ((Dm.cpR s ⟨#[115]⟩) = ByteArray.empty))) && (decide (50 ≤ (c3.toNat : Int))) : Bool) fun p3 hp3 => ?_
          refine V.go [.k (tv (Dm.cpR s ⟨#[115]⟩)),
            .sne (Dm.cpR s ⟨#[115]⟩) ByteArray.empty,
            .k (bv (!(decide ((Dm.cpR s ⟨#[115]⟩) = ByteArray.empty)))),
            .k (tv (Dm.cpR s ⟨#[115]⟩)),
            .sid (gT (b := !(decide ((Dm.cpR s ⟨#[115]⟩) = ByteArray.empty))) (iNT iDF)) (Dm.cpR s ⟨#[115]⟩) (0 : Int) c3 hc3 (fun hg => ⟨by omega, by have := Dm.size_ne hg; omega⟩),
            .k (bv (decide (50 ≤ (c3.toNat : Int)))),
            .andn g0 false (!(decide ((Dm.cpR s ⟨#[115]⟩) = ByteArray.empty))) (decide (50 ≤ (c3.toNat : Int))) p3 hp3,
            .k (bv p3),
            .k (tv (Dm.cpR s ⟨#[115]⟩)),
            .sid (gT (b := p3) (iN hp3 (iAT (iNT iDF) iDT))) (Dm.cpR s ⟨#[115]⟩) (0 : Int) c3 hc3 (fun hg => ⟨by omega, by have := Dm.size_ne hg.1; omega⟩),
            .k (bv (decide ((c3.toNat : Int) ≤ 57))),
            .and g0 false p3 (decide ((c3.toNat : Int) ≤ 57)),
            .k (bv (p3 && (decide ((c3.toNat : Int) ≤ 57))))] (fun _ _ => by kernel_rfl) fun _ _ G22 => ?_
          intro S22 t22
          refine V.cond (b := p3 && (decide ((c3.toNat : Int) ≤ 57))) (iAT (iN hp3 (iAT (iNT iDF) iDT)) iDT) (iAF (iN hp3 (iAF (iNF iDT) iDF)) iDF) (by kernel_rfl) (fun q13 => ?_) (fun q14 => ?_)
          · skip
            obtain ⟨⟨hne, hlo⟩, hup⟩ := q13
            have hsz := Dm.size_ne hne
            refine nm ((c3.toNat : Int) - 48 : Int) fun n3 hn3 => ?_
            refine nm ((Dm.cpR s ⟨#[115]⟩).extract (1 : Int).toNat ((Dm.cpR s ⟨#[115]⟩).size : Int).toNat : ByteArray) fun t3 ht3 => ?_
            have ht3n : t3.size = min ((Dm.cpR s ⟨#[115]⟩).size : Int).toNat (Dm.cpR s ⟨#[115]⟩).size - (1 : Int).toNat := by rw [ht3, ByteArray.size_extract]
            refine V.go [.k (iv 2),
              .k (tv (Dm.cpR s ⟨#[115]⟩)),
              .sid g0 (Dm.cpR s ⟨#[115]⟩) (0 : Int) c3 hc3 (fun _ => ⟨by omega, by omega⟩),
              .ek g0 .u8 ((c3.toNat : Int) - 48) n3 (fun _ => by rw [wrapU8]; omega),
              .arg g0 n3 n3 rfl (fun _ => by omega),
              .k (tv (Dm.cpR s ⟨#[115]⟩)),
              .ssl g0 (Dm.cpR s ⟨#[115]⟩) (some (1 : Int)) none 1 ((Dm.cpR s ⟨#[115]⟩).size : Int) rfl rfl t3 ht3 (fun _ => ⟨by omega, by omega, by omega⟩),
              .k (iv 2),
              .k (iv n3),
              .k (tv t3),
              .k (bv true)] (fun _ _ => by kernel_rfl) fun _ _ G23 => ?_
            intro S23 t23
            have e0 : (2 : Int) = Dm.cuB s := by
              have hct := (Dm.cut_at (s := s) 2 (by omega) (fun j hj => hf3 j (by omega)) (by first | exact q12 | exact Decidable.not_not.1 q12)).trans (congrArg some (Dm.aft_y hne hc3 hlo hup ht3))
              unfold Dm.cuB; rw [hct]; rfl
            have e1 : n3 = Dm.cuE s := by
              have hct := (Dm.cut_at (s := s) 2 (by omega) (fun j hj => hf3 j (by omega)) (by first | exact q12 | exact Decidable.not_not.1 q12)).trans (congrArg some (Dm.aft_y hne hc3 hlo hup ht3))
              unfold Dm.cuE; rw [hct]; first | rfl | (simp only [Option.getD_some]; omega)
            have e2 : t3 = Dm.cuR s := by
              have hct := (Dm.cut_at (s := s) 2 (by omega) (fun j hj => hf3 j (by omega)) (by first | exact q12 | exact Decidable.not_not.1 q12)).trans (congrArg some (Dm.aft_y hne hc3 hlo hup ht3))
              unfold Dm.cuR; rw [hct]; rfl
            have e3 : true = (Dm.cut s).isSome := by
              have hct := (Dm.cut_at (s := s) 2 (by omega) (fun j hj => hf3 j (by omega)) (by first | exact q12 | exact Decidable.not_not.1 q12)).trans (congrArg some (Dm.aft_y hne hc3 hlo hup ht3))
              rw [hct]; rfl
            exact V.ret [0, 0, 0, 0] [] [] [] [] [] (.tuple #[iv 2, iv n3, tv t3, bv true]) (fun _ _ => by kernel_rfl) (fun _ _ => (Eq.trans (by kernel_rfl) (cong4 (fun (x0 : Int) (x1 : Int) (x2 : ByteArray) (x3 : Bool) => (.tuple #[iv x0, iv x1, tv x2, bv x3] : Value)) e0 e1 e2 e3)).trans (by kernel_rfl)) (fun _ _ => trivial)
          · skip
            refine V.go [.k (iv 2),
              .k (tv (Dm.cpR s ⟨#[115]⟩)),
              .k (iv 2),
              .k (iv 1),
              .k (tv (Dm.cpR s ⟨#[115]⟩)),
              .k (bv true)] (fun _ _ => by kernel_rfl) fun _ _ G24 => ?_
            intro S24 t24
            have e0 : (2 : Int) = Dm.cuB s := by
              have hct := (Dm.cut_at (s := s) 2 (by omega) (fun j hj => hf3 j (by omega)) (by first | exact q12 | exact Decidable.not_not.1 q12)).trans (congrArg some (Dm.aft_n hc3 q14))
              unfold Dm.cuB; rw [hct]; rfl
            have e1 : (1 : Int) = Dm.cuE s := by
              have hct := (Dm.cut_at (s := s) 2 (by omega) (fun j hj => hf3 j (by omega)) (by first | exact q12 | exact Decidable.not_not.1 q12)).trans (congrArg some (Dm.aft_n hc3 q14))
              unfold Dm.cuE; rw [hct]; first | rfl | (simp only [Option.getD_some]; omega)
            have e2 : (Dm.cpR s ⟨#[115]⟩) = Dm.cuR s := by
              have hct := (Dm.cut_at (s := s) 2 (by omega) (fun j hj => hf3 j (by omega)) (by first | exact q12 | exact Decidable.not_not.1 q12)).trans (congrArg some (Dm.aft_n hc3 q14))
              unfold Dm.cuR; rw [hct]; rfl
            have e3 : true = (Dm.cut s).isSome := by
              have hct := (Dm.cut_at (s := s) 2 (by omega) (fun j hj => hf3 j (by omega)) (by first | exact q12 | exact Decidable.not_not.1 q12)).trans (congrArg some (Dm.aft_n hc3 q14))
              rw [hct]; rfl
            exact V.ret [0, 0, 0, 0] [] [] [] [] [] (.tuple #[iv 2, iv 1, tv (Dm.cpR s ⟨#[115]⟩), bv true]) (fun _ _ => by kernel_rfl) (fun _ _ => (Eq.trans (by kernel_rfl) (cong4 (fun (x0 : Int) (x1 : Int) (x2 : ByteArray) (x3 : Bool) => (.tuple #[iv x0, iv x1, tv x2, bv x3] : Value)) e0 e1 e2 e3)).trans (by kernel_rfl)) (fun _ _ => trivial)
      · skip
        refine V.alt (fun (zz : Int) => (⟨[(0, tv s), (10, .agg #[tv ⟨#[103]⟩, tv ⟨#[109]⟩, tv ⟨#[115]⟩, tv ⟨#[74]⟩, tv ⟨#[99, 101, 110, 116]⟩, tv ⟨#[112, 99]⟩]), (11, iv zz), (12, bv (decide (k0 < 6)))], [], []⟩ : St)) hcs4 [] (by kernel_rfl) ?_
        refine V.go [.k (iv 3),
          .k (tv ⟨#[74]⟩),
          .k (iv 3),
          .k (tv ⟨#[74]⟩)] (fun _ _ => by kernel_rfl) fun _ _ G25 => ?_
        intro S25 t25
        refine V.go [.k (tv s),
          .k (tv ⟨#[74]⟩),
          .cp g0 2 16 [] (fun _ G => cutp_ct s ⟨#[74]⟩),
          .k (.tuple #[tv (Dm.cpR s ⟨#[74]⟩), bv (decide (Dm.cpB s ⟨#[74]⟩))]),
          .k (tv (Dm.cpR s ⟨#[74]⟩)),
          .k (bv (decide (Dm.cpB s ⟨#[74]⟩))),
          .k (tv (Dm.cpR s ⟨#[74]⟩)),
          .k (bv (decide (Dm.cpB s ⟨#[74]⟩)))] (fun _ _ => by kernel_rfl) fun _ _ G26 => ?_
        intro S26 t26
        refine V.go [.k (bv (decide (Dm.cpB s ⟨#[74]⟩))),
          .k (bv (!(decide (Dm.cpB s ⟨#[74]⟩)))),
          .k (bv (!(decide (Dm.cpB s ⟨#[74]⟩))))] (fun _ _ => by kernel_rfl) fun _ _ G27 => ?_
        intro S27 t27
        refine V.cond (b := !(decide (Dm.cpB s ⟨#[74]⟩))) (iNT iDF) (iNF iDT) (by kernel_rfl) (fun q15 => ?_) (fun q16 => ?_)
        · skip
          refine V.go [.k (iv 4),
            .k (iv 4)] (fun _ _ => by kernel_rfl) fun _ _ G28 => ?_
          intro S28 t28
          refine V.rnd hZ1 4 [] (by kernel_rfl) ?_ ?_
          · skip
            refine ⟨?_, ?_, ?_⟩
            · show 0 ≤ (4 : Int)
              omega
            · show (4 : Int) ≤ 6
              omega
            · show ∀ j : Nat, j < (4 : Int).toNat → ¬ Dm.cpB s (Dm.sy.getD j default)
              exact Dm.upto_succ (P := fun j => ¬ Dm.cpB s (Dm.sy.getD j default)) (n := 3) (by omega) hf3 q15
          · show (6 - (4 : Int)).toNat < (6 - k0).toNat
            omega
        · skip
          refine nm ((bl (Dm.cpR s ⟨#[74]⟩)).getD (0 : Int).toNat default : UInt8) fun c4 hc4 => ?_
          refine nm ((!(decide ((Dm.cpR s ⟨#[74]⟩) = ByteArray.empty))) && (decide (50 ≤ (c4.toNat : Int))) : Bool) fun p4 hp4 => ?_
          refine V.go [.k (tv (Dm.cpR s ⟨#[74]⟩)),
            .sne (Dm.cpR s ⟨#[74]⟩) ByteArray.empty,
            .k (bv (!(decide ((Dm.cpR s ⟨#[74]⟩) = ByteArray.empty)))),
            .k (tv (Dm.cpR s ⟨#[74]⟩)),
            .sid (gT (b := !(decide ((Dm.cpR s ⟨#[74]⟩) = ByteArray.empty))) (iNT iDF)) (Dm.cpR s ⟨#[74]⟩) (0 : Int) c4 hc4 (fun hg => ⟨by omega, by have := Dm.size_ne hg; omega⟩),
            .k (bv (decide (50 ≤ (c4.toNat : Int)))),
            .andn g0 false (!(decide ((Dm.cpR s ⟨#[74]⟩) = ByteArray.empty))) (decide (50 ≤ (c4.toNat : Int))) p4 hp4,
            .k (bv p4),
            .k (tv (Dm.cpR s ⟨#[74]⟩)),
            .sid (gT (b := p4) (iN hp4 (iAT (iNT iDF) iDT))) (Dm.cpR s ⟨#[74]⟩) (0 : Int) c4 hc4 (fun hg => ⟨by omega, by have := Dm.size_ne hg.1; omega⟩),
            .k (bv (decide ((c4.toNat : Int) ≤ 57))),
            .and g0 false p4 (decide ((c4.toNat : Int) ≤ 57)),
            .k (bv (p4 && (decide ((c4.toNat : Int) ≤ 57))))] (fun _ _ => by kernel_rfl) fun _ _ G29 => ?_
          intro S29 t29
          refine V.cond (b := p4 && (decide ((c4.toNat : Int) ≤ 57))) (iAT (iN hp4 (iAT (iNT iDF) iDT)) iDT) (iAF (iN hp4 (iAF (iNF iDT) iDF)) iDF) (by kernel_rfl) (fun q17 => ?_) (fun q18 => ?_)
          · skip
            obtain ⟨⟨hne, hlo⟩, hup⟩ := q17
            have hsz := Dm.size_ne hne
            refine nm ((c4.toNat : Int) - 48 : Int) fun n4 hn4 => ?_
            refine nm ((Dm.cpR s ⟨#[74]⟩).extract (1 : Int).toNat ((Dm.cpR s ⟨#[74]⟩).size : Int).toNat : ByteArray) fun t4 ht4 => ?_
            have ht4n : t4.size = min ((Dm.cpR s ⟨#[74]⟩).size : Int).toNat (Dm.cpR s ⟨#[74]⟩).size - (1 : Int).toNat := by rw [ht4, ByteArray.size_extract]
            refine V.go [.k (iv 3),
              .k (tv (Dm.cpR s ⟨#[74]⟩)),
              .sid g0 (Dm.cpR s ⟨#[74]⟩) (0 : Int) c4 hc4 (fun _ => ⟨by omega, by omega⟩),
              .ek g0 .u8 ((c4.toNat : Int) - 48) n4 (fun _ => by rw [wrapU8]; omega),
              .arg g0 n4 n4 rfl (fun _ => by omega),
              .k (tv (Dm.cpR s ⟨#[74]⟩)),
              .ssl g0 (Dm.cpR s ⟨#[74]⟩) (some (1 : Int)) none 1 ((Dm.cpR s ⟨#[74]⟩).size : Int) rfl rfl t4 ht4 (fun _ => ⟨by omega, by omega, by omega⟩),
              .k (iv 3),
              .k (iv n4),
              .k (tv t4),
              .k (bv true)] (fun _ _ => by kernel_rfl) fun _ _ G30 => ?_
            intro S30 t30
            have e0 : (3 : Int) = Dm.cuB s := by
              have hct := (Dm.cut_at (s := s) 3 (by omega) (fun j hj => hf3 j (by omega)) (by first | exact q16 | exact Decidable.not_not.1 q16)).trans (congrArg some (Dm.aft_y hne hc4 hlo hup ht4))
              unfold Dm.cuB; rw [hct]; rfl
            have e1 : n4 = Dm.cuE s := by
              have hct := (Dm.cut_at (s := s) 3 (by omega) (fun j hj => hf3 j (by omega)) (by first | exact q16 | exact Decidable.not_not.1 q16)).trans (congrArg some (Dm.aft_y hne hc4 hlo hup ht4))
              unfold Dm.cuE; rw [hct]; first | rfl | (simp only [Option.getD_some]; omega)
            have e2 : t4 = Dm.cuR s := by
              have hct := (Dm.cut_at (s := s) 3 (by omega) (fun j hj => hf3 j (by omega)) (by first | exact q16 | exact Decidable.not_not.1 q16)).trans (congrArg some (Dm.aft_y hne hc4 hlo hup ht4))
              unfold Dm.cuR; rw [hct]; rfl
            have e3 : true = (Dm.cut s).isSome := by
              have hct := (Dm.cut_at (s := s) 3 (by omega) (fun j hj => hf3 j (by omega)) (by first | exact q16 | exact Decidable.not_not.1 q16)).trans (congrArg some (Dm.aft_y hne hc4 hlo hup ht4))
              rw [hct]; rfl
            exact V.ret [0, 0, 0, 0] [] [] [] [] [] (.tuple #[iv 3, iv n4, tv t4, bv true]) (fun _ _ => by kernel_rfl) (fun _ _ => (Eq.trans (by kernel_rfl) (cong4 (fun (x0 : Int) (x1 : Int) (x2 : ByteArray) (x3 : Bool) => (.tuple #[iv x0, iv x1, tv x2, bv x3] : Value)) e0 e1 e2 e3)).trans (by kernel_rfl)) (fun _ _ => trivial)
          · skip
            refine V.go [.k (iv 3),
              .k (tv (Dm.cpR s ⟨#[74]⟩)),
              .k (iv 3),
              .k (iv 1),
              .k (tv (Dm.cpR s ⟨#[74]⟩)),
              .k (bv true)] (fun _ _ => by kernel_rfl) fun _ _ G31 => ?_
            intro S31 t31
            have e0 : (3 : Int) = Dm.cuB s := by
              have hct := (Dm.cut_at (s := s) 3 (by omega) (fun j hj => hf3 j (by omega)) (by first | exact q16 | exact Decidable.not_not.1 q16)).trans (congrArg some (Dm.aft_n hc4 q18))
              unfold Dm.cuB; rw [hct]; rfl
            have e1 : (1 : Int) = Dm.cuE s := by
              have hct := (Dm.cut_at (s := s) 3 (by omega) (fun j hj => hf3 j (by omega)) (by first | exact q16 | exact Decidable.not_not.1 q16)).trans (congrArg some (Dm.aft_n hc4 q18))
              unfold Dm.cuE; rw [hct]; first | rfl | (simp only [Option.getD_some]; omega)
            have e2 : (Dm.cpR s ⟨#[74]⟩) = Dm.cuR s := by
              have hct := (Dm.cut_at (s := s) 3 (by omega) (fun j hj => hf3 j (by omega)) (by first | exact q16 | exact Decidable.not_not.1 q16)).trans (congrArg some (Dm.aft_n hc4 q18))
              unfold Dm.cuR; rw [hct]; rfl
            have e3 : true = (Dm.cut s).isSome := by
              have hct := (Dm.cut_at (s := s) 3 (by omega) (fun j hj => hf3 j (by omega)) (by first | exact q16 | exact Decidable.not_not.1 q16)).trans (congrArg some (Dm.aft_n hc4 q18))
              rw [hct]; rfl
            exact V.ret [0, 0, 0, 0] [] [] [] [] [] (.tuple #[iv 3, iv 1, tv (Dm.cpR s ⟨#[74]⟩), bv true]) (fun _ _ => by kernel_rfl) (fun _ _ => (Eq.trans (by kernel_rfl) (cong4 (fun (x0 : Int) (x1 : Int) (x2 : ByteArray) (x3 : Bool) => (.tuple #[iv x0, iv x1, tv x2, bv x3] : Value)) e0 e1 e2 e3)).trans (by kernel_rfl)) (fun _ _ => trivial)
      · skip
        refine V.alt (fun (zz : Int) => (⟨[(0, tv s), (10, .agg #[tv ⟨#[103]⟩, tv ⟨#[109]⟩, tv ⟨#[115]⟩, tv ⟨#[74]⟩, tv ⟨#[99, 101, 110, 116]⟩, tv ⟨#[112, 99]⟩]), (11, iv zz), (12, bv (decide (k0 < 6)))], [], []⟩ : St)) hcs5 [] (by kernel_rfl) ?_
        refine V.go [.k (iv 4),
          .k (tv ⟨#[99, 101, 110, 116]⟩),
          .k (iv 4),
          .k (tv ⟨#[99, 101, 110, 116]⟩)] (fun _ _ => by kernel_rfl) fun _ _ G32 => ?_
        intro S32 t32
        refine V.go [.k (tv s),
          .k (tv ⟨#[99, 101, 110, 116]⟩),
          .cp g0 2 16 [] (fun _ G => cutp_ct s ⟨#[99, 101, 110, 116]⟩),
          .k (.tuple #[tv (Dm.cpR s ⟨#[99, 101, 110, 116]⟩), bv (decide (Dm.cpB s ⟨#[99, 101, 110, 116]⟩))]),
          .k (tv (Dm.cpR s ⟨#[99, 101, 110, 116]⟩)),
          .k (bv (decide (Dm.cpB s ⟨#[99, 101, 110, 116]⟩))),
          .k (tv (Dm.cpR s ⟨#[99, 101, 110, 116]⟩)),
          .k (bv (decide (Dm.cpB s ⟨#[99, 101, 110, 116]⟩)))] (fun _ _ => by kernel_rfl) fun _ _ G33 => ?_
        intro S33 t33
        refine V.go [.k (bv (decide (Dm.cpB s ⟨#[99, 101, 110, 116]⟩))),
          .k (bv (!(decide (Dm.cpB s ⟨#[99, 101, 110, 116]⟩)))),
          .k (bv (!(decide (Dm.cpB s ⟨#[99, 101, 110, 116]⟩))))] (fun _ _ => by kernel_rfl) fun _ _ G34 => ?_
        intro S34 t34
        refine V.cond (b := !(decide (Dm.cpB s ⟨#[99, 101, 110, 116]⟩))) (iNT iDF) (iNF iDT) (by kernel_rfl) (fun q19 => ?_) (fun q20 => ?_)
        · skip
          refine V.go [.k (iv 5),
            .k (iv 5)] (fun _ _ => by kernel_rfl) fun _ _ G35 => ?_
          intro S35 t35
          refine V.rnd hZ1 5 [] (by kernel_rfl) ?_ ?_
          · skip
            refine ⟨?_, ?_, ?_⟩
            · show 0 ≤ (5 : Int)
              omega
            · show (5 : Int) ≤ 6
              omega
            · show ∀ j : Nat, j < (5 : Int).toNat → ¬ Dm.cpB s (Dm.sy.getD j default)
              exact Dm.upto_succ (P := fun j => ¬ Dm.cpB s (Dm.sy.getD j default)) (n := 4) (by omega) hf3 q19
          · show (6 - (5 : Int)).toNat < (6 - k0).toNat
            omega
        · skip
          refine nm ((bl (Dm.cpR s ⟨#[99, 101, 110, 116]⟩)).getD (0 : Int).toNat default : UInt8) fun c5 hc5 => ?_
          refine nm ((!(decide ((Dm.cpR s ⟨#[99, 101, 110, 116]⟩) = ByteArray.empty))) && (decide (50 ≤ (c5.toNat : Int))) : Bool) fun p5 hp5 => ?_
          refine V.go [.k (tv (Dm.cpR s ⟨#[99, 101, 110, 116]⟩)),
            .sne (Dm.cpR s ⟨#[99, 101, 110, 116]⟩) ByteArray.empty,
            .k (bv (!(decide ((Dm.cpR s ⟨#[99, 101, 110, 116]⟩) = ByteArray.empty)))),
            .k (tv (Dm.cpR s ⟨#[99, 101, 110, 116]⟩)),
            .sid (gT (b := !(decide ((Dm.cpR s ⟨#[99, 101, 110, 116]⟩) = ByteArray.empty))) (iNT iDF)) (Dm.cpR s ⟨#[99, 101, 110, 116]⟩) (0 : Int) c5 hc5 (fun hg => ⟨by omega, by have := Dm.size_ne hg; omega⟩),
            .k (bv (decide (50 ≤ (c5.toNat : Int)))),
            .andn g0 false (!(decide ((Dm.cpR s ⟨#[99, 101, 110, 116]⟩) = ByteArray.empty))) (decide (50 ≤ (c5.toNat : Int))) p5 hp5,
            .k (bv p5),
            .k (tv (Dm.cpR s ⟨#[99, 101, 110, 116]⟩)),
            .sid (gT (b := p5) (iN hp5 (iAT (iNT iDF) iDT))) (Dm.cpR s ⟨#[99, 101, 110, 116]⟩) (0 : Int) c5 hc5 (fun hg => ⟨by omega, by have := Dm.size_ne hg.1; omega⟩),
            .k (bv (decide ((c5.toNat : Int) ≤ 57))),
            .and g0 false p5 (decide ((c5.toNat : Int) ≤ 57)),
            .k (bv (p5 && (decide ((c5.toNat : Int) ≤ 57))))] (fun _ _ => by kernel_rfl) fun _ _ G36 => ?_
          intro S36 t36
          refine V.cond (b := p5 && (decide ((c5.toNat : Int) ≤ 57))) (iAT (iN hp5 (iAT (iNT iDF) iDT)) iDT) (iAF (iN hp5 (iAF (iNF iDT) iDF)) iDF) (by kernel_rfl) (fun q21 => ?_) (fun q22 => ?_)
          · skip
            obtain ⟨⟨hne, hlo⟩, hup⟩ := q21
            have hsz := Dm.size_ne hne
            refine nm ((c5.toNat : Int) - 48 : Int) fun n5 hn5 => ?_
            refine nm ((Dm.cpR s ⟨#[99, 101, 110, 116]⟩).extract (1 : Int).toNat ((Dm.cpR s ⟨#[99, 101, 110, 116]⟩).size : Int).toNat : ByteArray) fun t5 ht5 => ?_
            have ht5n : t5.size = min ((Dm.cpR s ⟨#[99, 101, 110, 116]⟩).size : Int).toNat (Dm.cpR s ⟨#[99, 101, 110, 116]⟩).size - (1 : Int).toNat := by rw [ht5, ByteArray.size_extract]
            refine V.go [.k (iv 4),
              .k (tv (Dm.cpR s ⟨#[99, 101, 110, 116]⟩)),
              .sid g0 (Dm.cpR s ⟨#[99, 101, 110, 116]⟩) (0 : Int) c5 hc5 (fun _ => ⟨by omega, by omega⟩),
              .ek g0 .u8 ((c5.toNat : Int) - 48) n5 (fun _ => by rw [wrapU8]; omega),
              .arg g0 n5 n5 rfl (fun _ => by omega),
              .k (tv (Dm.cpR s ⟨#[99, 101, 110, 116]⟩)),
              .ssl g0 (Dm.cpR s ⟨#[99, 101, 110, 116]⟩) (some (1 : Int)) none 1 ((Dm.cpR s ⟨#[99, 101, 110, 116]⟩).size : Int) rfl rfl t5 ht5 (fun _ => ⟨by omega, by omega, by omega⟩),
              .k (iv 4),
              .k (iv n5),
              .k (tv t5),
              .k (bv true)] (fun _ _ => by kernel_rfl) fun _ _ G37 => ?_
            intro S37 t37
            have e0 : (4 : Int) = Dm.cuB s := by
              have hct := (Dm.cut_at (s := s) 4 (by omega) (fun j hj => hf3 j (by omega)) (by first | exact q20 | exact Decidable.not_not.1 q20)).trans (congrArg some (Dm.aft_y hne hc5 hlo hup ht5))
              unfold Dm.cuB; rw [hct]; rfl
            have e1 : n5 = Dm.cuE s := by
              have hct := (Dm.cut_at (s := s) 4 (by omega) (fun j hj => hf3 j (by omega)) (by first | exact q20 | exact Decidable.not_not.1 q20)).trans (congrArg some (Dm.aft_y hne hc5 hlo hup ht5))
              unfold Dm.cuE; rw [hct]; first | rfl | (simp only [Option.getD_some]; omega)
            have e2 : t5 = Dm.cuR s := by
              have hct := (Dm.cut_at (s := s) 4 (by omega) (fun j hj => hf3 j (by omega)) (by first | exact q20 | exact Decidable.not_not.1 q20)).trans (congrArg some (Dm.aft_y hne hc5 hlo hup ht5))
              unfold Dm.cuR; rw [hct]; rfl
            have e3 : true = (Dm.cut s).isSome := by
              have hct := (Dm.cut_at (s := s) 4 (by omega) (fun j hj => hf3 j (by omega)) (by first | exact q20 | exact Decidable.not_not.1 q20)).trans (congrArg some (Dm.aft_y hne hc5 hlo hup ht5))
              rw [hct]; rfl
            exact V.ret [0, 0, 0, 0] [] [] [] [] [] (.tuple #[iv 4, iv n5, tv t5, bv true]) (fun _ _ => by kernel_rfl) (fun _ _ => (Eq.trans (by kernel_rfl) (cong4 (fun (x0 : Int) (x1 : Int) (x2 : ByteArray) (x3 : Bool) => (.tuple #[iv x0, iv x1, tv x2, bv x3] : Value)) e0 e1 e2 e3)).trans (by kernel_rfl)) (fun _ _ => trivial)
          · skip
            refine V.go [.k (iv 4),
              .k (tv (Dm.cpR s ⟨#[99, 101, 110, 116]⟩)),
              .k (iv 4),
              .k (iv 1),
              .k (tv (Dm.cpR s ⟨#[99, 101, 110, 116]⟩)),
              .k (bv true)] (fun _ _ => by kernel_rfl) fun _ _ G38 => ?_
            intro S38 t38
            have e0 : (4 : Int) = Dm.cuB s := by
              have hct := (Dm.cut_at (s := s) 4 (by omega) (fun j hj => hf3 j (by omega)) (by first | exact q20 | exact Decidable.not_not.1 q20)).trans (congrArg some (Dm.aft_n hc5 q22))
              unfold Dm.cuB; rw [hct]; rfl
            have e1 : (1 : Int) = Dm.cuE s := by
              have hct := (Dm.cut_at (s := s) 4 (by omega) (fun j hj => hf3 j (by omega)) (by first | exact q20 | exact Decidable.not_not.1 q20)).trans (congrArg some (Dm.aft_n hc5 q22))
              unfold Dm.cuE; rw [hct]; first | rfl | (simp only [Option.getD_some]; omega)
            have e2 : (Dm.cpR s ⟨#[99, 101, 110, 116]⟩) = Dm.cuR s := by
              have hct := (Dm.cut_at (s := s) 4 (by omega) (fun j hj => hf3 j (by omega)) (by first | exact q20 | exact Decidable.not_not.1 q20)).trans (congrArg some (Dm.aft_n hc5 q22))
              unfold Dm.cuR; rw [hct]; rfl
            have e3 : true = (Dm.cut s).isSome := by
              have hct := (Dm.cut_at (s := s) 4 (by omega) (fun j hj => hf3 j (by omega)) (by first | exact q20 | exact Decidable.not_not.1 q20)).trans (congrArg some (Dm.aft_n hc5 q22))
              rw [hct]; rfl
            exact V.ret [0, 0, 0, 0] [] [] [] [] [] (.tuple #[iv 4, iv 1, tv (Dm.cpR s ⟨#[99, 101, 110, 116]⟩), bv true]) (fun _ _ => by kernel_rfl) (fun _ _ => (Eq.trans (by kernel_rfl) (cong4 (fun (x0 : Int) (x1 : Int) (x2 : ByteArray) (x3 : Bool) => (.tuple #[iv x0, iv x1, tv x2, bv x3] : Value)) e0 e1 e2 e3)).trans (by kernel_rfl)) (fun _ _ => trivial)
      · skip
        refine V.alt (fun (zz : Int) => (⟨[(0, tv s), (10, .agg #[tv ⟨#[103]⟩, tv ⟨#[109]⟩, tv ⟨#[115]⟩, tv ⟨#[74]⟩, tv ⟨#[99, 101, 110, 116]⟩, tv ⟨#[112, 99]⟩]), (11, iv zz), (12, bv (decide (k0 < 6)))], [], []⟩ : St)) hcs6 [] (by kernel_rfl) ?_
        refine V.go [.k (iv 5),
          .k (tv ⟨#[112, 99]⟩),
          .k (iv 5),
          .k (tv ⟨#[112, 99]⟩)] (fun _ _ => by kernel_rfl) fun _ _ G39 => ?_
        intro S39 t39
        refine V.go [.k (tv s),
          .k (tv ⟨#[112, 99]⟩),
          .cp g0 2 16 [] (fun _ G => cutp_ct s ⟨#[112, 99]⟩),
          .k (.tuple #[tv (Dm.cpR s ⟨#[112, 99]⟩), bv (decide (Dm.cpB s ⟨#[112, 99]⟩))]),
          .k (tv (Dm.cpR s ⟨#[112, 99]⟩)),
          .k (bv (decide (Dm.cpB s ⟨#[112, 99]⟩))),
          .k (tv (Dm.cpR s ⟨#[112, 99]⟩)),
          .k (bv (decide (Dm.cpB s ⟨#[112, 99]⟩)))] (fun _ _ => by kernel_rfl) fun _ _ G40 => ?_
        intro S40 t40
        refine V.go [.k (bv (decide (Dm.cpB s ⟨#[112, 99]⟩))),
          .k (bv (!(decide (Dm.cpB s ⟨#[112, 99]⟩)))),
          .k (bv (!(decide (Dm.cpB s ⟨#[112, 99]⟩))))] (fun _ _ => by kernel_rfl) fun _ _ G41 => ?_
        intro S41 t41
        refine V.cond (b := !(decide (Dm.cpB s ⟨#[112, 99]⟩))) (iNT iDF) (iNF iDT) (by kernel_rfl) (fun q23 => ?_) (fun q24 => ?_)
        · skip
          refine V.go [.k (iv 6),
            .k (iv 6)] (fun _ _ => by kernel_rfl) fun _ _ G42 => ?_
          intro S42 t42
          refine V.rnd hZ1 6 [] (by kernel_rfl) ?_ ?_
          · skip
            refine ⟨?_, ?_, ?_⟩
            · show 0 ≤ (6 : Int)
              omega
            · show (6 : Int) ≤ 6
              omega
            · show ∀ j : Nat, j < (6 : Int).toNat → ¬ Dm.cpB s (Dm.sy.getD j default)
              exact Dm.upto_succ (P := fun j => ¬ Dm.cpB s (Dm.sy.getD j default)) (n := 5) (by omega) hf3 q23
          · show (6 - (6 : Int)).toNat < (6 - k0).toNat
            omega
        · skip
          refine nm ((bl (Dm.cpR s ⟨#[112, 99]⟩)).getD (0 : Int).toNat default : UInt8) fun c6 hc6 => ?_
          refine nm ((!(decide ((Dm.cpR s ⟨#[112, 99]⟩) = ByteArray.empty))) && (decide (50 ≤ (c6.toNat : Int))) : Bool) fun p6 hp6 => ?_
          refine V.go [.k (tv (Dm.cpR s ⟨#[112, 99]⟩)),
            .sne (Dm.cpR s ⟨#[112, 99]⟩) ByteArray.empty,
            .k (bv (!(decide ((Dm.cpR s ⟨#[112, 99]⟩) = ByteArray.empty)))),
            .k (tv (Dm.cpR s ⟨#[112, 99]⟩)),
            .sid (gT (b := !(decide ((Dm.cpR s ⟨#[112, 99]⟩) = ByteArray.empty))) (iNT iDF)) (Dm.cpR s ⟨#[112, 99]⟩) (0 : Int) c6 hc6 (fun hg => ⟨by omega, by have := Dm.size_ne hg; omega⟩),
            .k (bv (decide (50 ≤ (c6.toNat : Int)))),
            .andn g0 false (!(decide ((Dm.cpR s ⟨#[112, 99]⟩) = ByteArray.empty))) (decide (50 ≤ (c6.toNat : Int))) p6 hp6,
            .k (bv p6),
            .k (tv (Dm.cpR s ⟨#[112, 99]⟩)),
            .sid (gT (b := p6) (iN hp6 (iAT (iNT iDF) iDT))) (Dm.cpR s ⟨#[112, 99]⟩) (0 : Int) c6 hc6 (fun hg => ⟨by omega, by have := Dm.size_ne hg.1; omega⟩),
            .k (bv (decide ((c6.toNat : Int) ≤ 57))),
            .and g0 false p6 (decide ((c6.toNat : Int) ≤ 57)),
            .k (bv (p6 && (decide ((c6.toNat : Int) ≤ 57))))] (fun _ _ => by kernel_rfl) fun _ _ G43 => ?_
          intro S43 t43
          refine V.cond (b := p6 && (decide ((c6.toNat : Int) ≤ 57))) (iAT (iN hp6 (iAT (iNT iDF) iDT)) iDT) (iAF (iN hp6 (iAF (iNF iDT) iDF)) iDF) (by kernel_rfl) (fun q25 => ?_) (fun q26 => ?_)
          · skip
            obtain ⟨⟨hne, hlo⟩, hup⟩ := q25
            have hsz := Dm.size_ne hne
            refine nm ((c6.toNat : Int) - 48 : Int) fun n6 hn6 => ?_
            refine nm ((Dm.cpR s ⟨#[112, 99]⟩).extract (1 : Int).toNat ((Dm.cpR s ⟨#[112, 99]⟩).size : Int).toNat : ByteArray) fun t6 ht6 => ?_
            have ht6n : t6.size = min ((Dm.cpR s ⟨#[112, 99]⟩).size : Int).toNat (Dm.cpR s ⟨#[112, 99]⟩).size - (1 : Int).toNat := by rw [ht6, ByteArray.size_extract]
            refine V.go [.k (iv 5),
              .k (tv (Dm.cpR s ⟨#[112, 99]⟩)),
              .sid g0 (Dm.cpR s ⟨#[112, 99]⟩) (0 : Int) c6 hc6 (fun _ => ⟨by omega, by omega⟩),
              .ek g0 .u8 ((c6.toNat : Int) - 48) n6 (fun _ => by rw [wrapU8]; omega),
              .arg g0 n6 n6 rfl (fun _ => by omega),
              .k (tv (Dm.cpR s ⟨#[112, 99]⟩)),
              .ssl g0 (Dm.cpR s ⟨#[112, 99]⟩) (some (1 : Int)) none 1 ((Dm.cpR s ⟨#[112, 99]⟩).size : Int) rfl rfl t6 ht6 (fun _ => ⟨by omega, by omega, by omega⟩),
              .k (iv 5),
              .k (iv n6),
              .k (tv t6),
              .k (bv true)] (fun _ _ => by kernel_rfl) fun _ _ G44 => ?_
            intro S44 t44
            have e0 : (5 : Int) = Dm.cuB s := by
              have hct := (Dm.cut_at (s := s) 5 (by omega) (fun j hj => hf3 j (by omega)) (by first | exact q24 | exact Decidable.not_not.1 q24)).trans (congrArg some (Dm.aft_y hne hc6 hlo hup ht6))
              unfold Dm.cuB; rw [hct]; rfl
            have e1 : n6 = Dm.cuE s := by
              have hct := (Dm.cut_at (s := s) 5 (by omega) (fun j hj => hf3 j (by omega)) (by first | exact q24 | exact Decidable.not_not.1 q24)).trans (congrArg some (Dm.aft_y hne hc6 hlo hup ht6))
              unfold Dm.cuE; rw [hct]; first | rfl | (simp only [Option.getD_some]; omega)
            have e2 : t6 = Dm.cuR s := by
              have hct := (Dm.cut_at (s := s) 5 (by omega) (fun j hj => hf3 j (by omega)) (by first | exact q24 | exact Decidable.not_not.1 q24)).trans (congrArg some (Dm.aft_y hne hc6 hlo hup ht6))
              unfold Dm.cuR; rw [hct]; rfl
            have e3 : true = (Dm.cut s).isSome := by
              have hct := (Dm.cut_at (s := s) 5 (by omega) (fun j hj => hf3 j (by omega)) (by first | exact q24 | exact Decidable.not_not.1 q24)).trans (congrArg some (Dm.aft_y hne hc6 hlo hup ht6))
              rw [hct]; rfl
            exact V.ret [0, 0, 0, 0] [] [] [] [] [] (.tuple #[iv 5, iv n6, tv t6, bv true]) (fun _ _ => by kernel_rfl) (fun _ _ => (Eq.trans (by kernel_rfl) (cong4 (fun (x0 : Int) (x1 : Int) (x2 : ByteArray) (x3 : Bool) => (.tuple #[iv x0, iv x1, tv x2, bv x3] : Value)) e0 e1 e2 e3)).trans (by kernel_rfl)) (fun _ _ => trivial)
          · skip
            refine V.go [.k (iv 5),
              .k (tv (Dm.cpR s ⟨#[112, 99]⟩)),
              .k (iv 5),
              .k (iv 1),
              .k (tv (Dm.cpR s ⟨#[112, 99]⟩)),
              .k (bv true)] (fun _ _ => by kernel_rfl) fun _ _ G45 => ?_
            intro S45 t45
            have e0 : (5 : Int) = Dm.cuB s := by
              have hct := (Dm.cut_at (s := s) 5 (by omega) (fun j hj => hf3 j (by omega)) (by first | exact q24 | exact Decidable.not_not.1 q24)).trans (congrArg some (Dm.aft_n hc6 q26))
              unfold Dm.cuB; rw [hct]; rfl
            have e1 : (1 : Int) = Dm.cuE s := by
              have hct := (Dm.cut_at (s := s) 5 (by omega) (fun j hj => hf3 j (by omega)) (by first | exact q24 | exact Decidable.not_not.1 q24)).trans (congrArg some (Dm.aft_n hc6 q26))
              unfold Dm.cuE; rw [hct]; first | rfl | (simp only [Option.getD_some]; omega)
            have e2 : (Dm.cpR s ⟨#[112, 99]⟩) = Dm.cuR s := by
              have hct := (Dm.cut_at (s := s) 5 (by omega) (fun j hj => hf3 j (by omega)) (by first | exact q24 | exact Decidable.not_not.1 q24)).trans (congrArg some (Dm.aft_n hc6 q26))
              unfold Dm.cuR; rw [hct]; rfl
            have e3 : true = (Dm.cut s).isSome := by
              have hct := (Dm.cut_at (s := s) 5 (by omega) (fun j hj => hf3 j (by omega)) (by first | exact q24 | exact Decidable.not_not.1 q24)).trans (congrArg some (Dm.aft_n hc6 q26))
              rw [hct]; rfl
            exact V.ret [0, 0, 0, 0] [] [] [] [] [] (.tuple #[iv 5, iv 1, tv (Dm.cpR s ⟨#[112, 99]⟩), bv true]) (fun _ _ => by kernel_rfl) (fun _ _ => (Eq.trans (by kernel_rfl) (cong4 (fun (x0 : Int) (x1 : Int) (x2 : ByteArray) (x3 : Bool) => (.tuple #[iv x0, iv x1, tv x2, bv x3] : Value)) e0 e1 e2 e3)).trans (by kernel_rfl)) (fun _ _ => trivial)
    · skip
      refine V.go [.k (iv 0),
        .k (iv 0),
        .k (tv ByteArray.empty),
        .k (bv false)] (fun _ _ => by kernel_rfl) fun _ _ G46 => ?_
      intro S46 t46
      have e0 : (0 : Int) = Dm.cuB s := by
        have hct : Dm.cut s = none := Dm.cut_no fun j hj => hf3 j (by omega)
        unfold Dm.cuB; rw [hct]; rfl
      have e1 : (0 : Int) = Dm.cuE s := by
        have hct : Dm.cut s = none := Dm.cut_no fun j hj => hf3 j (by omega)
        unfold Dm.cuE; rw [hct]; first | rfl | (simp only [Option.getD_some]; omega)
      have e2 : ByteArray.empty = Dm.cuR s := by
        have hct : Dm.cut s = none := Dm.cut_no fun j hj => hf3 j (by omega)
        unfold Dm.cuR; rw [hct]; rfl
      have e3 : false = (Dm.cut s).isSome := by
        have hct : Dm.cut s = none := Dm.cut_no fun j hj => hf3 j (by omega)
        rw [hct]; rfl
      exact V.ret [0, 0, 0, 0] [] [] [] [] [] (.tuple #[iv 0, iv 0, tv ByteArray.empty, bv false]) (fun _ _ => by kernel_rfl) (fun _ _ => (Eq.trans (by kernel_rfl) (cong4 (fun (x0 : Int) (x1 : Int) (x2 : ByteArray) (x3 : Bool) => (.tuple #[iv x0, iv x1, tv x2, bv x3] : Value)) e0 e1 e2 e3)).trans (by kernel_rfl)) (fun _ _ => trivial)

end Kb
