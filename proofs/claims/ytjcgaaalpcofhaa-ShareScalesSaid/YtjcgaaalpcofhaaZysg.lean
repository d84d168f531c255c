/- Texts for the claim, put together (part 7 of 7): contracts of the functions that the law reaches. -/
import Derived.Test.YtjcgaaalpcofhaaZysf
import Derived.Test.YtjcgaaalpcofhaaZysa
import Derived.ChangeSame
import Derived.Test.YtjcgaaalpcofhaaZysb
import Derived.ChangeArms
import Derived.WideKeyArgs
import Derived.Carry
import Derived.OpenShut
import Derived.Test.YtjcgaaalpcofhaaZysc
import Derived.Test.YtjcgaaalpcofhaaChecked
set_option linter.unusedVariables false
set_option linter.unusedSectionVars false
set_option linter.unusedSimpArgs false
namespace Kb
open Go Go.Proofs
set_option maxRecDepth 10000 in
theorem scales_ct (weights : List DFrac) (weightss : SV) (p q turn : Int) (hp : 0 ≤ p ∧ p ≤ 65535) (hq : 0 ≤ q ∧ q ≤ 65535) (ht : 0 ≤ turn ∧ turn ≤ 255) :
    Cp Try.prog 3 #[weightss.v, .int .u16 p, .int .u16 q, .int .u8 turn] [fs true weights weightss] (bv true) := by
  refine V.fn mo Try.func3 202 8 (by kernel_rfl) fun w H ε k0 => ?_
  obtain ⟨⟨kl1, -⟩, -⟩ : Lq weights weightss.v ∧ True := kn k0 (by kernel_rfl)
  clear k0
  refine V.go [.kb false] (fun _ _ => by kernel_rfl) fun _ _ G1 => ?_
  intro S1 t1
  refine V.go [.cp g0 0 8 [] (fun _ G => sane30_ct ),
    .kb true] (fun _ _ => by kernel_rfl) fun _ _ G2 => ?_
  intro S2 t2
  refine nm ((!(decide (Fr.few30 weights))) || (decide (p = 0)) : Bool) fun p1 hp1 => ?_
  refine nm ((p1 || (decide (q = 0))) || (decide ((weights.length : Int) = 0)) : Bool) fun p2 hp2 => ?_
  refine V.go [.k (weightss.v),
    .cp g0 1 9 [(kf false (.f 0) weights (fun _ => weightss)).a] (fun _ G => few30_ct weights weightss),
    .k (bv (!(decide (Fr.few30 weights)))),
    .k (bv (!(decide (Fr.few30 weights)))),
    .k (.int .u16 p),
    .k (bv (decide (p = 0))),
    .orn g0 false (!(decide (Fr.few30 weights))) (decide (p = 0)) p1 hp1,
    .k (bv p1),
    .k (.int .u16 q),
    .k (bv (decide (q = 0))),
    .or g0 false p1 (decide (q = 0)),
    .k (bv (p1 || (decide (q = 0)))),
    .k (weightss.v),
    .ln (kf false (.f 0) weights (fun _ => weightss)),
    .k (bv (decide ((weights.length : Int) = 0))),
    .orn g0 false (p1 || (decide (q = 0))) (decide ((weights.length : Int) = 0)) p2 hp2] (fun _ _ => by kernel_rfl) fun _ _ G3 => ?_
  intro S3 t3
  refine V.cond (b := p2) (iN hp2 (iOT (iOT (iN hp1 (iOT (iNT iDF) iDT)) iDT) iDT)) (iN hp2 (iOF (iOF (iN hp1 (iOF (iNF iDT) iDF)) iDF) iDF)) (by kernel_rfl) (fun q1 => ?_) (fun q2 => ?_)
  · skip
    refine V.go [.kb true,
      .kb true] (fun _ _ => by kernel_rfl) fun _ _ G4 => ?_
    intro S4 t4
    exact V.ret [0] [] [] [] [] [] (bv true) (fun _ _ => by kernel_rfl) (fun _ _ => by kernel_rfl) (fun _ _ => trivial)
  · skip
    have hF : Fr.few30 weights := by have hqq := q2; first | exact hqq | exact Decidable.not_not.1 hqq | exact hqq.1 | exact Decidable.not_not.1 hqq.1 | exact hqq.1.1 | exact Decidable.not_not.1 hqq.1.1 | exact hqq.1.1.1 | exact Decidable.not_not.1 hqq.1.1.1
    obtain ⟨⟨⟨_, hp0⟩, hq0⟩, hl0⟩ := q2
    have hr := Fr.divInt_pos (p := p) (q := q) (by omega) (by omega)
    have hF20 := hF.1
    refine nm (Fr.shE weights : Int) fun n1 hn1 => ?_
    refine V.reg [.k (weightss.v),
      .ct g0 1 10 false [] [] [(kf false (.f 0) weights (fun _ => weightss)).a] (fun _ G => shares_ctv weights weightss (Fr.few30_wb hF) n1 hn1),
      .v fun G => .tuple #[((G 1).ss 0).v, iv n1],
      .v fun G => ((G 1).ss 0).v,
      .k (iv n1),
      .v fun G => ((G 1).ss 0).v,
      .k (iv n1)] (fun _ _ => by kernel_rfl) fun _ _ G5 kw5 => ?_
    intro S5 t5
    obtain ⟨⟨kl2, -⟩, -⟩ : Lq (Fr.frs (Fr.shQ weights) ((G5 1).sl 0)) (((G5 1).ss 0).v) ∧ True := kn kw5 (by kernel_rfl)
    clear kw5
    refine V.go [.nl 0 0 true 33 ([] : List DFrac) [] (fun _ _ h => (List.forall_mem_nil _)) (fun _ => #[]),
      .v fun G => SV.v ⟨atB (G 0).b, 0, 0⟩] (fun _ _ => by kernel_rfl) fun _ _ G6 => ?_
    intro S6 t6
    refine V.go [.k (iv 0)] (fun _ _ => by kernel_rfl) fun _ _ G7 => ?_
    intro S7 t7
    refine V.loop (γ := List DFrac × SV × Int) (fun ⟨scaled, scaleds, i⟩ => ⟨[(0, weightss.v), (1, .int .u16 p), (2, .int .u16 q), (3, .int .u8 turn), (9, bv true), (10, ((G5 1).ss 0).v), (11, iv n1), (12, scaleds.v), (13, iv i)], [fs false weights weightss, fs true (Fr.frs (Fr.shQ weights) ((G5 1).sl 0)) ((G5 1).ss 0)], [os true 33 scaled scaleds, .no, .no, .no, .no, .no, .no, .no]⟩) (fun ⟨scaled, scaleds, i⟩ => (0 ≤ i) ∧ (i ≤ (weights.length : Int)) ∧ (0 ≤ i) ∧ (i ≤ (weights.length : Int)) ∧ (Fr.SclL (Rat.divInt p q) (weights.take i.toNat) scaled)) (fun ⟨scaled, scaleds, i⟩ => ((weights.length : Int) - i).toNat) (([] : List DFrac), ⟨atB (G6 0).b, 0, 0⟩, 0) (by kernel_rfl) [0, 1] (by kernel_rfl) ?_ ?_
    · skip
      refine ⟨?_, ?_, ?_, ?_, ?_⟩
      · show 0 ≤ (0 : Int)
        first | omega | rfl | (simp; done) | (subst_vars; simp; done)
      · show (0 : Int) ≤ (weights.length : Int)
        first | omega | rfl | (simp; done) | (subst_vars; simp; done)
      · show 0 ≤ (0 : Int)
        omega
      · show (0 : Int) ≤ (weights.length : Int)
        omega
      · show Fr.SclL (Rat.divInt p q) (weights.take (0 : Int).toNat) ([] : List DFrac)
        exact trivial
    · rintro ⟨scaled, scaleds, i⟩ hF1 kw8 Z1 hZ1
      have hF1 : (0 ≤ i) ∧ (i ≤ (weights.length : Int)) ∧ (0 ≤ i) ∧ (i ≤ (weights.length : Int)) ∧ (Fr.SclL (Rat.divInt p q) (weights.take i.toNat) scaled) := hF1
      obtain ⟨hf1, hf2, hf3, hf4, hf5⟩ := hF1
      obtain ⟨-, -, ⟨kl3, -⟩, -⟩ : Lq weights weightss.v ∧ Lq (Fr.frs (Fr.shQ weights) ((G5 1).sl 0)) (((G5 1).ss 0).v) ∧ Lq scaled scaleds.v ∧ True := kn kw8 (by kernel_rfl)
      clear kw8
      have hsl := hf5.len; rw [List.length_take] at hsl
      refine V.go [.k (iv i),
        .k (weightss.v),
        .ln (kf false (.f 0) weights (fun _ => weightss)),
        .k (bv (decide (i < (weights.length : Int))))] (fun _ _ => by kernel_rfl) fun _ _ G8 => ?_
      intro S8 t8
      refine V.cond (b := decide (i < (weights.length : Int))) iDT iDF (by kernel_rfl) (fun q3 => ?_) (fun q4 => ?_)
      · skip
        refine nm (weights.getD i.toNat default : DFrac) fun x1 hx1 => ?_
        refine nm (Fr.rS (q ≠ 0) (Rat.divInt p q) : Int) fun n2 hn2 => ?_
        refine nm (Fr.rD (q ≠ 0) (Rat.divInt p q) : List Int) fun l1 hl1 => ?_
        have hl1n := congrArg List.length hl1
        refine nm (Fr.rT (q ≠ 0) : Int) fun n3 hn3 => ?_
        refine nm (Fr.rE (q ≠ 0) (Rat.divInt p q) : List Int) fun l2 hl2 => ?_
        have hl2n := congrArg List.length hl2
        refine nm (Fr.rS (Fr.FrB x1.P.Sign x1.P.Digits.l x1.Q.Sign x1.Q.Digits.l ∧ Fr.FrB n2 l1 n3 l2) ((Fr.fq x1.P.Sign x1.P.Digits.l x1.Q.Digits.l) * (Fr.fq n2 l1 l2)) : Int) fun n4 hn4 => ?_
        refine nm (Fr.rD (Fr.FrB x1.P.Sign x1.P.Digits.l x1.Q.Sign x1.Q.Digits.l ∧ Fr.FrB n2 l1 n3 l2) ((Fr.fq x1.P.Sign x1.P.Digits.l x1.Q.Digits.l) * (Fr.fq n2 l1 l2)) : List Int) fun l3 hl3 => ?_
        have hl3n := congrArg List.length hl3
        refine nm (Fr.rT (Fr.FrB x1.P.Sign x1.P.Digits.l x1.Q.Sign x1.Q.Digits.l ∧ Fr.FrB n2 l1 n3 l2) : Int) fun n5 hn5 => ?_
        refine nm (Fr.rE (Fr.FrB x1.P.Sign x1.P.Digits.l x1.Q.Sign x1.Q.Digits.l ∧ Fr.FrB n2 l1 n3 l2) ((Fr.fq x1.P.Sign x1.P.Digits.l x1.Q.Digits.l) * (Fr.fq n2 l1 l2)) : List Int) fun l4 hl4 => ?_
        have hl4n := congrArg List.length hl4
        refine nm (if ¬ (Fr.FrB x1.P.Sign x1.P.Digits.l x1.Q.Sign x1.Q.Digits.l ∧ Fr.FrB n2 l1 n3 l2) then (1 : Int) else 0 : Int) fun n6 hn6 => ?_
        have hxm := getD_mem (l := weights) (k := i.toNat) (by omega) hx1; have hxl := hF.2 _ hxm; have hxl1 := hxl.1; have hxl2 := hxl.2
        have z8 : Fr.Fz n2 l1 n3 l2 (Rat.divInt p q) := Fr.Fz.of (show q ≠ 0 by omega) hn2 hl1 hn3 hl2
        have z8b := Fr.divI_hb hp hq
        have h8 := z8.len z8b; have h81 := h8.1; have h82 := h8.2
        refine V.reg [.k (weightss.v),
          .k (iv i),
          .ix g0 (kf false (.f 0) weights (fun _ => weightss)) i (fun _ => ⟨by omega, by omega⟩),
          .le g0 (kf false (.f 0) weights (fun _ => weightss)) i none true x1 hx1 (fun _ => ⟨by omega, by omega⟩) true (fun _ => Dat.cells x1),
          .k (.int .u16 p),
          .ek g0 .i64 p p (fun _ => by rw [IntKind.wrap_i64]; omega),
          .k (.int .u16 q),
          .ek g0 .i64 q q (fun _ => by rw [IntKind.wrap_i64]; omega),
          .ct g0 8 12 false [] [] [] (fun _ G => lof_ctv p q (by omega) (by omega) n2 hn2 l1 hl1 n3 hn3 l2 hl2),
          .ct g0 9 11 false [] [] [(kx false (.g 3 0) x1 x1.P.Digits.l (fun _ => x1.P.Digits.s) (fun _ H (h : Dat.good H (x1 : DFrac)) => h.1)).a, (kx false (.g 3 0) x1 x1.Q.Digits.l (fun _ => x1.Q.Digits.s) (fun _ H (h : Dat.good H (x1 : DFrac)) => h.2)).a, (kf true (.g 8 0) l1 (fun G => (G 8).ss 0)).a, (kf true (.g 8 1) l2 (fun G => (G 8).ss 1)).a] (fun _ G => fmul_ctv x1.P.Sign x1.P.Digits.l x1.P.Digits.s x1.Q.Sign x1.Q.Digits.l x1.Q.Digits.s n2 l1 ((G 8).ss 0) n3 l2 ((G 8).ss 1) (by omega) (by omega) (by omega) (by omega) n4 hn4 l3 hl3 n5 hn5 l4 hl4 n6 hn6),
          .v fun G => .tuple #[ag (DFrac.mk (DBig.mk n4 ⟨l3, (G 9).ss 0⟩) (DBig.mk n5 ⟨l4, (G 9).ss 1⟩)), iv n6],
          .v fun G => ag (DFrac.mk (DBig.mk n4 ⟨l3, (G 9).ss 0⟩) (DBig.mk n5 ⟨l4, (G 9).ss 1⟩)),
          .k (iv n6),
          .nb 13 1 (fun b => pp b 0) 33 (fun _ => ca (DFrac.mk (DBig.mk 0 ⟨[], {}⟩) (DBig.mk 0 ⟨[], {}⟩))),
          .st 1 (fun G => .blk ((G 13).b) (ca (DFrac.mk (DBig.mk n4 ⟨l3, (G 9).ss 0⟩) (DBig.mk n5 ⟨l4, (G 9).ss 1⟩))) 33),
          .k (iv n6)] (fun _ _ => by kernel_rfl) fun _ _ G9 kw10 => ?_
        intro S9 t9
        obtain ⟨⟨⟨kl4, -⟩, ⟨kl5, -⟩⟩, ⟨kl6, -⟩, ⟨kl7, -⟩, ⟨kl8, -⟩, ⟨kl9, -⟩, -⟩ : (Lq x1.P.Digits.l x1.P.Digits.s.v ∧ Lq x1.Q.Digits.l x1.Q.Digits.s.v) ∧ Lq l1 (((G9 8).ss 0).v) ∧ Lq l2 (((G9 8).ss 1).v) ∧ Lq l3 (((G9 9).ss 0).v) ∧ Lq l4 (((G9 9).ss 1).v) ∧ Lq scaled scaleds.v ∧ True := kn kw10 (by kernel_rfl)
        clear kw10
        have hScl : ∀ s1 s2 : SV, Fr.Scl (Rat.divInt p q) x1 (DFrac.mk (DBig.mk n4 ⟨l3, s1⟩) (DBig.mk n5 ⟨l4, s2⟩)) := fun s1 s2 => Fr.scl_of z8 hxl z8b rfl rfl rfl rfl hn4 hl3 hn5 hl4
        refine nm (scaled ++ ([DFrac.mk (DBig.mk n4 ⟨l3, (G9 9).ss 0⟩) (DBig.mk n5 ⟨l4, (G9 9).ss 1⟩)] : List DFrac) : List DFrac) fun l5 hl5 => ?_
        have hl5n := congrArg List.length hl5; try simp only [List.length_append, List.length_cons, List.length_nil, List.length_replicate, List.length_set, List.length_take, List.length_drop, List.length_map, List.length_reverse, List.length_range] at hl5n
        refine V.reg [.k (scaleds.v),
          .ld 1 0 true (fun _ => Dat.cells (DFrac.mk (DBig.mk n4 ⟨l3, (G9 9).ss 0⟩) (DBig.mk n5 ⟨l4, (G9 9).ss 1⟩))),
          .nr 2 true 33 ([DFrac.mk (DBig.mk n4 ⟨l3, (G9 9).ss 0⟩) (DBig.mk n5 ⟨l4, (G9 9).ss 1⟩)] : List DFrac) [(kf true (.f 5) l3 (fun _ => (G9 9).ss 0)).a, (kf true (.f 6) l4 (fun _ => (G9 9).ss 1)).a] (fun _ _ h => (List.forall_mem_cons.2 ⟨(And.intro h.1 h.2.1), (List.forall_mem_nil _)⟩)) (fun _ => #[iv n4, ((G9 9).ss 0).v, iv n5, ((G9 9).ss 1).v]),
          .ap 3 0 33 64 false true scaled (fun _ => scaleds) (kf true (.g 2 0) ([DFrac.mk (DBig.mk n4 ⟨l3, (G9 9).ss 0⟩) (DBig.mk n5 ⟨l4, (G9 9).ss 1⟩)] : List DFrac) (fun G => ⟨atB (G 2).b, 1, 1⟩)) true l5 hl5 (by (try simp only [List.length_append, List.length_cons, List.length_nil, List.length_replicate, List.length_set, List.length_take, List.length_drop, List.length_map, List.length_reverse, List.length_range]); omega) (fun h => by cases h) (.inl fun _ => ⟨rfl, rfl⟩),
          .v fun G => ((G 3).s).v] (fun _ _ => by kernel_rfl) fun _ _ G10 kw11 => ?_
        intro S10 t10
        obtain ⟨⟨kl10, -⟩, -⟩ : Lq ([DFrac.mk (DBig.mk n4 ⟨l3, (G9 9).ss 0⟩) (DBig.mk n5 ⟨l4, (G9 9).ss 1⟩)] : List DFrac) (SV.v ⟨atB (G10 2).b, 1, 1⟩) ∧ Lq l5 (((G10 3).s).v) ∧ True := kn kw11 (by kernel_rfl)
        clear kw11
        refine V.go [.k (iv i),
          .a (i + 1) (by omega) (by omega),
          .k (iv (i + 1))] (fun _ _ => by kernel_rfl) fun _ _ G11 => ?_
        intro S11 t11
        refine V.rnd hZ1 (l5, (G10 3).s, i + 1) [0, 1] (by kernel_rfl) ?_ ?_
        · skip
          refine ⟨?_, ?_, ?_, ?_, ?_⟩
          · show 0 ≤ (i + 1)
            omega
          · show (i + 1) ≤ (weights.length : Int)
            omega
          · show 0 ≤ (i + 1)
            omega
          · show (i + 1) ≤ (weights.length : Int)
            omega
          · show Fr.SclL (Rat.divInt p q) (weights.take (i + 1).toNat) l5
            rw [hl5, show (i + 1).toNat = i.toNat + 1 by omega, Fr.take_step (by omega), ← hx1]; exact hf5.snoc (hScl _ _)
        · show ((weights.length : Int) - (i + 1)).toNat < ((weights.length : Int) - i).toNat
          omega
      · skip
        have hSL := hf5
        rw [List.take_of_length_le (by omega)] at hSL
        obtain ⟨hsE, hsQ⟩ := Fr.scl_E hr hSL
        have hSW := hSL.wb (by omega)
        refine nm (Fr.shE scaled : Int) fun n7 hn7 => ?_
        refine V.reg [.k (scaleds.v),
          .ct g0 1 10 false [] [] [(ko true 33 0 scaled (fun _ => scaleds)).a] (fun _ G => shares_ctv scaled scaleds hSW n7 hn7),
          .v fun G => .tuple #[((G 1).ss 0).v, iv n7],
          .v fun G => ((G 1).ss 0).v,
          .k (iv n7),
          .v fun G => ((G 1).ss 0).v,
          .k (iv n7)] (fun _ _ => by kernel_rfl) fun _ _ G12 kw13 => ?_
        intro S12 t12
        obtain ⟨⟨kl11, -⟩, -⟩ : Lq (Fr.frs (Fr.shQ scaled) ((G12 1).sl 0)) (((G12 1).ss 0).v) ∧ Lq scaled scaleds.v ∧ True := kn kw13 (by kernel_rfl)
        clear kw13
        refine nm (turn % (weights.length : Int) : Int) fun n8 hn8 => ?_
        refine V.go [.k (.int .u8 turn),
          .arg g0 turn turn rfl (fun _ => by omega),
          .k (weightss.v),
          .ln (kf false (.f 0) weights (fun _ => weightss)),
          .rmv g0 turn (weights.length : Int) n8 hn8 (fun _ => ⟨by omega, by omega⟩),
          .k (iv n8)] (fun _ _ => by kernel_rfl) fun _ _ G13 => ?_
        intro S13 t13
        have hk0 : 0 ≤ n8 ∧ n8 < (weights.length : Int) := by rw [hn8]; exact ⟨Int.emod_nonneg _ (by omega), Int.emod_lt_of_pos _ (by omega)⟩
        refine nm (weights.drop n8.toNat : List DFrac) fun l6 hl6 => ?_
        have hl6n := congrArg List.length hl6; try simp only [List.length_append, List.length_cons, List.length_nil, List.length_replicate, List.length_set, List.length_take, List.length_drop, List.length_map, List.length_reverse, List.length_range] at hl6n
        refine nm (([] : List DFrac) ++ l6 : List DFrac) fun l7 hl7 => ?_
        have hl7n := congrArg List.length hl7; try simp only [List.length_append, List.length_cons, List.length_nil, List.length_replicate, List.length_set, List.length_take, List.length_drop, List.length_map, List.length_reverse, List.length_range] at hl7n
        refine nm (weights.take n8.toNat : List DFrac) fun l8 hl8 => ?_
        have hl8n := congrArg List.length hl8; try simp only [List.length_append, List.length_cons, List.length_nil, List.length_replicate, List.length_set, List.length_take, List.length_drop, List.length_map, List.length_reverse, List.length_range] at hl8n
        refine nm (l7 ++ l8 : List DFrac) fun l9 hl9 => ?_
        have hl9n := congrArg List.length hl9; try simp only [List.length_append, List.length_cons, List.length_nil, List.length_replicate, List.length_set, List.length_take, List.length_drop, List.length_map, List.length_reverse, List.length_range] at hl9n
        refine nm (Fr.shE l9 : Int) fun n9 hn9 => ?_
        have hrot : l9 = weights.drop n8.toNat ++ weights.take n8.toNat := by rw [hl9, hl7, hl8, hl6]; simp
        have hrE := Fr.rot_E (List.take_append_drop n8.toNat weights).symm
        have hrW := Fr.rot_wb hF n8.toNat
        rw [← hrot] at hrE hrW
        refine V.reg [.nl 0 2 true 33 ([] : List DFrac) [] (fun _ _ h => (List.forall_mem_nil _)) (fun _ => #[]),
          .k (weightss.v),
          .k (iv n8),
          .sl g0 (kf false (.f 0) weights (fun _ => weightss)) rfl (some n8) none n8 (weights.length : Int) rfl rfl l6 (by rw [hl6]; simp) (fun _ => ⟨by omega, by omega, by omega⟩),
          .ap 4 2 33 64 false true ([] : List DFrac) (fun G => ⟨atB (G 0).b, 0, 0⟩) (kf false (.g 3 0) l6 (fun _ => (weightss.sub 4 n8.toNat (weights.length : Int).toNat))) false l7 hl7 (by (try simp only [List.length_append, List.length_cons, List.length_nil, List.length_replicate, List.length_set, List.length_take, List.length_drop, List.length_map, List.length_reverse, List.length_range]); omega) (fun h => by cases h) (.inl fun h => by cases h),
          .k (weightss.v),
          .k (iv n8),
          .sl g0 (kf false (.f 0) weights (fun _ => weightss)) rfl none (some n8) 0 n8 rfl rfl l8 (by rw [hl8]; simp) (fun _ => ⟨by omega, by omega, by omega⟩),
          .ap 8 2 33 64 false false l7 (fun G => (G 4).s) (kf false (.g 7 0) l8 (fun _ => (weightss.sub 4 (0 : Int).toNat n8.toNat))) false l9 hl9 (by (try simp only [List.length_append, List.length_cons, List.length_nil, List.length_replicate, List.length_set, List.length_take, List.length_drop, List.length_map, List.length_reverse, List.length_range]); omega) (fun h => by cases h) (.inl fun h => by cases h),
          .ct g0 9 10 false [] [] [(ko false 33 2 l9 (fun G => (G 8).s)).a] (fun _ G => shares_ctv l9 ((G 8).s) hrW n9 hn9),
          .v fun G => .tuple #[((G 9).ss 0).v, iv n9],
          .v fun G => ((G 9).ss 0).v,
          .k (iv n9),
          .v fun G => ((G 9).ss 0).v,
          .k (iv n9)] (fun _ _ => by kernel_rfl) fun _ _ G14 kw15 => ?_
        intro S14 t14
        obtain ⟨⟨kl12, -⟩, ⟨kl13, -⟩, ⟨kl14, -⟩, -⟩ : Lq l6 ((weightss.sub 4 n8.toNat (weights.length : Int).toNat).v) ∧ Lq l8 ((weightss.sub 4 (0 : Int).toNat n8.toNat).v) ∧ Lq (Fr.frs (Fr.shQ l9) ((G14 9).sl 0)) (((G14 9).ss 0).v) ∧ Lq scaled scaleds.v ∧ Lq l9 (((G14 8).s).v) ∧ True := kn kw15 (by kernel_rfl)
        clear kw15
        have hef : n1 = n7 := by rw [hn1, hn7, hsE]
        have heg : n1 = n9 := by rw [hn1, hn9, hrE.1]
        have hLM : (Fr.frs (Fr.shQ weights) ((G5 1).sl 0)).map Fr.sh4 = (Fr.frs (Fr.shQ scaled) ((G12 1).sl 0)).map Fr.sh4 := (Fr.Frs.of _ _).sm (Fr.Frs.of _ _) hsQ.symm
        refine nm ((!(decide (n1 = n7))) || (!(decide (n1 = n9))) : Bool) fun p3 hp3 => ?_
        refine V.go [.k (iv n1),
          .k (iv n7),
          .k (bv (!(decide (n1 = n7)))),
          .k (bv (!(decide (n1 = n7)))),
          .k (iv n1),
          .k (iv n9),
          .k (bv (!(decide (n1 = n9)))),
          .orn g0 false (!(decide (n1 = n7))) (!(decide (n1 = n9))) p3 hp3,
          .k (bv p3),
          .k (((G5 1).ss 0).v),
          .k (((G12 1).ss 0).v),
          .cp (gF (b := p3) (iN hp3 (iOF (iNF iDT) (iNF iDT)))) 11 13 [(kf true (.f 1) (Fr.frs (Fr.shQ weights) ((G5 1).sl 0)) (fun _ => (G5 1).ss 0)).a, (kf true (.f 2) (Fr.frs (Fr.shQ scaled) ((G12 1).sl 0)) (fun _ => (G12 1).ss 0)).a] (fun hg G => same30t_ct (Fr.frs (Fr.shQ weights) ((G5 1).sl 0)) ((G5 1).ss 0) (Fr.frs (Fr.shQ scaled) ((G12 1).sl 0)) ((G12 1).ss 0) hLM),
          .kb false,
          .or g0 false p3 false] (fun _ _ => by kernel_rfl) fun _ _ G15 => ?_
        intro S15 t15
        refine V.cond (b := p3 || false) (iOT (iN hp3 (iOT (iNT iDF) (iNT iDF))) iFT) (iOF (iN hp3 (iOF (iNF iDT) (iNF iDT))) iFF) (by kernel_rfl) (fun q5 => ?_) (fun q6 => ?_)
        · skip
          exfalso; have hqq := q5; rcases hqq with (h | h) | h; exact h hef; exact h heg; simp at h
        · skip
          refine V.go [.k (iv n1),
            .k (bv (!(decide (n1 = 0))))] (fun _ _ => by kernel_rfl) fun _ _ G16 => ?_
          intro S16 t16
          refine V.cond (b := !(decide (n1 = 0))) (iNT iDF) (iNF iDT) (by kernel_rfl) (fun q7 => ?_) (fun q8 => ?_)
          · skip
            refine V.go [.kb true,
              .kb true,
              .k (((G14 9).ss 0).v),
              .ln (kf true (.f 5) (Fr.frs (Fr.shQ l9) ((G14 9).sl 0)) (fun _ => (G14 9).ss 0)),
              .k (bv (decide (((Fr.frs (Fr.shQ l9) ((G14 9).sl 0)).length : Int) = 0))),
              .k (bv (decide (((Fr.frs (Fr.shQ l9) ((G14 9).sl 0)).length : Int) = 0))),
              .k (bv (decide (((Fr.frs (Fr.shQ l9) ((G14 9).sl 0)).length : Int) = 0)))] (fun _ _ => by kernel_rfl) fun _ _ G17 => ?_
            intro S17 t17
            have e0 : (decide (((Fr.frs (Fr.shQ l9) ((G14 9).sl 0)).length : Int) = 0)) = true := by
              refine iDT.2 ?_
              rw [Fr.frs_len, Fr.shQ_n (by rw [hrE.1, ← hn1]; exact q7)]; rfl
            exact V.ret [0] [] [] [] [] [] (bv (decide (((Fr.frs (Fr.shQ l9) ((G14 9).sl 0)).length : Int) = 0))) (fun _ _ => by kernel_rfl) (fun _ _ => (Eq.trans (by kernel_rfl) (cong1 (fun (x0 : Bool) => (bv x0 : Value)) e0)).trans (by kernel_rfl)) (fun _ _ => trivial)
          · skip
            have hE : Fr.shE weights = 0 := by have hqq := q8; rw [← hn1]; first | exact hqq | exact Decidable.not_not.1 hqq
            have hLl : (Fr.frs (Fr.shQ weights) ((G5 1).sl 0)).length = weights.length := by rw [Fr.frs_len, Fr.shQ_len hE]
            have hLb := Fr.shQ_wb hF hE ((G5 1).sl 0)
            have hLr : ∀ x ∈ Fr.frs (Fr.shQ weights) ((G5 1).sl 0), Fr.rt x := Fr.frs_rt
            have hWr := (Fr.shE_is hE).2.1
            refine nm ((Fr.frs (Fr.shQ weights) ((G5 1).sl 0)).drop n8.toNat : List DFrac) fun l10 hl10 => ?_
            have hl10n := congrArg List.length hl10; try simp only [List.length_append, List.length_cons, List.length_nil, List.length_replicate, List.length_set, List.length_take, List.length_drop, List.length_map, List.length_reverse, List.length_range] at hl10n
            refine nm (([] : List DFrac) ++ l10 : List DFrac) fun l11 hl11 => ?_
            have hl11n := congrArg List.length hl11; try simp only [List.length_append, List.length_cons, List.length_nil, List.length_replicate, List.length_set, List.length_take, List.length_drop, List.length_map, List.length_reverse, List.length_range] at hl11n
            refine nm ((Fr.frs (Fr.shQ weights) ((G5 1).sl 0)).take n8.toNat : List DFrac) fun l12 hl12 => ?_
            have hl12n := congrArg List.length hl12; try simp only [List.length_append, List.length_cons, List.length_nil, List.length_replicate, List.length_set, List.length_take, List.length_drop, List.length_map, List.length_reverse, List.length_range] at hl12n
            refine nm (l11 ++ l12 : List DFrac) fun l13 hl13 => ?_
            have hl13n := congrArg List.length hl13; try simp only [List.length_append, List.length_cons, List.length_nil, List.length_replicate, List.length_set, List.length_take, List.length_drop, List.length_map, List.length_reverse, List.length_range] at hl13n
            have hro2 : l13 = (Fr.frs (Fr.shQ weights) ((G5 1).sl 0)).drop n8.toNat ++ (Fr.frs (Fr.shQ weights) ((G5 1).sl 0)).take n8.toNat := by rw [hl13, hl11, hl12, hl10]; simp
            have hRS : (Fr.frs (Fr.shQ l9) ((G14 9).sl 0)).map Fr.sh4 = l13.map Fr.sh4 := by rw [hro2]; have h1 := Fr.rot_same hE n8.toNat ((G14 9).sl 0) ((G5 1).sl 0); rw [← hrot] at h1; exact h1
            refine V.go [.k (((G5 1).ss 0).v),
              .ln (kf true (.f 1) (Fr.frs (Fr.shQ weights) ((G5 1).sl 0)) (fun _ => (G5 1).ss 0)),
              .k (weightss.v),
              .ln (kf false (.f 0) weights (fun _ => weightss)),
              .eb (bv (!decide (((Fr.frs (Fr.shQ weights) ((G5 1).sl 0)).length : Int) = (weights.length : Int)))) false (eb_ne (by omega)),
              .kb false,
              .k (((G14 9).ss 0).v),
              .nl 7 3 true 33 ([] : List DFrac) [] (fun _ _ h => (List.forall_mem_nil _)) (fun _ => #[]),
              .k (((G5 1).ss 0).v),
              .k (iv n8),
              .sl g0 (kf true (.f 1) (Fr.frs (Fr.shQ weights) ((G5 1).sl 0)) (fun _ => (G5 1).ss 0)) rfl (some n8) none n8 ((Fr.frs (Fr.shQ weights) ((G5 1).sl 0)).length : Int) rfl rfl l10 (by rw [hl10]; simp) (fun _ => ⟨by omega, by omega, by omega⟩),
              .ap 11 3 33 64 false true ([] : List DFrac) (fun G => ⟨atB (G 7).b, 0, 0⟩) (kf true (.g 10 0) l10 (fun _ => (((G5 1).ss 0).sub 4 n8.toNat ((Fr.frs (Fr.shQ weights) ((G5 1).sl 0)).length : Int).toNat))) true l11 hl11 (by (try simp only [List.length_append, List.length_cons, List.length_nil, List.length_replicate, List.length_set, List.length_take, List.length_drop, List.length_map, List.length_reverse, List.length_range]); omega) (fun h => by cases h) (.inl fun _ => ⟨rfl, rfl⟩),
              .k (((G5 1).ss 0).v),
              .k (iv n8),
              .sl g0 (kf true (.f 1) (Fr.frs (Fr.shQ weights) ((G5 1).sl 0)) (fun _ => (G5 1).ss 0)) rfl none (some n8) 0 n8 rfl rfl l12 (by rw [hl12]; simp) (fun _ => ⟨by omega, by omega, by omega⟩),
              .ap 15 3 33 64 false true l11 (fun G => (G 11).s) (kf true (.g 14 0) l12 (fun _ => (((G5 1).ss 0).sub 4 (0 : Int).toNat n8.toNat))) true l13 hl13 (by (try simp only [List.length_append, List.length_cons, List.length_nil, List.length_replicate, List.length_set, List.length_take, List.length_drop, List.length_map, List.length_reverse, List.length_range]); omega) (fun h => by cases h) (.inl fun _ => ⟨rfl, rfl⟩),
              .cp g0 16 13 [(kf true (.f 5) (Fr.frs (Fr.shQ l9) ((G14 9).sl 0)) (fun _ => (G14 9).ss 0)).a, (ko true 33 3 l13 (fun G => (G 15).s)).a] (fun _ G => same30t_ct (Fr.frs (Fr.shQ l9) ((G14 9).sl 0)) ((G14 9).ss 0) l13 ((G 15).s) hRS),
              .kb false,
              .kb false] (fun _ _ => by kernel_rfl) fun _ _ G18 => ?_
            intro S18 t18
            refine V.condF (by kernel_rfl) ?_
            refine nm ((weights.length : Int) - 1 : Int) fun n10 hn10 => ?_
            refine V.go [.k (weightss.v),
              .ln (kf false (.f 0) weights (fun _ => weightss)),
              .ar ((weights.length : Int) - 1) n10 hn10 (by omega) (by omega),
              .k (iv n10)] (fun _ _ => by kernel_rfl) fun _ _ G19 => ?_
            intro S19 t19
            refine V.go [.k (iv n10),
              .k (bv (decide (n10 = 0)))] (fun _ _ => by kernel_rfl) fun _ _ G20 => ?_
            intro S20 t20
            refine V.cond (b := decide (n10 = 0)) iDT iDF (by kernel_rfl) (fun q9 => ?_) (fun q10 => ?_)
            · skip
              refine V.go [.kb true,
                .kb true] (fun _ _ => by kernel_rfl) fun _ _ G21 => ?_
              intro S21 t21
              exact V.ret [0] [] [] [] [] [] (bv true) (fun _ _ => by kernel_rfl) (fun _ _ => by kernel_rfl) (fun _ _ => trivial)
            · skip
              refine nm (weights.getD (n10 - 1).toNat default : DFrac) fun x2 hx2 => ?_
              refine nm (weights.getD n10.toNat default : DFrac) fun x3 hx3 => ?_
              refine nm (Fr.rS (Fr.FrB x2.P.Sign x2.P.Digits.l x2.Q.Sign x2.Q.Digits.l ∧ Fr.FrB x3.P.Sign x3.P.Digits.l x3.Q.Sign x3.Q.Digits.l) ((Fr.fq x2.P.Sign x2.P.Digits.l x2.Q.Digits.l) + (Fr.fq x3.P.Sign x3.P.Digits.l x3.Q.Digits.l)) : Int) fun n11 hn11 => ?_
              refine nm (Fr.rD (Fr.FrB x2.P.Sign x2.P.Digits.l x2.Q.Sign x2.Q.Digits.l ∧ Fr.FrB x3.P.Sign x3.P.Digits.l x3.Q.Sign x3.Q.Digits.l) ((Fr.fq x2.P.Sign x2.P.Digits.l x2.Q.Digits.l) + (Fr.fq x3.P.Sign x3.P.Digits.l x3.Q.Digits.l)) : List Int) fun l14 hl14 => ?_
              have hl14n := congrArg List.length hl14
              refine nm (Fr.rT (Fr.FrB x2.P.Sign x2.P.Digits.l x2.Q.Sign x2.Q.Digits.l ∧ Fr.FrB x3.P.Sign x3.P.Digits.l x3.Q.Sign x3.Q.Digits.l) : Int) fun n12 hn12 => ?_
              refine nm (Fr.rE (Fr.FrB x2.P.Sign x2.P.Digits.l x2.Q.Sign x2.Q.Digits.l ∧ Fr.FrB x3.P.Sign x3.P.Digits.l x3.Q.Sign x3.Q.Digits.l) ((Fr.fq x2.P.Sign x2.P.Digits.l x2.Q.Digits.l) + (Fr.fq x3.P.Sign x3.P.Digits.l x3.Q.Digits.l)) : List Int) fun l15 hl15 => ?_
              have hl15n := congrArg List.length hl15
              refine nm (if ¬ (Fr.FrB x2.P.Sign x2.P.Digits.l x2.Q.Sign x2.Q.Digits.l ∧ Fr.FrB x3.P.Sign x3.P.Digits.l x3.Q.Sign x3.Q.Digits.l) then (1 : Int) else 0 : Int) fun n13 hn13 => ?_
              have hx2m := getD_mem (l := weights) (k := (n10 - 1).toNat) (by omega) hx2; have hx2r := hWr _ hx2m; have hx2l := (Fr.few30_wb hF).2 _ hx2m; have hx21 := hx2l.1; have hx22 := hx2l.2
              have hx3m := getD_mem (l := weights) (k := n10.toNat) (by omega) hx3; have hx3r := hWr _ hx3m; have hx3l := (Fr.few30_wb hF).2 _ hx3m; have hx31 := hx3l.1; have hx32 := hx3l.2
              have zb := Fr.Fz.of ⟨hx2r, hx3r⟩ hn11 hl14 hn12 hl15
              have zbb := (hx2r.z.hb (hF.2 _ hx2m).1 (hF.2 _ hx2m).2).add (hx3r.z.hb (hF.2 _ hx3m).1 (hF.2 _ hx3m).2)
              have hzb := zb.len (zbb.mono (show _ ≤ 100 by omega))
              refine V.reg [.k (weightss.v),
                .k (iv n10),
                .a (n10 - 1) (by omega) (by omega),
                .ix g0 (kf false (.f 0) weights (fun _ => weightss)) (n10 - 1) (fun _ => ⟨by omega, by omega⟩),
                .le g0 (kf false (.f 0) weights (fun _ => weightss)) (n10 - 1) none true x2 hx2 (fun _ => ⟨by omega, by omega⟩) true (fun _ => Dat.cells x2),
                .k (weightss.v),
                .k (iv n10),
                .ix g0 (kf false (.f 0) weights (fun _ => weightss)) n10 (fun _ => ⟨by omega, by omega⟩),
                .le g0 (kf false (.f 0) weights (fun _ => weightss)) n10 none true x3 hx3 (fun _ => ⟨by omega, by omega⟩) true (fun _ => Dat.cells x3),
                .ct g0 9 14 false [] [] [(kx false (.g 4 0) x2 x2.P.Digits.l (fun _ => x2.P.Digits.s) (fun _ H (h : Dat.good H (x2 : DFrac)) => h.1)).a, (kx false (.g 4 0) x2 x2.Q.Digits.l (fun _ => x2.Q.Digits.s) (fun _ H (h : Dat.good H (x2 : DFrac)) => h.2)).a, (kx false (.g 8 0) x3 x3.P.Digits.l (fun _ => x3.P.Digits.s) (fun _ H (h : Dat.good H (x3 : DFrac)) => h.1)).a, (kx false (.g 8 0) x3 x3.Q.Digits.l (fun _ => x3.Q.Digits.s) (fun _ H (h : Dat.good H (x3 : DFrac)) => h.2)).a] (fun _ G => fadd_ctv x2.P.Sign x2.P.Digits.l x2.P.Digits.s x2.Q.Sign x2.Q.Digits.l x2.Q.Digits.s x3.P.Sign x3.P.Digits.l x3.P.Digits.s x3.Q.Sign x3.Q.Digits.l x3.Q.Digits.s (by omega) (by omega) (by omega) (by omega) n11 hn11 l14 hl14 n12 hn12 l15 hl15 n13 hn13),
                .v fun G => .tuple #[ag (DFrac.mk (DBig.mk n11 ⟨l14, (G 9).ss 0⟩) (DBig.mk n12 ⟨l15, (G 9).ss 1⟩)), iv n13],
                .v fun G => ag (DFrac.mk (DBig.mk n11 ⟨l14, (G 9).ss 0⟩) (DBig.mk n12 ⟨l15, (G 9).ss 1⟩)),
                .k (iv n13),
                .nb 13 4 (fun b => pp b 0) 33 (fun _ => ca (DFrac.mk (DBig.mk 0 ⟨[], {}⟩) (DBig.mk 0 ⟨[], {}⟩))),
                .st 4 (fun G => .blk ((G 13).b) (ca (DFrac.mk (DBig.mk n11 ⟨l14, (G 9).ss 0⟩) (DBig.mk n12 ⟨l15, (G 9).ss 1⟩))) 33),
                .k (iv n13)] (fun _ _ => by kernel_rfl) fun _ _ G22 kw23 => ?_
              intro S22 t22
              obtain ⟨⟨⟨kl15, -⟩, ⟨kl16, -⟩⟩, ⟨⟨kl17, -⟩, ⟨kl18, -⟩⟩, ⟨kl19, -⟩, ⟨kl20, -⟩, -⟩ : (Lq x2.P.Digits.l x2.P.Digits.s.v ∧ Lq x2.Q.Digits.l x2.Q.Digits.s.v) ∧ (Lq x3.P.Digits.l x3.P.Digits.s.v ∧ Lq x3.Q.Digits.l x3.Q.Digits.s.v) ∧ Lq l14 (((G22 9).ss 0).v) ∧ Lq l15 (((G22 9).ss 1).v) ∧ Lq scaled scaleds.v ∧ Lq l9 (((G14 8).s).v) ∧ Lq l13 (((G18 15).s).v) ∧ True := kn kw23 (by kernel_rfl)
              clear kw23
              refine nm ((Fr.frs (Fr.shQ weights) ((G5 1).sl 0)).getD (n10 - 1).toNat default : DFrac) fun x4 hx4 => ?_
              refine nm ((Fr.frs (Fr.shQ weights) ((G5 1).sl 0)).getD n10.toNat default : DFrac) fun x5 hx5 => ?_
              refine nm (Fr.rS (Fr.FrB x4.P.Sign x4.P.Digits.l x4.Q.Sign x4.Q.Digits.l ∧ Fr.FrB x5.P.Sign x5.P.Digits.l x5.Q.Sign x5.Q.Digits.l) ((Fr.fq x4.P.Sign x4.P.Digits.l x4.Q.Digits.l) + (Fr.fq x5.P.Sign x5.P.Digits.l x5.Q.Digits.l)) : Int) fun n14 hn14 => ?_
              refine nm (Fr.rD (Fr.FrB x4.P.Sign x4.P.Digits.l x4.Q.Sign x4.Q.Digits.l ∧ Fr.FrB x5.P.Sign x5.P.Digits.l x5.Q.Sign x5.Q.Digits.l) ((Fr.fq x4.P.Sign x4.P.Digits.l x4.Q.Digits.l) + (Fr.fq x5.P.Sign x5.P.Digits.l x5.Q.Digits.l)) : List Int) fun l16 hl16 => ?_
              have hl16n := congrArg List.length hl16
              refine nm (Fr.rT (Fr.FrB x4.P.Sign x4.P.Digits.l x4.Q.Sign x4.Q.Digits.l ∧ Fr.FrB x5.P.Sign x5.P.Digits.l x5.Q.Sign x5.Q.Digits.l) : Int) fun n15 hn15 => ?_
              refine nm (Fr.rE (Fr.FrB x4.P.Sign x4.P.Digits.l x4.Q.Sign x4.Q.Digits.l ∧ Fr.FrB x5.P.Sign x5.P.Digits.l x5.Q.Sign x5.Q.Digits.l) ((Fr.fq x4.P.Sign x4.P.Digits.l x4.Q.Digits.l) + (Fr.fq x5.P.Sign x5.P.Digits.l x5.Q.Digits.l)) : List Int) fun l17 hl17 => ?_
              have hl17n := congrArg List.length hl17
              refine nm (if ¬ (Fr.FrB x4.P.Sign x4.P.Digits.l x4.Q.Sign x4.Q.Digits.l ∧ Fr.FrB x5.P.Sign x5.P.Digits.l x5.Q.Sign x5.Q.Digits.l) then (1 : Int) else 0 : Int) fun n16 hn16 => ?_
              have hx4m := getD_mem (l := (Fr.frs (Fr.shQ weights) ((G5 1).sl 0))) (k := (n10 - 1).toNat) (by omega) hx4; have hx4r := hLr _ hx4m; have hx4l := hLb.2 _ hx4m; have hx41 := hx4l.1; have hx42 := hx4l.2
              have hx5m := getD_mem (l := (Fr.frs (Fr.shQ weights) ((G5 1).sl 0))) (k := n10.toNat) (by omega) hx5; have hx5r := hLr _ hx5m; have hx5l := hLb.2 _ hx5m; have hx51 := hx5l.1; have hx52 := hx5l.2
              have zw := Fr.Fz.of ⟨hx4r, hx5r⟩ hn14 hl16 hn15 hl17
              refine V.reg [.k (((G5 1).ss 0).v),
                .k (iv n10),
                .a (n10 - 1) (by omega) (by omega),
                .ix g0 (kf true (.f 1) (Fr.frs (Fr.shQ weights) ((G5 1).sl 0)) (fun _ => (G5 1).ss 0)) (n10 - 1) (fun _ => ⟨by omega, by omega⟩),
                .le g0 (kf true (.f 1) (Fr.frs (Fr.shQ weights) ((G5 1).sl 0)) (fun _ => (G5 1).ss 0)) (n10 - 1) none true x4 hx4 (fun _ => ⟨by omega, by omega⟩) true (fun _ => Dat.cells x4),
                .k (((G5 1).ss 0).v),
                .k (iv n10),
                .ix g0 (kf true (.f 1) (Fr.frs (Fr.shQ weights) ((G5 1).sl 0)) (fun _ => (G5 1).ss 0)) n10 (fun _ => ⟨by omega, by omega⟩),
                .le g0 (kf true (.f 1) (Fr.frs (Fr.shQ weights) ((G5 1).sl 0)) (fun _ => (G5 1).ss 0)) n10 none true x5 hx5 (fun _ => ⟨by omega, by omega⟩) true (fun _ => Dat.cells x5),
                .ct g0 9 14 false [] [] [(kx true (.g 4 0) x4 x4.P.Digits.l (fun _ => x4.P.Digits.s) (fun _ H (h : Dat.good H (x4 : DFrac)) => h.1)).a, (kx true (.g 4 0) x4 x4.Q.Digits.l (fun _ => x4.Q.Digits.s) (fun _ H (h : Dat.good H (x4 : DFrac)) => h.2)).a, (kx true (.g 8 0) x5 x5.P.Digits.l (fun _ => x5.P.Digits.s) (fun _ H (h : Dat.good H (x5 : DFrac)) => h.1)).a, (kx true (.g 8 0) x5 x5.Q.Digits.l (fun _ => x5.Q.Digits.s) (fun _ H (h : Dat.good H (x5 : DFrac)) => h.2)).a] (fun _ G => fadd_ctv x4.P.Sign x4.P.Digits.l x4.P.Digits.s x4.Q.Sign x4.Q.Digits.l x4.Q.Digits.s x5.P.Sign x5.P.Digits.l x5.P.Digits.s x5.Q.Sign x5.Q.Digits.l x5.Q.Digits.s (by omega) (by omega) (by omega) (by omega) n14 hn14 l16 hl16 n15 hn15 l17 hl17 n16 hn16),
                .v fun G => .tuple #[ag (DFrac.mk (DBig.mk n14 ⟨l16, (G 9).ss 0⟩) (DBig.mk n15 ⟨l17, (G 9).ss 1⟩)), iv n16],
                .v fun G => ag (DFrac.mk (DBig.mk n14 ⟨l16, (G 9).ss 0⟩) (DBig.mk n15 ⟨l17, (G 9).ss 1⟩)),
                .k (iv n16),
                .nb 13 5 (fun b => pp b 0) 33 (fun _ => ca (DFrac.mk (DBig.mk 0 ⟨[], {}⟩) (DBig.mk 0 ⟨[], {}⟩))),
                .st 5 (fun G => .blk ((G 13).b) (ca (DFrac.mk (DBig.mk n14 ⟨l16, (G 9).ss 0⟩) (DBig.mk n15 ⟨l17, (G 9).ss 1⟩))) 33),
                .k (iv n16)] (fun _ _ => by kernel_rfl) fun _ _ G23 kw24 => ?_
              intro S23 t23
              obtain ⟨⟨⟨kl21, -⟩, ⟨kl22, -⟩⟩, ⟨⟨kl23, -⟩, ⟨kl24, -⟩⟩, ⟨kl25, -⟩, ⟨kl26, -⟩, -⟩ : (Lq x4.P.Digits.l x4.P.Digits.s.v ∧ Lq x4.Q.Digits.l x4.Q.Digits.s.v) ∧ (Lq x5.P.Digits.l x5.P.Digits.s.v ∧ Lq x5.Q.Digits.l x5.Q.Digits.s.v) ∧ Lq l16 (((G23 9).ss 0).v) ∧ Lq l17 (((G23 9).ss 1).v) ∧ Lq scaled scaleds.v ∧ Lq l9 (((G14 8).s).v) ∧ Lq l13 (((G18 15).s).v) ∧ True := kn kw24 (by kernel_rfl)
              clear kw24
              refine nm (weights.take (n10 - 1).toNat : List DFrac) fun l18 hl18 => ?_
              have hl18n := congrArg List.length hl18; try simp only [List.length_append, List.length_cons, List.length_nil, List.length_replicate, List.length_set, List.length_take, List.length_drop, List.length_map, List.length_reverse, List.length_range] at hl18n
              refine nm (([] : List DFrac) ++ l18 : List DFrac) fun l19 hl19 => ?_
              have hl19n := congrArg List.length hl19; try simp only [List.length_append, List.length_cons, List.length_nil, List.length_replicate, List.length_set, List.length_take, List.length_drop, List.length_map, List.length_reverse, List.length_range] at hl19n
              refine nm (l19 ++ ([DFrac.mk (DBig.mk n11 ⟨l14, (G22 9).ss 0⟩) (DBig.mk n12 ⟨l15, (G22 9).ss 1⟩)] : List DFrac) : List DFrac) fun l20 hl20 => ?_
              have hl20n := congrArg List.length hl20; try simp only [List.length_append, List.length_cons, List.length_nil, List.length_replicate, List.length_set, List.length_take, List.length_drop, List.length_map, List.length_reverse, List.length_range] at hl20n
              refine nm (Fr.shE l20 : Int) fun n17 hn17 => ?_
              have hn2 : weights.length = (weights.length - 2) + 2 := by omega
              have hbl : l20 = weights.take (weights.length - 2) ++ [(DFrac.mk (DBig.mk n11 ⟨l14, (G22 9).ss 0⟩) (DBig.mk n12 ⟨l15, (G22 9).ss 1⟩))] := by rw [hl20, hl19, hl14, hl15, hl18]; simp only [List.nil_append]; congr 2 <;> omega
              have hzv : Fr.qv (DFrac.mk (DBig.mk n11 ⟨l14, (G22 9).ss 0⟩) (DBig.mk n12 ⟨l15, (G22 9).ss 1⟩)) = Fr.qv (weights.getD (weights.length - 2) default) + Fr.qv (weights.getD (weights.length - 2 + 1) default) := by rw [show weights.length - 2 = (n10 - 1).toNat by omega, show (n10 - 1).toNat + 1 = n10.toNat by omega, ← hx2, ← hx3]; exact zb.v
              have hbE := (Fr.pair_E hE hn2 (z := (DFrac.mk (DBig.mk n11 ⟨l14, (G22 9).ss 0⟩) (DBig.mk n12 ⟨l15, (G22 9).ss 1⟩))) zb.rt hzv).1
              have hbW := Fr.pair_wb hF (n := weights.length - 2) (z := (DFrac.mk (DBig.mk n11 ⟨l14, (G22 9).ss 0⟩) (DBig.mk n12 ⟨l15, (G22 9).ss 1⟩))) hzb
              rw [← hbl] at hbE hbW
              refine V.reg [.nl 0 6 true 33 ([] : List DFrac) [] (fun _ _ h => (List.forall_mem_nil _)) (fun _ => #[]),
                .k (weightss.v),
                .k (iv n10),
                .a (n10 - 1) (by omega) (by omega),
                .sl g0 (kf false (.f 0) weights (fun _ => weightss)) rfl none (some (n10 - 1)) 0 (n10 - 1) rfl rfl l18 (by rw [hl18]; simp) (fun _ => ⟨by omega, by omega, by omega⟩),
                .ap 5 6 33 64 false true ([] : List DFrac) (fun G => ⟨atB (G 0).b, 0, 0⟩) (kf false (.g 4 0) l18 (fun _ => (weightss.sub 4 (0 : Int).toNat (n10 - 1).toNat))) false l19 hl19 (by (try simp only [List.length_append, List.length_cons, List.length_nil, List.length_replicate, List.length_set, List.length_take, List.length_drop, List.length_map, List.length_reverse, List.length_range]); omega) (fun h => by cases h) (.inl fun h => by cases h),
                .ld 4 0 true (fun _ => Dat.cells (DFrac.mk (DBig.mk n11 ⟨l14, (G22 9).ss 0⟩) (DBig.mk n12 ⟨l15, (G22 9).ss 1⟩))),
                .nr 7 true 33 ([DFrac.mk (DBig.mk n11 ⟨l14, (G22 9).ss 0⟩) (DBig.mk n12 ⟨l15, (G22 9).ss 1⟩)] : List DFrac) [(kf true (.f 8) l14 (fun _ => (G22 9).ss 0)).a, (kf true (.f 9) l15 (fun _ => (G22 9).ss 1)).a] (fun _ _ h => (List.forall_mem_cons.2 ⟨(And.intro h.1 h.2.1), (List.forall_mem_nil _)⟩)) (fun _ => #[iv n11, ((G22 9).ss 0).v, iv n12, ((G22 9).ss 1).v]),
                .ap 8 6 33 64 false false l19 (fun G => (G 5).s) (kf true (.g 7 0) ([DFrac.mk (DBig.mk n11 ⟨l14, (G22 9).ss 0⟩) (DBig.mk n12 ⟨l15, (G22 9).ss 1⟩)] : List DFrac) (fun G => ⟨atB (G 7).b, 1, 1⟩)) false l20 hl20 (by (try simp only [List.length_append, List.length_cons, List.length_nil, List.length_replicate, List.length_set, List.length_take, List.length_drop, List.length_map, List.length_reverse, List.length_range]); omega) (fun h => by cases h) (.inl fun h => by cases h),
                .ct g0 9 10 false [] [] [(ko false 33 6 l20 (fun G => (G 8).s)).a] (fun _ G => shares_ctv l20 ((G 8).s) hbW n17 hn17),
                .v fun G => .tuple #[((G 9).ss 0).v, iv n17],
                .v fun G => ((G 9).ss 0).v,
                .k (iv n17),
                .v fun G => ((G 9).ss 0).v,
                .k (iv n17)] (fun _ _ => by kernel_rfl) fun _ _ G24 kw25 => ?_
              intro S24 t24
              obtain ⟨⟨kl27, -⟩, ⟨kl28, -⟩, ⟨kl29, -⟩, -⟩ : Lq l18 ((weightss.sub 4 (0 : Int).toNat (n10 - 1).toNat).v) ∧ Lq ([DFrac.mk (DBig.mk n11 ⟨l14, (G22 9).ss 0⟩) (DBig.mk n12 ⟨l15, (G22 9).ss 1⟩)] : List DFrac) (SV.v ⟨atB (G24 7).b, 1, 1⟩) ∧ Lq (Fr.frs (Fr.shQ l20) ((G24 9).sl 0)) (((G24 9).ss 0).v) ∧ Lq scaled scaleds.v ∧ Lq l9 (((G14 8).s).v) ∧ Lq l13 (((G18 15).s).v) ∧ Lq l20 (((G24 8).s).v) ∧ True := kn kw25 (by kernel_rfl)
              clear kw25
              refine nm ((Fr.frs (Fr.shQ weights) ((G5 1).sl 0)).take (n10 - 1).toNat : List DFrac) fun l21 hl21 => ?_
              have hl21n := congrArg List.length hl21; try simp only [List.length_append, List.length_cons, List.length_nil, List.length_replicate, List.length_set, List.length_take, List.length_drop, List.length_map, List.length_reverse, List.length_range] at hl21n
              refine nm (([] : List DFrac) ++ l21 : List DFrac) fun l22 hl22 => ?_
              have hl22n := congrArg List.length hl22; try simp only [List.length_append, List.length_cons, List.length_nil, List.length_replicate, List.length_set, List.length_take, List.length_drop, List.length_map, List.length_reverse, List.length_range] at hl22n
              refine nm (l22 ++ ([DFrac.mk (DBig.mk n14 ⟨l16, (G23 9).ss 0⟩) (DBig.mk n15 ⟨l17, (G23 9).ss 1⟩)] : List DFrac) : List DFrac) fun l23 hl23 => ?_
              have hl23n := congrArg List.length hl23; try simp only [List.length_append, List.length_cons, List.length_nil, List.length_replicate, List.length_set, List.length_take, List.length_drop, List.length_map, List.length_reverse, List.length_range] at hl23n
              have hcl : l23 = (Fr.frs (Fr.shQ weights) ((G5 1).sl 0)).take (weights.length - 2) ++ [(DFrac.mk (DBig.mk n14 ⟨l16, (G23 9).ss 0⟩) (DBig.mk n15 ⟨l17, (G23 9).ss 1⟩))] := by rw [hl23, hl22, hl16, hl17, hl21]; simp only [List.nil_append]; congr 2 <;> omega
              have hyv : Fr.qv (DFrac.mk (DBig.mk n14 ⟨l16, (G23 9).ss 0⟩) (DBig.mk n15 ⟨l17, (G23 9).ss 1⟩)) = Fr.qv ((Fr.frs (Fr.shQ weights) ((G5 1).sl 0)).getD (weights.length - 2) default) + Fr.qv ((Fr.frs (Fr.shQ weights) ((G5 1).sl 0)).getD (weights.length - 2 + 1) default) := by rw [show weights.length - 2 = (n10 - 1).toNat by omega, show (n10 - 1).toNat + 1 = n10.toNat by omega, ← hx4, ← hx5]; exact zw.v
              have hPS : (Fr.frs (Fr.shQ l20) ((G24 9).sl 0)).map Fr.sh4 = l23.map Fr.sh4 := by rw [hcl]; have h1 := Fr.pair_same hE hn2 (z := (DFrac.mk (DBig.mk n11 ⟨l14, (G22 9).ss 0⟩) (DBig.mk n12 ⟨l15, (G22 9).ss 1⟩))) (y := (DFrac.mk (DBig.mk n14 ⟨l16, (G23 9).ss 0⟩) (DBig.mk n15 ⟨l17, (G23 9).ss 1⟩))) zb.rt hzv ((G24 9).sl 0) ((G5 1).sl 0) zw.rt hyv; rw [← hbl] at h1; exact h1
              refine V.go [.kb true,
                .kb true,
                .k (iv n17),
                .eb (bv (decide (n17 = 0))) true (eb_eq (by rw [hn17]; exact hbE)),
                .kb true,
                .kb true,
                .k (((G24 9).ss 0).v),
                .nl 7 7 true 33 ([] : List DFrac) [] (fun _ _ h => (List.forall_mem_nil _)) (fun _ => #[]),
                .k (((G5 1).ss 0).v),
                .k (iv n10),
                .a (n10 - 1) (by omega) (by omega),
                .sl g0 (kf true (.f 1) (Fr.frs (Fr.shQ weights) ((G5 1).sl 0)) (fun _ => (G5 1).ss 0)) rfl none (some (n10 - 1)) 0 (n10 - 1) rfl rfl l21 (by rw [hl21]; simp) (fun _ => ⟨by omega, by omega, by omega⟩),
                .ap 12 7 33 64 false true ([] : List DFrac) (fun G => ⟨atB (G 7).b, 0, 0⟩) (kf true (.g 11 0) l21 (fun _ => (((G5 1).ss 0).sub 4 (0 : Int).toNat (n10 - 1).toNat))) true l22 hl22 (by (try simp only [List.length_append, List.length_cons, List.length_nil, List.length_replicate, List.length_set, List.length_take, List.length_drop, List.length_map, List.length_reverse, List.length_range]); omega) (fun h => by cases h) (.inl fun _ => ⟨rfl, rfl⟩),
                .ld 5 0 true (fun _ => Dat.cells (DFrac.mk (DBig.mk n14 ⟨l16, (G23 9).ss 0⟩) (DBig.mk n15 ⟨l17, (G23 9).ss 1⟩))),
                .nr 14 true 33 ([DFrac.mk (DBig.mk n14 ⟨l16, (G23 9).ss 0⟩) (DBig.mk n15 ⟨l17, (G23 9).ss 1⟩)] : List DFrac) [(kf true (.f 12) l16 (fun _ => (G23 9).ss 0)).a, (kf true (.f 13) l17 (fun _ => (G23 9).ss 1)).a] (fun _ _ h => (List.forall_mem_cons.2 ⟨(And.intro h.1 h.2.1), (List.forall_mem_nil _)⟩)) (fun _ => #[iv n14, ((G23 9).ss 0).v, iv n15, ((G23 9).ss 1).v]),
                .ap 15 7 33 64 false true l22 (fun G => (G 12).s) (kf true (.g 14 0) ([DFrac.mk (DBig.mk n14 ⟨l16, (G23 9).ss 0⟩) (DBig.mk n15 ⟨l17, (G23 9).ss 1⟩)] : List DFrac) (fun G => ⟨atB (G 14).b, 1, 1⟩)) true l23 hl23 (by (try simp only [List.length_append, List.length_cons, List.length_nil, List.length_replicate, List.length_set, List.length_take, List.length_drop, List.length_map, List.length_reverse, List.length_range]); omega) (fun h => by cases h) (.inl fun _ => ⟨rfl, rfl⟩),
                .cp g0 16 13 [(kf true (.f 16) (Fr.frs (Fr.shQ l20) ((G24 9).sl 0)) (fun _ => (G24 9).ss 0)).a, (ko true 33 7 l23 (fun G => (G 15).s)).a] (fun _ G => same30t_ct (Fr.frs (Fr.shQ l20) ((G24 9).sl 0)) ((G24 9).ss 0) l23 ((G 15).s) hPS),
                .kb true,
                .kb true] (fun _ _ => by kernel_rfl) fun _ _ G25 => ?_
              intro S25 t25
              exact V.ret [0] [] [] [] [] [] (bv true) (fun _ _ => by kernel_rfl) (fun _ _ => by kernel_rfl) (fun _ _ => trivial)

end Kb
set_option linter.unusedVariables false
set_option linter.unusedSectionVars false
set_option linter.unusedSimpArgs false
namespace Kb
open Go Go.RowKit Go.WideShapes Go.ChangeShapes
theorem wf64 {a : Int} (h : (Lit.int .i64 a).wf = true) : -9223372036854775808 ≤ a ∧ a ≤ 9223372036854775807 := by
  simp [Lit.wf, IntKind.min, IntKind.max, IntKind.signed, IntKind.bits] at h
  omega
theorem wf8 {a : Int} (h : (Lit.int .u8 a).wf = true) : 0 ≤ a ∧ a ≤ 255 := by
  simp [Lit.wf, IntKind.min, IntKind.max, IntKind.signed, IntKind.bits] at h
  omega
theorem wf16 {a : Int} (h : (Lit.int .u16 a).wf = true) : 0 ≤ a ∧ a ≤ 65535 := by
  simp [Lit.wf, IntKind.min, IntKind.max, IntKind.signed, IntKind.bits] at h
  omega
theorem wfi8 {a : Int} (h : (Lit.int .i8 a).wf = true) : -128 ≤ a ∧ a ≤ 127 := by
  simp [Lit.wf, IntKind.min, IntKind.max, IntKind.signed, IntKind.bits] at h
  omega
section
variable {H : Type} {enc : TypeId × Value → H} {P : Program}
/-- the row's last step, where the call has left every block that was there as it was -/
theorem law_post {f : Func} {s : ChangeSpec} {apart fresh handsOn again : Bool} {W W' : World} {args : Array Value} {v : Value} {ds gs : List (DataW H)} {before pa pv : List MemPlace}
    (hW : DataW.Whole enc P f.params.toList s.vars apart W args.toList ds gs before)
    (hres : ∀ (b : Nat) (sp : Nat → Bool) (hd : Bool), DataW.TrodAll enc P W' b sp hd f.resultTypes.toList (v.resultList f.resultTypes.size) (s.fn H (ds ++ gs)).results [])
    (hargs : ∀ sp : Nat → Bool, (∀ p ∈ before, sp p.block = true) → DataW.TrodAll enc P W' 0 sp true f.params.toList args.toList (s.fn H (ds ++ gs)).args pa)
    (hvars : ∀ sp : Nat → Bool, (∀ p ∈ before, sp p.block = true) → DataW.TrodVars enc P W' sp s.vars (s.fn H (ds ++ gs)).vars pv)
    (hps : before = pa ++ pv) (hb : Base [] W W')
    (hok : ∀ (j : Nat) (t : TypeId) (r : Value), f.resultTypes[j]? = some t → (v.resultList f.resultTypes.size)[j]? = some r → Value.okWide P W' .any 0 t r) :
    s.post enc P f apart fresh handsOn again W args v W' := by
  have low : ∀ p ∈ before, p.block < W.heap.size := fun p hp => hW.lt p hp
  have mark : ∀ p ∈ before, (fun b => decide (b < W.heap.size)) p.block = true := fun p hp => decide_eq_true (low p hp)
  have back := hb.below
  refine ⟨ds, gs, before, [], pa, pv, hW, hres _ _ _, hargs _ mark, hvars _ mark, World.keptBut_mono (fun p hp => ⟨hp, by rw [hps, List.mem_append] at hp; exact Or.inr hp⟩) (back.frame (· ∈ before)), fun _ => ?_⟩
  obtain ⟨_, _, _, _, _, hz, hn⟩ := hW
  refine ⟨hok, _, _, ([] ++ pa) ++ pv, ⟨[] ++ pa, pv, trodAll_append (hargs _ fun _ _ => rfl) (hres _ _ _), hvars _ fun _ _ => rfl, rfl, fun b off hp => ?_, fun ha => ?_⟩, fun p hp _ => ?_⟩
  · have hin : MemPlace.cell b off ∈ before := by rw [hps]; simpa using hp
    rw [back.frozen (low _ hin)]
    exact hz b off hin
  · have := hn ha
    rw [hps] at this; simpa using this
  · rw [hps]; simpa using hp
end
end Kb
set_option linter.unusedVariables false
set_option linter.unusedSectionVars false
set_option linter.unusedSimpArgs false
namespace Kb
open Go Go.RowKit Go.WideShapes Go.ChangeShapes
theorem whole_agrees (w : World) : Agrees w (whole w) := fun _ _ h => h
theorem hcells_of {w : World} {a : Addr} {vs : List Value} (h0 : vs ≠ []) (h : ∀ (j : Nat) (v : Value), vs[j]? = some v → w.cell? (a.add j) = some v) : HCells (whole w) a vs := by
  obtain ⟨v0, vs', rfl⟩ := List.exists_cons_of_ne_nil h0
  have h1 := h 0 v0 rfl
  have e0 : a.add 0 = a := by simp [Addr.add]
  rw [e0] at h1
  have hs := World.cell?_spot h1
  unfold World.cell? at h1
  split at h1
  · rename_i c T fr hb
    refine ⟨hs, c, T, fr, hb, fun j v hj => ?_⟩
    have h2 := h j v hj
    rw [add_eq hs] at h2
    simpa [World.cell?, hb] using h2
  · cases h1
/-- how a type's cells open -/
structure Opens (P : Program) (w : World) (e : TypeId) (α : Type) [Dat α] : Prop where
  cells : P.cellsOf e = Dat.size α
  full : 0 < Dat.size α
  data : ∀ {H : Type} {enc : TypeId × Value → H} {base : Nat} {sp : Nat → Bool} {held : Bool} {n : Nat} {cs : List Value} {x : DataW H × List MemPlace}, DataW.trod enc P w base sp held n e cs = some x → ∃ y : α, cs = Dat.cells y ∧ Dat.good (whole w) y
section
variable {H : Type} {enc : TypeId × Value → H} {P : Program} {w : World} {base : Nat} {sp : Nat → Bool} {held : Bool}
theorem cells_get {a : Addr} {n : Nat} {cs : List Value} (h : w.cells? base a n = some cs) : ∀ (j : Nat) (v : Value), cs[j]? = some v → w.cell? (a.add j) = some v := by
  intro j v hj
  unfold World.cells? at h
  split at h
  · have hl := mapM_some_length h
    have hlt := (List.getElem?_eq_some_iff.1 hj).1
    rw [hl, List.length_range] at hlt
    have := mapM_some_get h j j (by simp [hlt])
    rw [this, hj]
  · cases h
theorem opens_slice {α : Type} [Dat α] {t e : TypeId} (ht : P.underlying t = some (.slice e)) (o : Opens P w e α) {fuel : Nat} {cs : List Value} {x : DataW H × List MemPlace} (h : DataW.trod enc P w base sp held fuel t cs = some x) :
    ∃ (l : List α) (s : SV), cs = [s.v] ∧ RSl (whole w) l s.v := by
  rcases DataW.trod_slice ht h with ⟨rfl, _⟩ | ⟨a, len, cap, elems, rest, n, _, rfl, _, _, hl, hm, hlen, hel, _⟩
  · exact ⟨[], {}, rfl, RSl.nil⟩
  · have each : ∀ i, i < len → ∃ y : α, w.cells? base (a.add (i * Dat.size α)) (Dat.size α) = some (Dat.cells y) ∧ Dat.good (whole w) y := fun i hi => by
      have h1 := hel i hi
      rw [o.cells, List.getElem?_eq_getElem (by omega), Option.bind_eq_some_iff] at h1
      obtain ⟨cs', h2, h3⟩ := h1
      obtain ⟨y, rfl, hg⟩ := o.data h3
      exact ⟨y, h2, hg⟩
    have ⟨f, hf⟩ : ∃ f : Nat → α, ∀ i, i < len → w.cells? base (a.add (i * Dat.size α)) (Dat.size α) = some (Dat.cells (f i)) ∧ Dat.good (whole w) (f i) :=
      ⟨fun i => if hi : i < len then Classical.choose (each i hi) else default, fun i hi => by simp only [dif_pos hi]; exact Classical.choose_spec (each i hi)⟩
    refine ⟨(List.range len).map f, ⟨some a, len, cap⟩, rfl, ⟨⟨?_, ?_, some a, cap, ?_, ?_, hm, ?_, ?_⟩, ?_⟩⟩
    · intro r hr; simp [rows] at hr; obtain ⟨i, _, rfl⟩ := hr; exact Dat.len _
    · intro r hr; simp [rows] at hr; obtain ⟨i, hi, rfl⟩ := hr; exact Dat.one _ _ (hf i hi).2
    · simp [SV.v]
    · simpa using hl
    · intro h; cases h
    · intro b hb hne
      cases hb
      have hrl : ∀ r ∈ rows ((List.range len).map f), r.length = Dat.size α := by intro r hr; simp [rows] at hr; obtain ⟨i, _, rfl⟩ := hr; exact Dat.len _
      have h0 : 0 < len := by
        rcases Nat.eq_zero_or_pos len with h | h
        · subst h; simp [rows] at hne
        · exact h
      have hfl := flatten_len hrl
      simp only [rows_length, List.length_map, List.length_range] at hfl
      have hsz := o.full
      have hspot : a.spot = none := by
        have h1 := cells_get (hf 0 h0).1
        have h2 : (Dat.cells (f 0)).length = Dat.size α := Dat.len _
        have h3 := h1 0 _ (List.getElem?_eq_getElem (by omega))
        have := World.cell?_spot h3
        simpa [Addr.add] using this
      refine hcells_of (fun e => ?_) fun j v hj => ?_
      · rw [e] at hfl
        have := Nat.mul_pos h0 hsz
        simp at hfl; omega
      · have hj2 := (List.getElem?_eq_some_iff.1 hj).1
        rw [hfl] at hj2
        have hk : j / Dat.size α < len := Nat.div_lt_of_lt_mul (by rwa [Nat.mul_comm])
        have hr : j % Dat.size α < Dat.size α := Nat.mod_lt _ hsz
        have h2 : (Dat.cells (f (j / Dat.size α))).length = Dat.size α := Dat.len _
        have e1 : (rows ((List.range len).map f))[j / Dat.size α]? = some (Dat.cells (f (j / Dat.size α))) := by simp [rows, hk]
        have e2 := List.getElem?_eq_getElem (l := Dat.cells (f (j / Dat.size α))) (i := j % Dat.size α) (by omega)
        have e3 := flatten_get hrl _ _ _ _ e1 e2
        have ej : j / Dat.size α * Dat.size α + j % Dat.size α = j := by rw [Nat.mul_comm]; exact Nat.div_add_mod j _
        rw [ej, hj] at e3
        have h4 := cells_get (hf _ hk).1 _ _ e2
        rw [← Option.some.inj e3] at h4
        rw [← h4, add_eq hspot, add_eq (a := a.add _) (by rw [add_eq hspot]), add_eq hspot]
        simp only [Nat.add_assoc, ej]
    · intro y hy; simp at hy; obtain ⟨i, hi, rfl⟩ := hy; exact (hf i hi).2
/-- a field of a struct's cells -/
theorem Opens.field {α : Type} [Dat α] {t : TypeId} {fs : Array Field} (ht : P.underlying t = some (.struct fs)) {fuel : Nat} {cs : List Value} {x : DataW H × List MemPlace} (h : DataW.trod enc P w base sp held fuel t cs = some x)
    (i : Nat) {f : Field} (hi : fs[i]? = some f) (o : Opens P w f.type α) : ∃ y : α, (cs.drop f.offset).take (Dat.size α) = Dat.cells y ∧ Dat.good (whole w) y := by
  obtain ⟨xs, n, _, _, _, hx, hf⟩ := DataW.trod_struct ht h
  have h1 := hf i f hi
  have hlt := (Array.getElem?_eq_some_iff.1 hi).1
  rw [List.getElem?_eq_getElem (by omega), o.cells] at h1
  exact o.data h1
/-- a field that is a slice -/
theorem field_slice {α : Type} [Dat α] {t e : TypeId} {fs : Array Field} (ht : P.underlying t = some (.struct fs)) {fuel : Nat} {cs : List Value} {x : DataW H × List MemPlace} (h : DataW.trod enc P w base sp held fuel t cs = some x)
    (i : Nat) {f : Field} (hi : fs[i]? = some f) (hs : P.underlying f.type = some (.slice e)) (hc : P.cellsOf f.type = 1) (o : Opens P w e α) : ∃ (l : List α) (s : SV), (cs.drop f.offset).take 1 = [s.v] ∧ RSl (whole w) l s.v := by
  obtain ⟨xs, n, _, _, _, hx, hf⟩ := DataW.trod_struct ht h
  have h1 := hf i f hi
  have hlt := (Array.getElem?_eq_some_iff.1 hi).1
  rw [List.getElem?_eq_getElem (by omega), hc] at h1
  exact opens_slice hs o h1
theorem struct_len {t : TypeId} {fs : Array Field} (ht : P.underlying t = some (.struct fs)) {fuel : Nat} {cs : List Value} {x : DataW H × List MemPlace} (h : DataW.trod enc P w base sp held fuel t cs = some x) : cs.length = P.cellsOf t := by
  obtain ⟨xs, n, _, _, hl, _⟩ := DataW.trod_struct ht h
  exact hl
/-- an argument that is a slice -/
theorem arg_slice {α : Type} [Dat α] {r : Reach} {b0 : Nat} {t e : TypeId} (ht : P.underlying t = some (.slice e)) (o : Opens P w e α) {v : Value} {d : DataW H} {ps : List MemPlace} (hv : Value.okWide P w r b0 t v) (h : DataW.Trod enc P w base sp held t v d ps) :
    ∃ (l : List α) (s : SV), v = s.v ∧ RSl (whole w) l s.v := by
  obtain ⟨n, hn⟩ := h
  obtain ⟨a, len, cap, rfl⟩ := okWide_slice ht hv
  obtain ⟨l, u, h1, h2⟩ := opens_slice ht o hn
  exact ⟨l, u, by injection h1, h2⟩
theorem arg_int {r : Reach} {b0 : Nat} {t : TypeId} {k : IntKind} (ht : P.underlying t = some (.int k)) {v : Value} {d : DataW H} {ps : List MemPlace} (hv : Value.okWide P w r b0 t v) (h : DataW.Trod enc P w base sp held t v d ps) : ∃ n, v = .int k n ∧ (Lit.int k n).wf = true := by
  obtain ⟨n, hn⟩ := h
  obtain ⟨m, rfl⟩ := okWide_int ht hv
  obtain ⟨n, h1, _, h2⟩ := DataW.trod_int ht hn
  cases h1
  exact ⟨_, rfl, h2⟩
theorem arg_string {r : Reach} {b0 : Nat} {t : TypeId} (ht : P.underlying t = some .string) {v : Value} {d : DataW H} {ps : List MemPlace} (hv : Value.okWide P w r b0 t v) (h : DataW.Trod enc P w base sp held t v d ps) : ∃ s, v = .string s ∧ s.size ≤ maxLen := by
  obtain ⟨n, hn⟩ := h
  obtain ⟨m, rfl⟩ := okWide_string ht hv
  obtain ⟨n, h1, _, h2⟩ := DataW.trod_string ht hn
  cases h1
  exact ⟨_, rfl, h2⟩
/-- an argument that is a struct of one slice -/
theorem arg_box {α : Type} [Dat α] {r : Reach} {b0 : Nat} {t e : TypeId} {fs : Array Field} {f : Field} (ht : P.underlying t = some (.struct fs)) (h1c : P.cellsOf t = 1) (hi : fs[0]? = some f) (h0 : f.offset = 0) (hs : P.underlying f.type = some (.slice e)) (hc : P.cellsOf f.type = 1) (o : Opens P w e α)
    {v : Value} {d : DataW H} {ps : List MemPlace} (hv : Value.okWide P w r b0 t v) (h : DataW.Trod enc P w base sp held t v d ps) :
    ∃ (l : List α) (u : SV), v = .agg #[u.v] ∧ RSl (whole w) l u.v := by
  obtain ⟨n, hn⟩ := h
  obtain ⟨cs, rfl, hl⟩ := okWide_struct ht hv
  obtain ⟨l, u, h1, h2⟩ := field_slice ht hn 0 hi hs hc o
  rw [h1c] at hl
  refine ⟨l, u, ?_, h2⟩
  rw [h0] at h1
  cases cs with
  | mk cs =>
    simp at hl
    obtain ⟨c, rfl⟩ := List.length_eq_one_iff.1 hl
    simp [Value.cells] at h1
    rw [h1]
/-- an argument that is an array of ints -/
theorem arg_array {r : Reach} {b0 : Nat} {t e : TypeId} {m : Nat} (ht : P.underlying t = some (.array m e)) (he : P.underlying e = some (.int .i64)) (hc : P.cellsOf t = m) (h1 : P.cellsOf e = 1) {v : Value} {d : DataW H} {ps : List MemPlace} (hv : Value.okWide P w r b0 t v) (h : DataW.Trod enc P w base sp held t v d ps) :
    ∃ l : List Int, l.length = m ∧ v = .agg ⟨l.map fun n => .int .i64 n⟩ := by
  obtain ⟨n, hn⟩ := h
  simp only [Value.okWide, ht] at hv
  obtain ⟨cs, rfl, hl, _⟩ := hv
  obtain ⟨xs, k, _, _, _, hx, hel⟩ := DataW.trod_array ht hn
  simp only [Value.cells, h1, Nat.mul_one] at hel
  rw [hc] at hl
  have each : ∀ i, i < m → ∃ n : Int, cs.toList[i]? = some (.int .i64 n) := fun i hi => by
    have h2 := hel i hi
    have hi' : i < cs.toList.length := by simpa [hl] using hi
    rw [List.getElem?_eq_getElem (by omega), List.drop_eq_getElem_cons hi'] at h2
    obtain ⟨n, h3, _, _⟩ := DataW.trod_int he h2
    simp at h3
    exact ⟨n, by rw [List.getElem?_eq_getElem hi']; simp [h3]⟩
  refine ⟨(List.range m).map fun i => match cs.toList[i]? with | some (Value.int .i64 n) => n | _ => 0, by simp, ?_⟩
  congr 1
  cases cs with
  | mk cs =>
    congr 1
    refine List.ext_getElem? fun i => ?_
    rcases Nat.lt_or_ge i m with hi | hi
    · obtain ⟨n, hn⟩ := each i hi
      simp only at hn
      simp [hi, hn]
    · have hl' : cs.length = m := by simpa using hl
      rw [List.getElem?_eq_none (by omega), List.getElem?_eq_none (by simp; omega)]
/-- arguments read as they did, where old memory has stayed -/
theorem keep_all (hl : laidOutB P = true) {W W' : World} (hb : Below W.heap.size W W') : ∀ {ts : List TypeId} {vs : List Value} {ds : List (DataW H)} {ps : List MemPlace}, (ts.all fun t => P.readableRec t && decide (t < P.types.size)) = true →
    DataW.TrodAll enc P W 0 (fun _ => true) true ts vs ds ps → (∀ x ∈ ps, x.block < W.heap.size) → ∀ sp' : Nat → Bool, (∀ x ∈ ps, sp' x.block = true) → DataW.TrodAll enc P W' 0 sp' true ts vs ds ps
  | [], [], [], _, _, h, _, _, _ => h
  | t :: ts, _ :: _, _ :: _, _, ht, ⟨p, q, h1, h2, e⟩, hlt, sp', hs => by
    simp only [List.all_cons, Bool.and_eq_true, decide_eq_true_eq] at ht
    refine ⟨p, q, WideElems.Trod_stays hl ht.1.1 ht.1.2 h1 (fun x hx => hb.same (hlt x (by rw [e]; exact List.mem_append_left _ hx))) (fun x hx => hs x (by rw [e]; exact List.mem_append_left _ hx)), keep_all hl hb (by simpa using ht.2) h2 (fun x hx => hlt x (by rw [e]; exact List.mem_append_right _ hx)) sp' (fun x hx => hs x (by rw [e]; exact List.mem_append_right _ hx)), e⟩
theorem opens_u8 {k : TypeId} (ht : P.underlying k = some (.int .u8)) (hc : P.cellsOf k = 1) : Opens P w k UInt8 :=
  ⟨hc, by decide, fun h => by
    obtain ⟨n, rfl, _, hw⟩ := DataW.trod_int ht h
    have : 0 ≤ n ∧ n < 256 := by simp [Lit.wf, IntKind.min, IntKind.max, IntKind.signed, IntKind.bits] at hw; omega
    exact ⟨UInt8.ofNat n.toNat, by
      show _ = [Value.int .u8 _]
      rw [UInt8.toNat_ofNat']
      congr 2
      omega, trivial⟩⟩
theorem opens_fat {α : Type} [Dat α] {k e : TypeId} (ht : P.underlying k = some (.slice e)) (hc : P.cellsOf k = 1) (o : Opens P w e α) : Opens P w k (Fat α) :=
  ⟨hc, by show 0 < 1; decide, fun h => by
    obtain ⟨l, s, rfl, hr⟩ := opens_slice ht o h
    exact ⟨⟨l, s⟩, rfl, hr⟩⟩
/-- a law's call: nothing is handed over, everything may be read -/
theorem Cp.law {P : Program} {f : FuncId} {args : Array Value} {F : List FP} {v : Value} (h : Cp P f args F v) (W : World) (hF : conjL (F.map fun q => q.p (whole W))) : Calls P f args W fun e w' => e = .returned v ∧ Base [] W w' := by
  refine (h W (whole W) (fun _ => none) (whole_agrees W) (fun q hq => conjL_mem hF _ (List.mem_map_of_mem hq)) ⟨Base.refl _ _, fun K hK => ?_, fun k b o hk => ?_, fun k l b o o' hk _ => ?_⟩ fun r x hx => ?_).mono ?_
  · have : K = whole W := by simpa using hK
    subst this; exact whole_agrees W
  · simp [ents] at hk
  · simp [ents] at hk
  · simp at hx
  · rintro e w' ⟨g, C⟩
    exact ⟨C.ret, C.base⟩
theorem opens_int {k : TypeId} (ht : P.underlying k = some (.int .i64)) (hc : P.cellsOf k = 1) : Opens P w k Int :=
  ⟨hc, by decide, fun h => by obtain ⟨n, rfl, _, _⟩ := DataW.trod_int ht h; exact ⟨n, rfl, trivial⟩⟩
theorem opens_string {k : TypeId} (ht : P.underlying k = some .string) (hc : P.cellsOf k = 1) : Opens P w k ByteArray :=
  ⟨hc, by decide, fun h => by obtain ⟨s, rfl, _, _⟩ := DataW.trod_string ht h; exact ⟨s, rfl, trivial⟩⟩
end
end Kb
namespace Kb
open Go Go.Proofs
theorem opens_31 (w : World) : Opens Try.prog w 31 DBig := ⟨by kernel_rfl, by decide, fun {_ _ _ _ _ _ cs _} h => by
  have hl : cs.length = 2 := (struct_len Try.underlying31 h).trans (by kernel_rfl)
  obtain ⟨y0, e0, g0⟩ := Opens.field Try.underlying31 h 0 rfl (Kb.opens_int Try.underlying3 (by kernel_rfl))
  obtain ⟨y1, e1, g1⟩ := Opens.field Try.underlying31 h 1 rfl (Kb.opens_fat Try.underlying29 (by kernel_rfl) (Kb.opens_int Try.underlying3 (by kernel_rfl)))
  obtain ⟨c0, c1, rfl⟩ : ∃ c0 c1, cs = [c0, c1] := by
    rcases cs with _ | ⟨c0, _ | ⟨c1, _ | ⟨_, _⟩⟩⟩
    all_goals first | exact ⟨_, _, rfl⟩ | (simp at hl; done) | (simp at hl; omega)
  simp [Dat.cells, Dat.size] at e0 e1
  refine ⟨⟨y0, y1⟩, ?_, g1⟩
  simp [Dat.cells, e0, e1]⟩
theorem opens_33 (w : World) : Opens Try.prog w 33 DFrac := ⟨by kernel_rfl, by decide, fun {_ _ _ _ _ _ cs _} h => by
  have hl : cs.length = 4 := (struct_len Try.underlying33 h).trans (by kernel_rfl)
  obtain ⟨y0, e0, g0⟩ := Opens.field Try.underlying33 h 0 rfl (Kb.opens_31 w)
  obtain ⟨y1, e1, g1⟩ := Opens.field Try.underlying33 h 1 rfl (Kb.opens_31 w)
  obtain ⟨c0, c1, c2, c3, rfl⟩ : ∃ c0 c1 c2 c3, cs = [c0, c1, c2, c3] := by
    rcases cs with _ | ⟨c0, _ | ⟨c1, _ | ⟨c2, _ | ⟨c3, _ | ⟨_, _⟩⟩⟩⟩⟩
    all_goals first | exact ⟨_, _, _, _, rfl⟩ | (simp at hl; done) | (simp at hl; omega)
  simp [Dat.cells, Dat.size] at e0 e1
  refine ⟨⟨y0, y1⟩, ?_, ⟨g0, g1⟩⟩
  simp [Dat.cells, e0, e1]⟩
end Kb
