/- Texts for the claim, put together: the calculus of regions, its rules, and contracts of the functions that the law reaches. -/
import Derived.Test.YtpnbgdgjgndicaaZvwb
set_option linter.unusedVariables false
set_option linter.unusedSectionVars false
set_option linter.unusedSimpArgs false
namespace Kb
open Go Go.Proofs
set_option maxRecDepth 10000 in
theorem of_ct (n : Int) (hn : -9223372036854775808 ≤ n ∧ n ≤ 9223372036854775807) :
    Ct Try.prog 80 #[iv n] [] [] (fun g => ag (DBig.mk (Bg.sgn n) ⟨Bg.dig n.natAbs, (g.ss 0)⟩)) (fun g => [fs true (Bg.dig n.natAbs) (g.ss 0)]) (fun g => []) (fun g => []) := by
  refine V.fn mo Try.func80 25 2 (by kernel_rfl) fun w H ε k0 => ?_
  clear k0
  refine V.g [.nb 0 0 (fun b => pp b 0) 28 (fun _ => ca (DBig.mk 0 ⟨[], {}⟩))] fun _ _ G1 => ?_
  intro S_ s_
  refine nm (n % 18446744073709551616 : Int) fun n1 hn1 => ?_
  refine V.g [.k (iv n),.ek g0 .u64 n n1 (fun _ => by rw [wrapU64, hn1]),.k (iv 1),.k (.int .u64 n1)] fun _ _ G2 => ?_
  intro S_ s_
  refine V.g [.k (iv n),.k (bv (decide (n < 0)))] fun _ _ G3 => ?_
  intro S_ s_
  refine V.cond (b := decide (n < 0)) iDT iDF (by kernel_rfl) (fun q1 => ?_) (fun q2 => ?_)
  · refine nm ((0 - n1) % 18446744073709551616 : Int) fun n2 hn2 => ?_
    refine V.g [.k (.int .u64 n1),.ek g0 .u64 (0 - n1) n2 (fun _ => by rw [wrapU64, hn2]),.k (iv (-1)),.k (.int .u64 n2)] fun _ _ G4 => ?_
    intro S_ s_
    refine V.g [.k (.slice none 0 0)] fun _ _ G5 => ?_
    intro S_ s_
    refine V.on (α := Int) 1 3 (by kernel_rfl) ?_
    refine V.loop (γ := Int × List Int × SV) (fun ⟨u, l, ls⟩ => ⟨[(2, pp ((G1 0).b) 0), (3, iv (-1)), (4, .int .u64 u), (5, ls.v)], [], [.blk ((G1 0).b) (ca (DBig.mk 0 ⟨[], {}⟩)) 28, os true 3 l ls]⟩) (fun ⟨u, l, ls⟩ => (Bg.OfI n.natAbs l u)) (fun ⟨u, l, ls⟩ => u.toNat) (n2, ([] : List Int), {}) (by kernel_rfl) [] (by kernel_rfl) ?_ ?_
    · · show Bg.OfI n.natAbs ([] : List Int) n2
        exact Bg.of_start (by omega) (by omega)
    rintro ⟨u, l, ls⟩ hF1 kw6 Z1 hZ1
    have hf1 : Bg.OfI n.natAbs l u := hF1
    obtain ⟨⟨kl1, -⟩, -⟩ : Lq l ls.v ∧ True := kn kw6 (by kernel_rfl)
    clear kw6
    have hu0 := hf1.u0
    have hul : u < 18446744073709551616 := by have := hf1.sum; have := Nat.le_mul_of_pos_left u.toNat (Nat.pow_pos (n := l.length) (show 0 < 1048576 by omega)); omega
    refine V.g [.k (.int .u64 u),.k (bv (decide (0 < u)))] fun _ _ G6 => ?_
    intro S_ s_
    refine V.cond (b := decide (0 < u)) iDT iDF (by kernel_rfl) (fun q3 => ?_) (fun q4 => ?_)
    · have hll := Bg.of_len hf1 q3 (by omega)
      refine nm (u % 1048576 : Int) fun n3 hn3 => ?_
      refine nm (l ++ [n3] : List Int) fun l1 hl1 => ?_
      have hl1n := congrArg List.length hl1; try simp only [List.length_append, List.length_cons, List.length_nil, List.length_replicate, List.length_set, List.length_take, List.length_drop, List.length_map, List.length_reverse, List.length_range] at hl1n
      refine V.r [.k (ls.v),.k (.int .u64 u),.andu g0 u 1048575 n3 20 (by decide) rfl (by rw [hn3]; rfl),.ek g0 .i64 n3 n3 (fun _ => by rw [IntKind.wrap_i64]; omega),.nr 4 true 3 [n3] [] (fun _ _ _ _ _ => trivial) (fun _ => #[iv n3]),.ap 5 1 3 8 false true l (fun _ => ls) (kf true (.g 4 0) [n3] (fun G => ⟨atB (G 4).b, 1, 1⟩)) true l1 hl1 (by (try simp only [List.length_append, List.length_cons, List.length_nil, List.length_replicate, List.length_set, List.length_take, List.length_drop, List.length_map, List.length_reverse, List.length_range]); omega) (fun h => by cases h) (.inr fun _ _ => trivial),.v fun G => ((G 5).s).v] fun _ _ G7 kw8 => ?_
      intro S_ s_
      obtain ⟨⟨kl2, -⟩, -⟩ : Lq [n3] (SV.v ⟨atB (G7 4).b, 1, 1⟩) ∧ Lq l1 (((G7 5).s).v) ∧ True := kn kw8 (by kernel_rfl)
      clear kw8
      refine nm (u / 1048576 : Int) fun n4 hn4 => ?_
      refine V.g [.k (.int .u64 u),.shrm g0 .u64 .u64 u n4 20 (by decide) (by rw [hn4]; rfl),.k (.int .u64 n4)] fun _ _ G8 => ?_
      intro S_ s_
      refine V.rnd hZ1 (n4, l1, (G7 5).s) [] (by kernel_rfl) ?_ ?_
      · · show Bg.OfI n.natAbs l1 n4
          rw [hl1, hn3, hn4]; exact Bg.of_step hf1
      show n4.toNat < u.toNat
      omega
    refine V.frz 1 true 3 l ls (by kernel_rfl) ?_
    refine V.r [.k (iv (-1)),.k (ls.v),.ctT g0 2 99 [(kf true (.f 0) l (fun _ => ls)).a] (fun _ G => signed_ct (-1 : Int) l ls hf1.dg),.st 0 (fun G => .blk ((G1 0).b) (ca (DBig.mk (Bg.sg0 (Bg.nv l) (-1 : Int)) ⟨Bg.dig (Bg.nv l), (G 2).ss 0⟩)) 28)] fun _ _ G9 kw10 => ?_
    intro S_ s_
    obtain ⟨⟨kl3, -⟩, -⟩ : Lq (Bg.dig (Bg.nv l)) (((G9 2).ss 0).v) ∧ True := kn kw10 (by kernel_rfl)
    clear kw10
    have e1 : Bg.dig (Bg.nv l) = Bg.dig n.natAbs := by rw [Bg.of_end hf1 q4]
    rw [← e1]
    have e0 : (Bg.sg0 (Bg.nv l) (-1 : Int)) = Bg.sgn n := by rw [Bg.of_end hf1 q4]; exact Bg.of_sgn rfl _ (by omega)
    exact V.ret [0] [(G9 2).ss 0] [fun _ => {}] [] [1] [] (ag (DBig.mk (Bg.sg0 (Bg.nv l) (-1 : Int)) ⟨Bg.dig (Bg.nv l), (G9 2).ss 0⟩)) (fun _ _ => by kernel_rfl) (fun _ _ => (Eq.trans (by kernel_rfl) (cong1 (fun (x0 : Int) => (.agg #[iv x0, ((G9 2).ss 0).v] : Value)) e0)).trans (by kernel_rfl)) (fun _ _ => trivial)
  refine V.g [.k (.slice none 0 0)] fun _ _ G10 => ?_
  intro S_ s_
  refine V.on (α := Int) 1 3 (by kernel_rfl) ?_
  refine V.loop (γ := Int × List Int × SV) (fun ⟨u_1, l_1, l_1s⟩ => ⟨[(2, pp ((G1 0).b) 0), (3, iv 1), (4, .int .u64 u_1), (5, l_1s.v)], [], [.blk ((G1 0).b) (ca (DBig.mk 0 ⟨[], {}⟩)) 28, os true 3 l_1 l_1s]⟩) (fun ⟨u_1, l_1, l_1s⟩ => (Bg.OfI n.natAbs l_1 u_1)) (fun ⟨u_1, l_1, l_1s⟩ => u_1.toNat) (n1, ([] : List Int), {}) (by kernel_rfl) [] (by kernel_rfl) ?_ ?_
  · · show Bg.OfI n.natAbs ([] : List Int) n1
      exact Bg.of_start (by omega) (by omega)
  rintro ⟨u_1, l_1, l_1s⟩ hF2 kw12 Z2 hZ2
  have hf2 : Bg.OfI n.natAbs l_1 u_1 := hF2
  obtain ⟨⟨kl4, -⟩, -⟩ : Lq l_1 l_1s.v ∧ True := kn kw12 (by kernel_rfl)
  clear kw12
  have hu0 := hf2.u0
  have hul : u_1 < 18446744073709551616 := by have := hf2.sum; have := Nat.le_mul_of_pos_left u_1.toNat (Nat.pow_pos (n := l_1.length) (show 0 < 1048576 by omega)); omega
  refine V.g [.k (.int .u64 u_1),.k (bv (decide (0 < u_1)))] fun _ _ G11 => ?_
  intro S_ s_
  refine V.cond (b := decide (0 < u_1)) iDT iDF (by kernel_rfl) (fun q5 => ?_) (fun q6 => ?_)
  · have hll := Bg.of_len hf2 q5 (by omega)
    refine nm (u_1 % 1048576 : Int) fun n5 hn5 => ?_
    refine nm (l_1 ++ [n5] : List Int) fun l2 hl2 => ?_
    have hl2n := congrArg List.length hl2; try simp only [List.length_append, List.length_cons, List.length_nil, List.length_replicate, List.length_set, List.length_take, List.length_drop, List.length_map, List.length_reverse, List.length_range] at hl2n
    refine V.r [.k (l_1s.v),.k (.int .u64 u_1),.andu g0 u_1 1048575 n5 20 (by decide) rfl (by rw [hn5]; rfl),.ek g0 .i64 n5 n5 (fun _ => by rw [IntKind.wrap_i64]; omega),.nr 4 true 3 [n5] [] (fun _ _ _ _ _ => trivial) (fun _ => #[iv n5]),.ap 5 1 3 8 false true l_1 (fun _ => l_1s) (kf true (.g 4 0) [n5] (fun G => ⟨atB (G 4).b, 1, 1⟩)) true l2 hl2 (by (try simp only [List.length_append, List.length_cons, List.length_nil, List.length_replicate, List.length_set, List.length_take, List.length_drop, List.length_map, List.length_reverse, List.length_range]); omega) (fun h => by cases h) (.inr fun _ _ => trivial),.v fun G => ((G 5).s).v] fun _ _ G12 kw14 => ?_
    intro S_ s_
    obtain ⟨⟨kl5, -⟩, -⟩ : Lq [n5] (SV.v ⟨atB (G12 4).b, 1, 1⟩) ∧ Lq l2 (((G12 5).s).v) ∧ True := kn kw14 (by kernel_rfl)
    clear kw14
    refine nm (u_1 / 1048576 : Int) fun n6 hn6 => ?_
    refine V.g [.k (.int .u64 u_1),.shrm g0 .u64 .u64 u_1 n6 20 (by decide) (by rw [hn6]; rfl),.k (.int .u64 n6)] fun _ _ G13 => ?_
    intro S_ s_
    refine V.rnd hZ2 (n6, l2, (G12 5).s) [] (by kernel_rfl) ?_ ?_
    · · show Bg.OfI n.natAbs l2 n6
        rw [hl2, hn5, hn6]; exact Bg.of_step hf2
    show n6.toNat < u_1.toNat
    omega
  refine V.frz 1 true 3 l_1 l_1s (by kernel_rfl) ?_
  refine V.r [.k (iv 1),.k (l_1s.v),.ctT g0 2 99 [(kf true (.f 0) l_1 (fun _ => l_1s)).a] (fun _ G => signed_ct (1 : Int) l_1 l_1s hf2.dg),.st 0 (fun G => .blk ((G1 0).b) (ca (DBig.mk (Bg.sg0 (Bg.nv l_1) (1 : Int)) ⟨Bg.dig (Bg.nv l_1), (G 2).ss 0⟩)) 28)] fun _ _ G14 kw16 => ?_
  intro S_ s_
  obtain ⟨⟨kl6, -⟩, -⟩ : Lq (Bg.dig (Bg.nv l_1)) (((G14 2).ss 0).v) ∧ True := kn kw16 (by kernel_rfl)
  clear kw16
  have e1 : Bg.dig (Bg.nv l_1) = Bg.dig n.natAbs := by rw [Bg.of_end hf2 q6]
  rw [← e1]
  have e0 : (Bg.sg0 (Bg.nv l_1) (1 : Int)) = Bg.sgn n := by rw [Bg.of_end hf2 q6]; exact Bg.of_sgn rfl _ (by omega)
  exact V.ret [0] [(G14 2).ss 0] [fun _ => {}] [] [1] [] (ag (DBig.mk (Bg.sg0 (Bg.nv l_1) (1 : Int)) ⟨Bg.dig (Bg.nv l_1), (G14 2).ss 0⟩)) (fun _ _ => by kernel_rfl) (fun _ _ => (Eq.trans (by kernel_rfl) (cong1 (fun (x0 : Int) => (.agg #[iv x0, ((G14 2).ss 0).v] : Value)) e0)).trans (by kernel_rfl)) (fun _ _ => trivial)
theorem of_ctv (n : Int) (hn : -9223372036854775808 ≤ n ∧ n ≤ 9223372036854775807) (rv0 : Int) (erv0 : rv0 = Bg.sgn n) (rv1 : List Int) (erv1 : rv1 = Bg.dig n.natAbs) :
    Ct Try.prog 80 #[iv n] [] [] (fun g => ag (DBig.mk rv0 ⟨rv1, (g.ss 0)⟩)) (fun g => [fs true rv1 (g.ss 0)]) (fun g => []) (fun g => []) := by
  subst erv0 erv1; exact of_ct n hn

open Go Go.Proofs
set_option maxRecDepth 10000 in
theorem int_ct (a_Sign : Int) (a_Digits : List Int) (a_Digitss : SV) :
    Cp Try.prog 100 #[ag (DBig.mk a_Sign ⟨a_Digits, a_Digitss⟩)] [fs true a_Digits a_Digitss] (.tuple #[iv (Bg.intV a_Sign a_Digits), bv (decide (Bg.inI a_Sign a_Digits))]) := by
  refine V.fn mo Try.func100 59 1 (by kernel_rfl) fun w H ε k0 => ?_
  obtain ⟨⟨kl1, -⟩, -⟩ : Lq a_Digits a_Digitss.v ∧ True := kn k0 (by kernel_rfl)
  clear k0
  refine V.g [.nb 0 0 (fun b => pp b 0) 28 (fun _ => ca (DBig.mk a_Sign ⟨a_Digits, a_Digitss⟩)),.k (iv 0),.kb false] fun _ _ G1 => ?_
  intro S_ s_
  refine nm ((!(decide (Bg.RtB a_Sign a_Digits))) || (decide (4 < (a_Digits.length : Int))) : Bool) fun p1 hp1 => ?_
  refine V.g [.ld 0 0 true (fun _ => Dat.cells (DBig.mk a_Sign ⟨a_Digits, a_Digitss⟩)),.cp g0 1 60 [(kf false (.f 0) a_Digits (fun _ => a_Digitss)).a] (fun _ G => bright_ct a_Sign a_Digits a_Digitss),.k (bv (!(decide (Bg.RtB a_Sign a_Digits)))),.k (bv (!(decide (Bg.RtB a_Sign a_Digits)))),.k (pp ((G1 0).b) 1),.ld 0 1 false (fun _ => [a_Digitss.v]),.ln (kf false (.f 0) a_Digits (fun _ => a_Digitss)),.k (bv (decide (4 < (a_Digits.length : Int)))),.orn g0 false (!(decide (Bg.RtB a_Sign a_Digits))) (decide (4 < (a_Digits.length : Int))) p1 hp1] fun _ _ G2 => ?_
  intro S_ s_
  refine V.cond (b := p1) (iN hp1 (iOT (iNT iDF) iDT)) (iN hp1 (iOF (iNF iDT) iDF)) (by kernel_rfl) (fun q1 => ?_) (fun q2 => ?_)
  · have hNo : ¬ Bg.inI a_Sign a_Digits := by
      rcases q1 with h | h
      · exact fun hi => h hi.1
      exact fun hi => Bg.int_len hi.1 h hi
    refine V.g [.k (iv 0),.kb false] fun _ _ G3 => ?_
    intro S_ s_
    have e0 : (0 : Int) = Bg.intV a_Sign a_Digits := (Bg.intV_n hNo).symm
    have e1 : false = decide (Bg.inI a_Sign a_Digits) := (decide_eq_false hNo).symm
    exact V.ret [0, 0] [] [] [] [] [] (.tuple #[iv 0, bv false]) (fun _ _ => by kernel_rfl) (fun _ _ => (Eq.trans (by kernel_rfl) (cong2 (fun (x0 : Int) (x1 : Bool) => (.tuple #[iv x0, bv x1] : Value)) e0 e1)).trans (by kernel_rfl)) (fun _ _ => trivial)
  have hRt : Bg.RtB a_Sign a_Digits := by first | exact (q2).1 | exact Decidable.not_not.1 (q2).1
  have hzs := Bg.zv_s hRt
  refine V.g [.k (.int .u64 0)] fun _ _ G4 => ?_
  intro S_ s_
  refine V.g [.k (pp ((G1 0).b) 1),.ld 0 1 false (fun _ => [a_Digitss.v]),.ln (kf false (.f 0) a_Digits (fun _ => a_Digitss)),.k (iv 0)] fun _ _ G5 => ?_
  intro S_ s_
  refine V.loop (γ := Int × Int) (fun ⟨u, k0⟩ => ⟨[(1, pp ((G1 0).b) 0), (4, .int .u64 u), (17, a_Digitss.v), (18, iv (a_Digits.length : Int)), (19, iv k0)], [fs false a_Digits a_Digitss], [.blk ((G1 0).b) (ca (DBig.mk a_Sign ⟨a_Digits, a_Digitss⟩)) 28]⟩) (fun ⟨u, k0⟩ => (0 ≤ k0) ∧ (k0 ≤ (a_Digits.length : Int)) ∧ (u = (Bg.nv (a_Digits.take k0.toNat) : Int)) ∧ (u < 9223372036854775808 * 2)) (fun ⟨u, k0⟩ => ((a_Digits.length : Int) - k0).toNat) (0, 0) (by kernel_rfl) [0] (by kernel_rfl) ?_ ?_
  · refine ⟨?_, ?_, ?_, ?_⟩
    · show 0 ≤ (0 : Int)
      omega
    · show (0 : Int) ≤ (a_Digits.length : Int)
      omega
    · show (0 : Int) = (Bg.nv (a_Digits.take (0 : Int).toNat) : Int)
      simp [Bg.nv]
    show (0 : Int) < 9223372036854775808 * 2
    omega
  rintro ⟨u, k0⟩ hF1 kw6 Z1 hZ1
  have hF1 : (0 ≤ k0) ∧ (k0 ≤ (a_Digits.length : Int)) ∧ (u = (Bg.nv (a_Digits.take k0.toNat) : Int)) ∧ (u < 9223372036854775808 * 2) := hF1
  obtain ⟨hf1, hf2, hf3, hf4⟩ := hF1
  clear kw6
  refine V.g [.k (bv (decide (k0 < (a_Digits.length : Int))))] fun _ _ G6 => ?_
  intro S_ s_
  refine V.cond (b := decide (k0 < (a_Digits.length : Int))) iDT iDF (by kernel_rfl) (fun q3 => ?_) (fun q4 => ?_)
  · rcases (by omega : k0 = 0 ∨ k0 = 1 ∨ k0 = 2 ∨ k0 = 3) with hcs1 | hcs2 | hcs3 | hcs4
    · refine V.alt (fun (zz : Int) => (⟨[(1, pp ((G1 0).b) 0), (4, .int .u64 u), (17, a_Digitss.v), (18, iv (a_Digits.length : Int)), (19, iv zz), (20, bv (decide (k0 < (a_Digits.length : Int))))], [fs false a_Digits a_Digitss], [.blk ((G1 0).b) (ca (DBig.mk a_Sign ⟨a_Digits, a_Digitss⟩)) 28]⟩ : St)) hcs1 [0] (by kernel_rfl) ?_
      refine nm (a_Digits.getD (0 : Int).toNat default : Int) fun v1 hv1 => ?_
      refine V.g [.k (iv 0),.ix g0 (kf false (.f 0) a_Digits (fun _ => a_Digitss)) 0 (fun _ => ⟨by omega, by omega⟩),.le g0 (kf false (.f 0) a_Digits (fun _ => a_Digitss)) (0 : Int) none false v1 hv1 (fun _ => ⟨by omega, by omega⟩) false (fun _ => [iv v1]),.k (iv 0),.k (iv v1)] fun _ _ G7 => ?_
      intro S_ s_
      refine V.g [.k (iv 0),.kb false,.kb false,.dead,.dead,.kb false] fun _ _ G8 => ?_
      intro S_ s_
      refine V.condF (by kernel_rfl) ?_
      have huc : u = (Bg.nv (a_Digits.take 0) : Int) := by rw [hf3, hcs1]; rfl
      have hlt := Bg.take_lt hRt.dg 0
      have hst := Bg.int_step (k := 0) (v := v1) (by omega) hv1 hRt.dg
      have hpw : (1048576 : Nat) ^ 0 = 1 := by decide
      rw [hpw] at hst hlt
      have hst0 := hst.2
      have hst1 : Bg.nv (a_Digits.take 1) = _ := hst.1
      refine nm (v1 % 18446744073709551616 : Int) fun n1 hn1 => ?_
      refine nm (n1 * 1 : Int) fun n2 hn2 => ?_
      refine nm (u + n2 : Int) fun n3 hn3 => ?_
      refine V.g [.k (.int .u64 u),.k (iv v1),.ek g0 .u64 v1 n1 (fun _ => by rw [wrapU64, hn1]),.k (iv 0),.k (iv 0),.shlm g0 .u64 .i64 n1 0 n2 0 (fun _ => ⟨rfl, by decide, by show _ = IntKind.u64.wrap (n1 * 1); rw [wrapU64]; omega⟩),.oru g0 u n2 n1 n3 0 (by rw [hn2]; rfl) (fun _ => ⟨by decide, by omega, ⟨by omega, by show _ < (1 : Int); omega⟩, by rw [hn3, hn2]; show _ = _ * (1 : Int) + _; omega, by omega⟩),.k (.int .u64 n3)] fun _ _ G9 => ?_
      intro S_ s_
      refine V.g [.k (iv 1),.k (iv 1)] fun _ _ G10 => ?_
      intro S_ s_
      refine V.rnd hZ1 (n3, 1) [0] (by kernel_rfl) ?_ ?_
      · refine ⟨?_, ?_, ?_, ?_⟩
        · show 0 ≤ (1 : Int)
          omega
        · show (1 : Int) ≤ (a_Digits.length : Int)
          omega
        · show n3 = (Bg.nv (a_Digits.take (1 : Int).toNat) : Int)
          show n3 = (Bg.nv (a_Digits.take 1) : Int); rw [hst1, hn3, hn2]; omega
        show n3 < 9223372036854775808 * 2
        omega
      show ((a_Digits.length : Int) - (1 : Int)).toNat < ((a_Digits.length : Int) - k0).toNat
      omega
    · refine V.alt (fun (zz : Int) => (⟨[(1, pp ((G1 0).b) 0), (4, .int .u64 u), (17, a_Digitss.v), (18, iv (a_Digits.length : Int)), (19, iv zz), (20, bv (decide (k0 < (a_Digits.length : Int))))], [fs false a_Digits a_Digitss], [.blk ((G1 0).b) (ca (DBig.mk a_Sign ⟨a_Digits, a_Digitss⟩)) 28]⟩ : St)) hcs2 [0] (by kernel_rfl) ?_
      refine nm (a_Digits.getD (1 : Int).toNat default : Int) fun v2 hv2 => ?_
      refine V.g [.k (iv 1),.ix g0 (kf false (.f 0) a_Digits (fun _ => a_Digitss)) 1 (fun _ => ⟨by omega, by omega⟩),.le g0 (kf false (.f 0) a_Digits (fun _ => a_Digitss)) (1 : Int) none false v2 hv2 (fun _ => ⟨by omega, by omega⟩) false (fun _ => [iv v2]),.k (iv 1),.k (iv v2)] fun _ _ G11 => ?_
      intro S_ s_
      refine V.g [.k (iv 1),.kb false,.kb false,.dead,.dead,.kb false] fun _ _ G12 => ?_
      intro S_ s_
      refine V.condF (by kernel_rfl) ?_
      have huc : u = (Bg.nv (a_Digits.take 1) : Int) := by rw [hf3, hcs2]; rfl
      have hlt := Bg.take_lt hRt.dg 1
      have hst := Bg.int_step (k := 1) (v := v2) (by omega) hv2 hRt.dg
      have hpw : (1048576 : Nat) ^ 1 = 1048576 := by decide
      rw [hpw] at hst hlt
      have hst0 := hst.2
      have hst1 : Bg.nv (a_Digits.take 2) = _ := hst.1
      refine nm (v2 % 18446744073709551616 : Int) fun n4 hn4 => ?_
      refine nm (n4 * 1048576 : Int) fun n5 hn5 => ?_
      refine nm (u + n5 : Int) fun n6 hn6 => ?_
      refine V.g [.k (.int .u64 u),.k (iv v2),.ek g0 .u64 v2 n4 (fun _ => by rw [wrapU64, hn4]),.k (iv 1),.k (iv 20),.shlm g0 .u64 .i64 n4 20 n5 20 (fun _ => ⟨rfl, by decide, by show _ = IntKind.u64.wrap (n4 * 1048576); rw [wrapU64]; omega⟩),.oru g0 u n5 n4 n6 20 (by rw [hn5]; rfl) (fun _ => ⟨by decide, by omega, ⟨by omega, by show _ < (1048576 : Int); omega⟩, by rw [hn6, hn5]; show _ = _ * (1048576 : Int) + _; omega, by omega⟩),.k (.int .u64 n6)] fun _ _ G13 => ?_
      intro S_ s_
      refine V.g [.k (iv 2),.k (iv 2)] fun _ _ G14 => ?_
      intro S_ s_
      refine V.rnd hZ1 (n6, 2) [0] (by kernel_rfl) ?_ ?_
      · refine ⟨?_, ?_, ?_, ?_⟩
        · show 0 ≤ (2 : Int)
          omega
        · show (2 : Int) ≤ (a_Digits.length : Int)
          omega
        · show n6 = (Bg.nv (a_Digits.take (2 : Int).toNat) : Int)
          show n6 = (Bg.nv (a_Digits.take 2) : Int); rw [hst1, hn6, hn5]; omega
        show n6 < 9223372036854775808 * 2
        omega
      show ((a_Digits.length : Int) - (2 : Int)).toNat < ((a_Digits.length : Int) - k0).toNat
      omega
    · refine V.alt (fun (zz : Int) => (⟨[(1, pp ((G1 0).b) 0), (4, .int .u64 u), (17, a_Digitss.v), (18, iv (a_Digits.length : Int)), (19, iv zz), (20, bv (decide (k0 < (a_Digits.length : Int))))], [fs false a_Digits a_Digitss], [.blk ((G1 0).b) (ca (DBig.mk a_Sign ⟨a_Digits, a_Digitss⟩)) 28]⟩ : St)) hcs3 [0] (by kernel_rfl) ?_
      refine nm (a_Digits.getD (2 : Int).toNat default : Int) fun v3 hv3 => ?_
      refine V.g [.k (iv 2),.ix g0 (kf false (.f 0) a_Digits (fun _ => a_Digitss)) 2 (fun _ => ⟨by omega, by omega⟩),.le g0 (kf false (.f 0) a_Digits (fun _ => a_Digitss)) (2 : Int) none false v3 hv3 (fun _ => ⟨by omega, by omega⟩) false (fun _ => [iv v3]),.k (iv 2),.k (iv v3)] fun _ _ G15 => ?_
      intro S_ s_
      refine V.g [.k (iv 2),.kb false,.kb false,.dead,.dead,.kb false] fun _ _ G16 => ?_
      intro S_ s_
      refine V.condF (by kernel_rfl) ?_
      have huc : u = (Bg.nv (a_Digits.take 2) : Int) := by rw [hf3, hcs3]; rfl
      have hlt := Bg.take_lt hRt.dg 2
      have hst := Bg.int_step (k := 2) (v := v3) (by omega) hv3 hRt.dg
      have hpw : (1048576 : Nat) ^ 2 = 1099511627776 := by decide
      rw [hpw] at hst hlt
      have hst0 := hst.2
      have hst1 : Bg.nv (a_Digits.take 3) = _ := hst.1
      refine nm (v3 % 18446744073709551616 : Int) fun n7 hn7 => ?_
      refine nm (n7 * 1099511627776 : Int) fun n8 hn8 => ?_
      refine nm (u + n8 : Int) fun n9 hn9 => ?_
      refine V.g [.k (.int .u64 u),.k (iv v3),.ek g0 .u64 v3 n7 (fun _ => by rw [wrapU64, hn7]),.k (iv 2),.k (iv 40),.shlm g0 .u64 .i64 n7 40 n8 40 (fun _ => ⟨rfl, by decide, by show _ = IntKind.u64.wrap (n7 * 1099511627776); rw [wrapU64]; omega⟩),.oru g0 u n8 n7 n9 40 (by rw [hn8]; rfl) (fun _ => ⟨by decide, by omega, ⟨by omega, by show _ < (1099511627776 : Int); omega⟩, by rw [hn9, hn8]; show _ = _ * (1099511627776 : Int) + _; omega, by omega⟩),.k (.int .u64 n9)] fun _ _ G17 => ?_
      intro S_ s_
      refine V.g [.k (iv 3),.k (iv 3)] fun _ _ G18 => ?_
      intro S_ s_
      refine V.rnd hZ1 (n9, 3) [0] (by kernel_rfl) ?_ ?_
      · refine ⟨?_, ?_, ?_, ?_⟩
        · show 0 ≤ (3 : Int)
          omega
        · show (3 : Int) ≤ (a_Digits.length : Int)
          omega
        · show n9 = (Bg.nv (a_Digits.take (3 : Int).toNat) : Int)
          show n9 = (Bg.nv (a_Digits.take 3) : Int); rw [hst1, hn9, hn8]; omega
        show n9 < 9223372036854775808 * 2
        omega
      show ((a_Digits.length : Int) - (3 : Int)).toNat < ((a_Digits.length : Int) - k0).toNat
      omega
    refine V.alt (fun (zz : Int) => (⟨[(1, pp ((G1 0).b) 0), (4, .int .u64 u), (17, a_Digitss.v), (18, iv (a_Digits.length : Int)), (19, iv zz), (20, bv (decide (k0 < (a_Digits.length : Int))))], [fs false a_Digits a_Digitss], [.blk ((G1 0).b) (ca (DBig.mk a_Sign ⟨a_Digits, a_Digitss⟩)) 28]⟩ : St)) hcs4 [0] (by kernel_rfl) ?_
    refine nm (a_Digits.getD (3 : Int).toNat default : Int) fun v4 hv4 => ?_
    refine V.g [.k (iv 3),.ix g0 (kf false (.f 0) a_Digits (fun _ => a_Digitss)) 3 (fun _ => ⟨by omega, by omega⟩),.le g0 (kf false (.f 0) a_Digits (fun _ => a_Digitss)) (3 : Int) none false v4 hv4 (fun _ => ⟨by omega, by omega⟩) false (fun _ => [iv v4]),.k (iv 3),.k (iv v4)] fun _ _ G19 => ?_
    intro S_ s_
    refine V.g [.k (iv 3),.kb true,.kb true,.k (iv v4),.k (bv (decide (8 < v4))),.k (bv (decide (8 < v4)))] fun _ _ G20 => ?_
    intro S_ s_
    refine V.cond (b := decide (8 < v4)) iDT iDF (by kernel_rfl) (fun q5 => ?_) (fun q6 => ?_)
    · have hNo := Bg.int_top hRt (by omega) hv4 (by omega)
      refine V.g [.k (iv 0),.kb false] fun _ _ G21 => ?_
      intro S_ s_
      have e0 : (0 : Int) = Bg.intV a_Sign a_Digits := (Bg.intV_n hNo).symm
      have e1 : false = decide (Bg.inI a_Sign a_Digits) := (decide_eq_false hNo).symm
      exact V.ret [0, 0] [] [] [] [] [] (.tuple #[iv 0, bv false]) (fun _ _ => by kernel_rfl) (fun _ _ => (Eq.trans (by kernel_rfl) (cong2 (fun (x0 : Int) (x1 : Bool) => (.tuple #[iv x0, bv x1] : Value)) e0 e1)).trans (by kernel_rfl)) (fun _ _ => trivial)
    have huc : u = (Bg.nv (a_Digits.take 3) : Int) := by rw [hf3, hcs4]; rfl
    have hlt := Bg.take_lt hRt.dg 3
    have hst := Bg.int_step (k := 3) (v := v4) (by omega) hv4 hRt.dg
    have hpw : (1048576 : Nat) ^ 3 = 1152921504606846976 := by decide
    rw [hpw] at hst hlt
    have hst0 := hst.2
    have hst1 : Bg.nv (a_Digits.take 4) = _ := hst.1
    refine nm (v4 % 18446744073709551616 : Int) fun n10 hn10 => ?_
    refine nm (n10 * 1152921504606846976 : Int) fun n11 hn11 => ?_
    refine nm (u + n11 : Int) fun n12 hn12 => ?_
    refine V.g [.k (.int .u64 u),.k (iv v4),.ek g0 .u64 v4 n10 (fun _ => by rw [wrapU64, hn10]),.k (iv 3),.k (iv 60),.shlm g0 .u64 .i64 n10 60 n11 60 (fun _ => ⟨rfl, by decide, by show _ = IntKind.u64.wrap (n10 * 1152921504606846976); rw [wrapU64]; omega⟩),.oru g0 u n11 n10 n12 60 (by rw [hn11]; rfl) (fun _ => ⟨by decide, by omega, ⟨by omega, by show _ < (1152921504606846976 : Int); omega⟩, by rw [hn12, hn11]; show _ = _ * (1152921504606846976 : Int) + _; omega, by omega⟩),.k (.int .u64 n12)] fun _ _ G22 => ?_
    intro S_ s_
    refine V.g [.k (iv 4),.k (iv 4)] fun _ _ G23 => ?_
    intro S_ s_
    refine V.rnd hZ1 (n12, 4) [0] (by kernel_rfl) ?_ ?_
    · refine ⟨?_, ?_, ?_, ?_⟩
      · show 0 ≤ (4 : Int)
        omega
      · show (4 : Int) ≤ (a_Digits.length : Int)
        omega
      · show n12 = (Bg.nv (a_Digits.take (4 : Int).toNat) : Int)
        show n12 = (Bg.nv (a_Digits.take 4) : Int); rw [hst1, hn12, hn11]; omega
      show n12 < 9223372036854775808 * 2
      omega
    show ((a_Digits.length : Int) - (4 : Int)).toNat < ((a_Digits.length : Int) - k0).toNat
    omega
  have hall : u = (Bg.nv a_Digits : Int) := by rw [hf3, List.take_of_length_le (by omega)]
  refine nm ((decide (a_Sign < 0)) && (decide (u ≤ 9223372036854775808)) : Bool) fun p2 hp2 => ?_
  refine V.g [.k (pp ((G1 0).b) 0),.ld 0 0 false (fun _ => [iv a_Sign]),.k (bv (decide (a_Sign < 0))),.k (bv (decide (a_Sign < 0))),.k (.int .u64 u),.k (bv (decide (u ≤ 9223372036854775808))),.andn g0 false (decide (a_Sign < 0)) (decide (u ≤ 9223372036854775808)) p2 hp2,.k (bv p2)] fun _ _ G24 => ?_
  intro S_ s_
  refine V.cond (b := p2) (iN hp2 (iAT iDT iDT)) (iN hp2 (iAF iDF iDF)) (by kernel_rfl) (fun q7 => ?_) (fun q8 => ?_)
  · have hYes : Bg.inI a_Sign a_Digits := ⟨hRt, by omega⟩
    refine nm ((0 - u) % 18446744073709551616 : Int) fun n13 hn13 => ?_
    refine V.g [.k (.int .u64 u),.ek g0 .u64 (0 - u) n13 (fun _ => by rw [wrapU64, hn13]),.ek g0 .i64 n13 (-u) (fun _ => by rw [IntKind.wrap_i64]; omega),.k (iv (-u)),.kb true] fun _ _ G25 => ?_
    intro S_ s_
    have e0 : (-u) = Bg.intV a_Sign a_Digits := by rw [Bg.intV_y hYes]; omega
    have e1 : true = decide (Bg.inI a_Sign a_Digits) := (decide_eq_true hYes).symm
    exact V.ret [0, 0] [] [] [] [] [] (.tuple #[iv (-u), bv true]) (fun _ _ => by kernel_rfl) (fun _ _ => (Eq.trans (by kernel_rfl) (cong2 (fun (x0 : Int) (x1 : Bool) => (.tuple #[iv x0, bv x1] : Value)) e0 e1)).trans (by kernel_rfl)) (fun _ _ => trivial)
  refine nm ((decide (0 ≤ a_Sign)) && (decide (u < 9223372036854775808)) : Bool) fun p3 hp3 => ?_
  refine V.g [.k (pp ((G1 0).b) 0),.ld 0 0 false (fun _ => [iv a_Sign]),.k (bv (decide (0 ≤ a_Sign))),.k (bv (decide (0 ≤ a_Sign))),.k (.int .u64 u),.k (bv (decide (u < 9223372036854775808))),.andn g0 false (decide (0 ≤ a_Sign)) (decide (u < 9223372036854775808)) p3 hp3,.k (bv p3)] fun _ _ G26 => ?_
  intro S_ s_
  refine V.cond (b := p3) (iN hp3 (iAT iDT iDT)) (iN hp3 (iAF iDF iDF)) (by kernel_rfl) (fun q9 => ?_) (fun q10 => ?_)
  · have hYes : Bg.inI a_Sign a_Digits := ⟨hRt, by omega⟩
    refine V.g [.k (.int .u64 u),.ek g0 .i64 u u (fun _ => by rw [IntKind.wrap_i64]; omega),.k (iv u),.kb true] fun _ _ G27 => ?_
    intro S_ s_
    have e0 : u = Bg.intV a_Sign a_Digits := by rw [Bg.intV_y hYes]; omega
    have e1 : true = decide (Bg.inI a_Sign a_Digits) := (decide_eq_true hYes).symm
    exact V.ret [0, 0] [] [] [] [] [] (.tuple #[iv u, bv true]) (fun _ _ => by kernel_rfl) (fun _ _ => (Eq.trans (by kernel_rfl) (cong2 (fun (x0 : Int) (x1 : Bool) => (.tuple #[iv x0, bv x1] : Value)) e0 e1)).trans (by kernel_rfl)) (fun _ _ => trivial)
  have hNo : ¬ Bg.inI a_Sign a_Digits := fun hi => by have := hi.2; omega
  refine V.g [.k (iv 0),.kb false] fun _ _ G28 => ?_
  intro S_ s_
  have e0 : (0 : Int) = Bg.intV a_Sign a_Digits := (Bg.intV_n hNo).symm
  have e1 : false = decide (Bg.inI a_Sign a_Digits) := (decide_eq_false hNo).symm
  exact V.ret [0, 0] [] [] [] [] [] (.tuple #[iv 0, bv false]) (fun _ _ => by kernel_rfl) (fun _ _ => (Eq.trans (by kernel_rfl) (cong2 (fun (x0 : Int) (x1 : Bool) => (.tuple #[iv x0, bv x1] : Value)) e0 e1)).trans (by kernel_rfl)) (fun _ _ => trivial)
theorem int_ctv (a_Sign : Int) (a_Digits : List Int) (a_Digitss : SV) (rv0 : Int) (erv0 : rv0 = Bg.intV a_Sign a_Digits) :
    Cp Try.prog 100 #[ag (DBig.mk a_Sign ⟨a_Digits, a_Digitss⟩)] [fs true a_Digits a_Digitss] (.tuple #[iv rv0, bv (decide (Bg.inI a_Sign a_Digits))]) := by
  subst erv0; exact int_ct a_Sign a_Digits a_Digitss 

open Go Go.Proofs
set_option maxRecDepth 10000 in
theorem cmpd_ct (a : List Int) (as_ : SV) (b : List Int) (bs : SV) (hda : Bg.Dg a) (hdb : Bg.Dg b) (hza : Bg.Nz a) (hzb : Bg.Nz b) :
    Cp Try.prog 104 #[as_.v, bs.v] [fs true a as_, fs true b bs] (iv (Bg.cmpI (Bg.nv a) (Bg.nv b))) := by
  refine V.fn mo Try.func104 41 0 (by kernel_rfl) fun w H ε k0 => ?_
  obtain ⟨⟨kl1, -⟩, ⟨kl2, -⟩, -⟩ : Lq a as_.v ∧ Lq b bs.v ∧ True := kn k0 (by kernel_rfl)
  clear k0
  refine V.g [.k (iv 0)] fun _ _ G1 => ?_
  intro S_ s_
  refine V.g [.k (as_.v),.ln (kf false (.f 0) a (fun _ => as_)),.k (bs.v),.ln (kf false (.f 1) b (fun _ => bs)),.k (bv (!(decide ((a.length : Int) = (b.length : Int)))))] fun _ _ G2 => ?_
  intro S_ s_
  refine V.cond (b := !(decide ((a.length : Int) = (b.length : Int)))) (iNT iDF) (iNF iDT) (by kernel_rfl) (fun q1 => ?_) (fun q2 => ?_)
  · refine V.g [.k (as_.v),.ln (kf false (.f 0) a (fun _ => as_)),.k (bs.v),.ln (kf false (.f 1) b (fun _ => bs)),.cp g0 4 103 [] (fun _ G => cmp_ct (a.length : Int) (b.length : Int)),.k (iv (Bg.cmpI (a.length : Int) (b.length : Int)))] fun _ _ G3 => ?_
    intro S_ s_
    have e0 : (Bg.cmpI (a.length : Int) (b.length : Int)) = Bg.cmpI (Bg.nv a) (Bg.nv b) := Bg.cmp_lens hda hdb hza hzb q1
    exact V.ret [0] [] [] [] [] [] (iv (Bg.cmpI (a.length : Int) (b.length : Int))) (fun _ _ => by kernel_rfl) (fun _ _ => (Eq.trans (by kernel_rfl) (cong1 (fun (x0 : Int) => (iv x0 : Value)) e0)).trans (by kernel_rfl)) (fun _ _ => trivial)
  refine nm ((a.length : Int) - 1 : Int) fun n1 hn1 => ?_
  refine V.g [.k (as_.v),.ln (kf false (.f 0) a (fun _ => as_)),.ar ((a.length : Int) - 1) n1 hn1 (by omega) (by omega),.k (iv n1)] fun _ _ G4 => ?_
  intro S_ s_
  refine V.loop (γ := Int) (fun i => ⟨[(0, as_.v), (1, bs.v), (5, iv i)], [fs false a as_, fs false b bs], []⟩) (fun i => (-1 ≤ i) ∧ (i < (a.length : Int)) ∧ (a.drop (i + 1).toNat = b.drop (i + 1).toNat)) (fun i => (i + 1).toNat) n1 (by kernel_rfl) [0, 1] (by kernel_rfl) ?_ ?_
  · refine ⟨?_, ?_, ?_⟩
    · show -1 ≤ n1
      omega
    · show n1 < (a.length : Int)
      omega
    show a.drop (n1 + 1).toNat = b.drop (n1 + 1).toNat
    rw [List.drop_of_length_le (by omega), List.drop_of_length_le (by omega)]
  rintro i hF1 kw5 Z1 hZ1
  have hF1 : (-1 ≤ i) ∧ (i < (a.length : Int)) ∧ (a.drop (i + 1).toNat = b.drop (i + 1).toNat) := hF1
  obtain ⟨hf1, hf2, hf3⟩ := hF1
  clear kw5
  refine V.g [.k (iv i),.k (bv (decide (0 ≤ i)))] fun _ _ G5 => ?_
  intro S_ s_
  refine V.cond (b := decide (0 ≤ i)) iDT iDF (by kernel_rfl) (fun q3 => ?_) (fun q4 => ?_)
  · refine nm (a.getD i.toNat default : Int) fun v1 hv1 => ?_
    refine nm (b.getD i.toNat default : Int) fun v2 hv2 => ?_
    refine V.g [.k (as_.v),.k (iv i),.ix g0 (kf false (.f 0) a (fun _ => as_)) i (fun _ => ⟨by omega, by omega⟩),.le g0 (kf false (.f 0) a (fun _ => as_)) i none false v1 hv1 (fun _ => ⟨by omega, by omega⟩) false (fun _ => [iv v1]),.k (bs.v),.k (iv i),.ix g0 (kf false (.f 1) b (fun _ => bs)) i (fun _ => ⟨by omega, by omega⟩),.le g0 (kf false (.f 1) b (fun _ => bs)) i none false v2 hv2 (fun _ => ⟨by omega, by omega⟩) false (fun _ => [iv v2]),.k (bv (!(decide (v1 = v2))))] fun _ _ G6 => ?_
    intro S_ s_
    refine V.cond (b := !(decide (v1 = v2))) (iNT iDF) (iNF iDT) (by kernel_rfl) (fun q5 => ?_) (fun q6 => ?_)
    · refine V.g [.k (as_.v),.k (iv i),.ix g0 (kf false (.f 0) a (fun _ => as_)) i (fun _ => ⟨by omega, by omega⟩),.le g0 (kf false (.f 0) a (fun _ => as_)) i none false v1 hv1 (fun _ => ⟨by omega, by omega⟩) false (fun _ => [iv v1]),.k (bs.v),.k (iv i),.ix g0 (kf false (.f 1) b (fun _ => bs)) i (fun _ => ⟨by omega, by omega⟩),.le g0 (kf false (.f 1) b (fun _ => bs)) i none false v2 hv2 (fun _ => ⟨by omega, by omega⟩) false (fun _ => [iv v2]),.cp g0 8 103 [] (fun _ G => cmp_ct v1 v2),.k (iv (Bg.cmpI v1 v2))] fun _ _ G7 => ?_
      intro S_ s_
      have e0 : (Bg.cmpI v1 v2) = Bg.cmpI (Bg.nv a) (Bg.nv b) := by rw [hv1, hv2]; exact Bg.cmp_ne (i := i.toNat) hda hdb (by omega) (by omega) (by rw [show i.toNat + 1 = (i + 1).toNat by omega]; exact hf3) (by have hne := q5; rw [hv1, hv2] at hne; exact hne)
      exact V.ret [0] [] [] [] [] [] (iv (Bg.cmpI v1 v2)) (fun _ _ => by kernel_rfl) (fun _ _ => (Eq.trans (by kernel_rfl) (cong1 (fun (x0 : Int) => (iv x0 : Value)) e0)).trans (by kernel_rfl)) (fun _ _ => trivial)
    refine V.g [.k (iv i),.a (i - 1) (by omega) (by omega),.k (iv (i - 1))] fun _ _ G8 => ?_
    intro S_ s_
    refine V.rnd hZ1 (i - 1) [0, 1] (by kernel_rfl) ?_ ?_
    · refine ⟨?_, ?_, ?_⟩
      · show -1 ≤ (i - 1)
        omega
      · show (i - 1) < (a.length : Int)
        omega
      show a.drop ((i - 1) + 1).toNat = b.drop ((i - 1) + 1).toNat
      rw [show (i - 1 + 1).toNat = i.toNat by omega]; exact Bg.drop_eq (by omega) (by omega) (by rw [show i.toNat + 1 = (i + 1).toNat by omega]; exact hf3) (by have he := q6; rw [hv1, hv2] at he; exact he)
    show ((i - 1) + 1).toNat < (i + 1).toNat
    omega
  refine V.g [.k (iv 0)] fun _ _ G9 => ?_
  intro S_ s_
  have e0 : (0 : Int) = Bg.cmpI (Bg.nv a) (Bg.nv b) := by
    have hdr := hf3
    rw [show (i + 1).toNat = 0 by omega, List.drop_zero, List.drop_zero] at hdr
    rw [hdr]; unfold Bg.cmpI; rw [if_neg (by omega), if_pos rfl]
  exact V.ret [0] [] [] [] [] [] (iv 0) (fun _ _ => by kernel_rfl) (fun _ _ => (Eq.trans (by kernel_rfl) (cong1 (fun (x0 : Int) => (iv x0 : Value)) e0)).trans (by kernel_rfl)) (fun _ _ => trivial)
theorem cmpd_ctv (a : List Int) (as_ : SV) (b : List Int) (bs : SV) (hda : Bg.Dg a) (hdb : Bg.Dg b) (hza : Bg.Nz a) (hzb : Bg.Nz b) (rv0 : Int) (erv0 : rv0 = Bg.cmpI (Bg.nv a) (Bg.nv b)) :
    Cp Try.prog 104 #[as_.v, bs.v] [fs true a as_, fs true b bs] (iv rv0) := by
  subst erv0; exact cmpd_ct a as_ b bs hda hdb hza hzb
set_option maxRecDepth 10000 in
theorem Cmp_ct (a_Sign : Int) (a_Digits : List Int) (a_Digitss : SV) (b_Sign : Int) (b_Digits : List Int) (b_Digitss : SV) :
    Cp Try.prog 68 #[ag (DBig.mk a_Sign ⟨a_Digits, a_Digitss⟩), ag (DBig.mk b_Sign ⟨b_Digits, b_Digitss⟩)] [fs true a_Digits a_Digitss, fs true b_Digits b_Digitss] (iv (if (Bg.RtB a_Sign a_Digits ∧ Bg.RtB b_Sign b_Digits) then Bg.cmpI (Bg.zv a_Sign a_Digits) (Bg.zv b_Sign b_Digits) else 0)) := by
  refine V.fn mo Try.func68 31 2 (by kernel_rfl) fun w H ε k0 => ?_
  obtain ⟨⟨kl1, -⟩, ⟨kl2, -⟩, -⟩ : Lq a_Digits a_Digitss.v ∧ Lq b_Digits b_Digitss.v ∧ True := kn k0 (by kernel_rfl)
  clear k0
  refine V.g [.nb 0 0 (fun b => pp b 0) 28 (fun _ => ca (DBig.mk a_Sign ⟨a_Digits, a_Digitss⟩)),.nb 1 1 (fun b => pp b 0) 28 (fun _ => ca (DBig.mk b_Sign ⟨b_Digits, b_Digitss⟩)),.k (iv 0)] fun _ _ G1 => ?_
  intro S_ s_
  refine nm ((!(decide (Bg.RtB a_Sign a_Digits))) || (!(decide (Bg.RtB b_Sign b_Digits))) : Bool) fun p1 hp1 => ?_
  refine V.g [.ld 0 0 true (fun _ => Dat.cells (DBig.mk a_Sign ⟨a_Digits, a_Digitss⟩)),.cp g0 1 60 [(kf false (.f 0) a_Digits (fun _ => a_Digitss)).a] (fun _ G => bright_ct a_Sign a_Digits a_Digitss),.k (bv (!(decide (Bg.RtB a_Sign a_Digits)))),.k (bv (!(decide (Bg.RtB a_Sign a_Digits)))),.ld 1 0 true (fun _ => Dat.cells (DBig.mk b_Sign ⟨b_Digits, b_Digitss⟩)),.cp (gF (b := !(decide (Bg.RtB a_Sign a_Digits))) (iNF iDT)) 5 60 [(kf false (.f 1) b_Digits (fun _ => b_Digitss)).a] (fun hg G => bright_ct b_Sign b_Digits b_Digitss),.k (bv (!(decide (Bg.RtB b_Sign b_Digits)))),.orn g0 false (!(decide (Bg.RtB a_Sign a_Digits))) (!(decide (Bg.RtB b_Sign b_Digits))) p1 hp1] fun _ _ G2 => ?_
  intro S_ s_
  refine V.cond (b := p1) (iN hp1 (iOT (iNT iDF) (iNT iDF))) (iN hp1 (iOF (iNF iDT) (iNF iDT))) (by kernel_rfl) (fun q1 => ?_) (fun q2 => ?_)
  · refine V.g [.k (iv 0)] fun _ _ G3 => ?_
    intro S_ s_
    have e0 : (0 : Int) = if (Bg.RtB a_Sign a_Digits ∧ Bg.RtB b_Sign b_Digits) then Bg.cmpI (Bg.zv a_Sign a_Digits) (Bg.zv b_Sign b_Digits) else 0 := by symm; refine if_neg ?_; rintro ⟨h1, h2⟩; rcases q1 with h | h; exact h h1; exact h h2
    exact V.ret [0] [] [] [] [] [] (iv 0) (fun _ _ => by kernel_rfl) (fun _ _ => (Eq.trans (by kernel_rfl) (cong1 (fun (x0 : Int) => (iv x0 : Value)) e0)).trans (by kernel_rfl)) (fun _ _ => trivial)
  have hRR : (Bg.RtB a_Sign a_Digits ∧ Bg.RtB b_Sign b_Digits) := by first | exact q2 | exact ⟨Decidable.not_not.1 (q2).1, Decidable.not_not.1 (q2).2⟩
  refine V.g [.k (pp ((G1 0).b) 0),.ld 0 0 false (fun _ => [iv a_Sign]),.k (pp ((G1 1).b) 0),.ld 1 0 false (fun _ => [iv b_Sign]),.k (bv (!(decide (a_Sign = b_Sign))))] fun _ _ G4 => ?_
  intro S_ s_
  refine V.cond (b := !(decide (a_Sign = b_Sign))) (iNT iDF) (iNF iDT) (by kernel_rfl) (fun q3 => ?_) (fun q4 => ?_)
  · refine V.g [.k (pp ((G1 0).b) 0),.ld 0 0 false (fun _ => [iv a_Sign]),.k (pp ((G1 1).b) 0),.ld 1 0 false (fun _ => [iv b_Sign]),.cp g0 4 103 [] (fun _ G => cmp_ct a_Sign b_Sign),.k (iv (Bg.cmpI a_Sign b_Sign))] fun _ _ G5 => ?_
    intro S_ s_
    have e0 : (Bg.cmpI a_Sign b_Sign) = if (Bg.RtB a_Sign a_Digits ∧ Bg.RtB b_Sign b_Digits) then Bg.cmpI (Bg.zv a_Sign a_Digits) (Bg.zv b_Sign b_Digits) else 0 := by rw [if_pos hRR, ← Bg.cmp_z hRR.1 hRR.2, if_neg q3]
    exact V.ret [0] [] [] [] [] [] (iv (Bg.cmpI a_Sign b_Sign)) (fun _ _ => by kernel_rfl) (fun _ _ => (Eq.trans (by kernel_rfl) (cong1 (fun (x0 : Int) => (iv x0 : Value)) e0)).trans (by kernel_rfl)) (fun _ _ => trivial)
  have hsE : a_Sign = b_Sign := by first | exact q4 | exact Decidable.not_not.1 q4
  have hcB := Bg.cmpI_le (x := (Bg.nv a_Digits : Int)) (y := Bg.nv b_Digits)
  have hsB := Bg.sg_le hRR.1
  refine nm (a_Sign * (Bg.cmpI (Bg.nv a_Digits) (Bg.nv b_Digits)) : Int) fun n1 hn1 => ?_
  refine V.g [.k (pp ((G1 0).b) 0),.ld 0 0 false (fun _ => [iv a_Sign]),.k (pp ((G1 0).b) 1),.ld 0 1 false (fun _ => [a_Digitss.v]),.k (pp ((G1 1).b) 1),.ld 1 1 false (fun _ => [b_Digitss.v]),.cp g0 6 104 [(kf false (.f 0) a_Digits (fun _ => a_Digitss)).a, (kf false (.f 1) b_Digits (fun _ => b_Digitss)).a] (fun _ G => cmpd_ct a_Digits a_Digitss b_Digits b_Digitss hRR.1.dg hRR.2.dg hRR.1.nz hRR.2.nz),.ar (a_Sign * (Bg.cmpI (Bg.nv a_Digits) (Bg.nv b_Digits))) n1 hn1 (by rw [hn1]; exact (Bg.mul1 hsB hcB).1) (by rw [hn1]; exact (Bg.mul1 hsB hcB).2),.k (iv n1)] fun _ _ G6 => ?_
  intro S_ s_
  have e0 : n1 = if (Bg.RtB a_Sign a_Digits ∧ Bg.RtB b_Sign b_Digits) then Bg.cmpI (Bg.zv a_Sign a_Digits) (Bg.zv b_Sign b_Digits) else 0 := by rw [if_pos hRR, ← Bg.cmp_z hRR.1 hRR.2, if_pos hsE]; first | rfl | assumption
  exact V.ret [0] [] [] [] [] [] (iv n1) (fun _ _ => by kernel_rfl) (fun _ _ => (Eq.trans (by kernel_rfl) (cong1 (fun (x0 : Int) => (iv x0 : Value)) e0)).trans (by kernel_rfl)) (fun _ _ => trivial)
theorem Cmp_ctv (a_Sign : Int) (a_Digits : List Int) (a_Digitss : SV) (b_Sign : Int) (b_Digits : List Int) (b_Digitss : SV) (rv0 : Int) (erv0 : rv0 = if (Bg.RtB a_Sign a_Digits ∧ Bg.RtB b_Sign b_Digits) then Bg.cmpI (Bg.zv a_Sign a_Digits) (Bg.zv b_Sign b_Digits) else 0) :
    Cp Try.prog 68 #[ag (DBig.mk a_Sign ⟨a_Digits, a_Digitss⟩), ag (DBig.mk b_Sign ⟨b_Digits, b_Digitss⟩)] [fs true a_Digits a_Digitss, fs true b_Digits b_Digitss] (iv rv0) := by
  subst erv0; exact Cmp_ct a_Sign a_Digits a_Digitss b_Sign b_Digits b_Digitss 
set_option maxRecDepth 10000 in
theorem neg_ct (a_Sign : Int) (a_Digits : List Int) (a_Digitss : SV) (hcl : a_Digits.length ≤ 1099511627776) :
    Ct Try.prog 93 #[ag (DBig.mk a_Sign ⟨a_Digits, a_Digitss⟩)] [fs true a_Digits a_Digitss] [] (fun g => ag (DBig.mk (Bg.oS (Bg.RtB a_Sign a_Digits) (-Bg.zv a_Sign a_Digits)) ⟨Bg.oD (Bg.RtB a_Sign a_Digits) (-Bg.zv a_Sign a_Digits), (g.ss 0)⟩)) (fun g => [fs true (Bg.oD (Bg.RtB a_Sign a_Digits) (-Bg.zv a_Sign a_Digits)) (g.ss 0)]) (fun g => []) (fun g => []) := by
  refine V.fn mo Try.func93 14 2 (by kernel_rfl) fun w H ε k0 => ?_
  obtain ⟨⟨kl1, -⟩, -⟩ : Lq a_Digits a_Digitss.v ∧ True := kn k0 (by kernel_rfl)
  clear k0
  refine V.g [.nb 0 0 (fun b => pp b 0) 28 (fun _ => ca (DBig.mk a_Sign ⟨a_Digits, a_Digitss⟩)),.nb 1 1 (fun b => pp b 0) 28 (fun _ => ca (DBig.mk 0 ⟨[], {}⟩))] fun _ _ G1 => ?_
  intro S_ s_
  refine V.g [.ld 0 0 true (fun _ => Dat.cells (DBig.mk a_Sign ⟨a_Digits, a_Digitss⟩)),.cp g0 1 60 [(kf false (.f 0) a_Digits (fun _ => a_Digitss)).a] (fun _ G => bright_ct a_Sign a_Digits a_Digitss),.k (bv (!(decide (Bg.RtB a_Sign a_Digits))))] fun _ _ G2 => ?_
  intro S_ s_
  refine V.cond (b := !(decide (Bg.RtB a_Sign a_Digits))) (iNT iDF) (iNF iDT) (by kernel_rfl) (fun q1 => ?_) (fun q2 => ?_)
  · refine V.g [.k (ag (DBig.mk 0 ⟨[], {}⟩)),.st 1 (fun _ => .blk ((G1 1).b) (ca (DBig.mk 0 ⟨[], {}⟩)) 28)] fun _ _ G3 => ?_
    intro S_ s_
    refine V.nilF (α := Int) ?_
    have e1 : ([] : List Int) = Bg.oD (Bg.RtB a_Sign a_Digits) (-Bg.zv a_Sign a_Digits) := (Bg.oD_n q1 _).symm
    rw [← e1]
    have e0 : (0 : Int) = Bg.oS (Bg.RtB a_Sign a_Digits) (-Bg.zv a_Sign a_Digits) := (Bg.oS_n q1 _).symm
    exact V.ret [1] [{}] [fun _ => {}] [] [1] [] (ag (DBig.mk 0 ⟨([] : List Int), {}⟩)) (fun _ _ => by kernel_rfl) (fun _ _ => (Eq.trans (by kernel_rfl) (cong1 (fun (x0 : Int) => (.agg #[iv x0, SV.v ({})] : Value)) e0)).trans (by kernel_rfl)) (fun _ _ => trivial)
  have hRt : Bg.RtB a_Sign a_Digits := by first | exact q2 | exact Decidable.not_not.1 q2
  have hsB := Bg.sg_le hRt
  refine V.r [.k (pp ((G1 0).b) 0),.ld 0 0 false (fun _ => [iv a_Sign]),.ng a_Sign (-a_Sign) rfl (by omega) (by omega),.k (pp ((G1 0).b) 1),.ld 0 1 false (fun _ => [a_Digitss.v]),.ct g0 5 97 false [] [] [(kf false (.f 0) a_Digits (fun _ => a_Digitss)).a] (fun _ G => clonef_ct a_Digits a_Digitss (by omega)),.ctT g0 6 99 [(kf true (.g 5 0) a_Digits (fun G => (G 5).ss 0)).a] (fun _ G => signed_ct (-a_Sign) a_Digits ((G 5).ss 0) hRt.dg),.st 1 (fun G => .blk ((G1 1).b) (ca (DBig.mk (Bg.sg0 (Bg.nv a_Digits) (-a_Sign)) ⟨Bg.dig (Bg.nv a_Digits), (G 6).ss 0⟩)) 28)] fun _ _ G4 kw4 => ?_
  intro S_ s_
  obtain ⟨⟨kl2, -⟩, ⟨kl3, -⟩, -⟩ : Lq a_Digits (((G4 5).ss 0).v) ∧ Lq (Bg.dig (Bg.nv a_Digits)) (((G4 6).ss 0).v) ∧ True := kn kw4 (by kernel_rfl)
  clear kw4
  have e1 : Bg.dig (Bg.nv a_Digits) = Bg.oD (Bg.RtB a_Sign a_Digits) (-Bg.zv a_Sign a_Digits) := by rw [Bg.oD_y hRt]; exact Bg.neg_d hRt
  rw [← e1]
  have e0 : (Bg.sg0 (Bg.nv a_Digits) (-a_Sign)) = Bg.oS (Bg.RtB a_Sign a_Digits) (-Bg.zv a_Sign a_Digits) := by rw [Bg.oS_y hRt]; exact Bg.neg_s hRt
  exact V.ret [1] [(G4 6).ss 0] [fun _ => {}] [] [2] [] (ag (DBig.mk (Bg.sg0 (Bg.nv a_Digits) (-a_Sign)) ⟨Bg.dig (Bg.nv a_Digits), (G4 6).ss 0⟩)) (fun _ _ => by kernel_rfl) (fun _ _ => (Eq.trans (by kernel_rfl) (cong1 (fun (x0 : Int) => (.agg #[iv x0, ((G4 6).ss 0).v] : Value)) e0)).trans (by kernel_rfl)) (fun _ _ => trivial)
theorem neg_ctv (a_Sign : Int) (a_Digits : List Int) (a_Digitss : SV) (hcl : a_Digits.length ≤ 1099511627776) (rv0 : Int) (erv0 : rv0 = Bg.oS (Bg.RtB a_Sign a_Digits) (-Bg.zv a_Sign a_Digits)) (rv1 : List Int) (erv1 : rv1 = Bg.oD (Bg.RtB a_Sign a_Digits) (-Bg.zv a_Sign a_Digits)) :
    Ct Try.prog 93 #[ag (DBig.mk a_Sign ⟨a_Digits, a_Digitss⟩)] [fs true a_Digits a_Digitss] [] (fun g => ag (DBig.mk rv0 ⟨rv1, (g.ss 0)⟩)) (fun g => [fs true rv1 (g.ss 0)]) (fun g => []) (fun g => []) := by
  subst erv0 erv1; exact neg_ct a_Sign a_Digits a_Digitss hcl

open Go Go.Proofs
set_option maxRecDepth 10000 in
theorem add_ct (a : List Int) (as_ : SV) (b : List Int) (bs : SV) (hda : Bg.Dg a) (hdb : Bg.Dg b) (hla : a.length ≤ 1099511627776) (hlb : b.length ≤ 1099511627776) :
    Ct Try.prog 109 #[as_.v, bs.v] [fs true a as_, fs true b bs] [] (fun g => ((g.ss 0)).v) (fun g => [fs true (Bg.dig (Bg.nv a + Bg.nv b)) (g.ss 0)]) (fun g => []) (fun g => []) := by
  refine V.fn mo Try.func109 55 1 (by kernel_rfl) fun w H ε k0 => ?_
  obtain ⟨⟨kl1, -⟩, ⟨kl2, -⟩, -⟩ : Lq a as_.v ∧ Lq b bs.v ∧ True := kn k0 (by kernel_rfl)
  clear k0
  refine V.g [.k (.slice none 0 0)] fun _ _ G1 => ?_
  intro S_ s_
  refine V.g [.k (as_.v),.ln (kf false (.f 0) a (fun _ => as_)),.k (bs.v),.ln (kf false (.f 1) b (fun _ => bs)),.k (bv (decide ((a.length : Int) < (b.length : Int))))] fun _ _ G2 => ?_
  intro S_ s_
  refine V.cond (b := decide ((a.length : Int) < (b.length : Int))) iDT iDF (by kernel_rfl) (fun q1 => ?_) (fun q2 => ?_)
  · refine V.g [.k (bs.v),.k (as_.v),.k (bs.v),.k (as_.v)] fun _ _ G3 => ?_
    intro S_ s_
    refine nm ((b.length : Int) + 1 : Int) fun n1 hn1 => ?_
    refine nm (List.replicate n1.toNat (0 : Int) : List Int) fun l1 hl1 => ?_
    have hl1n := congrArg List.length hl1; try simp only [List.length_append, List.length_cons, List.length_nil, List.length_replicate, List.length_set, List.length_take, List.length_drop, List.length_map, List.length_reverse, List.length_range] at hl1n
    refine V.g [.k (bs.v),.ln (kf false (.f 1) b (fun _ => bs)),.ar ((b.length : Int) + 1) n1 hn1 (by omega) (by omega),.mks 3 0 3 8 n1 l1 hl1 (by omega) (by omega) (by omega),.v fun G => ((G 3).s).v] fun _ _ G4 => ?_
    intro S_ s_
    refine V.g [.k (iv 0)] fun _ _ G5 => ?_
    intro S_ s_
    refine V.g [.k (bs.v),.ln (kf false (.f 1) b (fun _ => bs)),.k (iv 0)] fun _ _ G6 => ?_
    intro S_ s_
    refine V.loop (γ := List Int × SV × Int × Int) (fun ⟨out, outs, carry, k0⟩ => ⟨[(0, bs.v), (1, as_.v), (5, outs.v), (6, iv carry), (20, bs.v), (21, iv (b.length : Int)), (22, iv k0)], [fs false b bs, fs false a as_], [os true 3 out outs]⟩) (fun ⟨out, outs, carry, k0⟩ => (0 ≤ k0) ∧ (k0 ≤ (b.length : Int)) ∧ (Bg.AddI b a out k0.toNat carry)) (fun ⟨out, outs, carry, k0⟩ => ((b.length : Int) - k0).toNat) (l1, (G4 3).s, 0, 0) (by kernel_rfl) [1, 0] (by kernel_rfl) ?_ ?_
    · refine ⟨?_, ?_, ?_⟩
      · show 0 ≤ (0 : Int)
        first | omega | rfl | (simp; done) | (subst_vars; simp; done)
      · show (0 : Int) ≤ (b.length : Int)
        first | omega | rfl | (simp; done) | (subst_vars; simp; done)
      show Bg.AddI b a l1 (0 : Int).toNat (0 : Int)
      rw [hl1, show n1.toNat = b.length + 1 by omega]; exact Bg.add_start _ _
    rintro ⟨out, outs, carry, k0⟩ hF1 kw7 Z1 hZ1
    have hF1 : (0 ≤ k0) ∧ (k0 ≤ (b.length : Int)) ∧ (Bg.AddI b a out k0.toNat carry) := hF1
    obtain ⟨hf1, hf2, hf3⟩ := hF1
    obtain ⟨-, -, ⟨kl3, -⟩, -⟩ : Lq b bs.v ∧ Lq a as_.v ∧ Lq out outs.v ∧ True := kn kw7 (by kernel_rfl)
    clear kw7
    have hol := hf3.len
    have hc0 := hf3.c0
    have hda_ := hdb.get' k0.toNat
    have hdb_ := hda.get' k0.toNat
    refine V.g [.k (bv (decide (k0 < (b.length : Int))))] fun _ _ G7 => ?_
    intro S_ s_
    refine V.cond (b := decide (k0 < (b.length : Int))) iDT iDF (by kernel_rfl) (fun q3 => ?_) (fun q4 => ?_)
    · refine nm (b.getD k0.toNat default : Int) fun v1 hv1 => ?_
      refine V.g [.k (iv k0),.ix g0 (kf false (.f 0) b (fun _ => bs)) k0 (fun _ => ⟨by omega, by omega⟩),.le g0 (kf false (.f 0) b (fun _ => bs)) k0 none false v1 hv1 (fun _ => ⟨by omega, by omega⟩) false (fun _ => [iv v1]),.k (iv k0),.k (iv v1)] fun _ _ G8 => ?_
      intro S_ s_
      have e1 : b.getD k0.toNat 0 = v1 := hv1.symm
      refine V.g [.k (iv carry),.k (iv v1),.a (carry + v1) (by omega) (by omega),.k (iv (carry + v1))] fun _ _ G9 => ?_
      intro S_ s_
      refine V.g [.k (iv k0),.k (as_.v),.ln (kf false (.f 1) a (fun _ => as_)),.k (bv (decide (k0 < (a.length : Int))))] fun _ _ G10 => ?_
      intro S_ s_
      refine V.cond (b := decide (k0 < (a.length : Int))) iDT iDF (by kernel_rfl) (fun q5 => ?_) (fun q6 => ?_)
      · refine nm (a.getD k0.toNat default : Int) fun v2 hv2 => ?_
        refine nm (carry + v1 + v2 : Int) fun n2 hn2 => ?_
        have e2 : a.getD k0.toNat 0 = v2 := hv2.symm
        refine V.g [.k (iv (carry + v1)),.k (as_.v),.k (iv k0),.ix g0 (kf false (.f 1) a (fun _ => as_)) k0 (fun _ => ⟨by omega, by omega⟩),.le g0 (kf false (.f 1) a (fun _ => as_)) k0 none false v2 hv2 (fun _ => ⟨by omega, by omega⟩) false (fun _ => [iv v2]),.ar (carry + v1 + v2) n2 hn2 (by omega) (by omega),.k (iv n2)] fun _ _ G11 => ?_
        intro S_ s_
        have hxx : n2 = carry + b.getD k0.toNat 0 + a.getD k0.toNat 0 := by omega
        refine nm (n2 % 1048576 : Int) fun n3 hn3 => ?_
        refine nm (out.getD k0.toNat default : Int) fun v3 hv3 => ?_
        refine nm (out.set k0.toNat n3 : List Int) fun l2 hl2 => ?_
        have hl2n := congrArg List.length hl2; try simp only [List.length_append, List.length_cons, List.length_nil, List.length_replicate, List.length_set, List.length_take, List.length_drop, List.length_map, List.length_reverse, List.length_range] at hl2n
        refine V.g [.k (outs.v),.k (iv k0),.k (iv n2),.andm g0 n2 1048575 n3 20 (by decide) rfl (by rw [hn3]; rfl),.ix g0 (ko true 3 0 out (fun _ => outs)) k0 (fun _ => ⟨by omega, by omega⟩),.se g0 5 0 3 true out (fun _ => outs) k0 none v3 n3 hv3 true l2 hl2 (fun _ => ⟨by omega, by omega⟩) (fun _ => rfl) [] (fun _ _ _ _ => trivial)] fun _ _ G12 => ?_
        intro S_ s_
        refine nm (n2 / 1048576 : Int) fun n4 hn4 => ?_
        refine V.g [.k (iv n2),.shrm g0 .i64 .u64 n2 n4 20 (by decide) (by rw [hn4]; rfl),.k (iv n4)] fun _ _ G13 => ?_
        intro S_ s_
        refine V.g [.a (k0 + 1) (by omega) (by omega),.k (iv (k0 + 1))] fun _ _ G14 => ?_
        intro S_ s_
        refine V.rnd hZ1 (l2, outs, n4, k0 + 1) [0, 1] (by kernel_rfl) ?_ ?_
        · refine ⟨?_, ?_, ?_⟩
          · show 0 ≤ (k0 + 1)
            first | omega | rfl | (simp; done) | (subst_vars; simp; done)
          · show (k0 + 1) ≤ (b.length : Int)
            first | omega | rfl | (simp; done) | (subst_vars; simp; done)
          show Bg.AddI b a l2 (k0 + 1).toNat n4
          rw [hl2, hn3, hn4, show (k0 + 1).toNat = k0.toNat + 1 by omega]; exact Bg.add_step hf3 hdb hda (by omega) hxx
        show ((b.length : Int) - (k0 + 1)).toNat < ((b.length : Int) - k0).toNat
        omega
      have e2 := Bg.getD_out (l := a) (i := k0.toNat) (by omega)
      have hxx : carry + v1 = carry + b.getD k0.toNat 0 + a.getD k0.toNat 0 := by omega
      refine nm ((carry + v1) % 1048576 : Int) fun n5 hn5 => ?_
      refine nm (out.getD k0.toNat default : Int) fun v4 hv4 => ?_
      refine nm (out.set k0.toNat n5 : List Int) fun l3 hl3 => ?_
      have hl3n := congrArg List.length hl3; try simp only [List.length_append, List.length_cons, List.length_nil, List.length_replicate, List.length_set, List.length_take, List.length_drop, List.length_map, List.length_reverse, List.length_range] at hl3n
      refine V.g [.k (outs.v),.k (iv k0),.k (iv (carry + v1)),.andm g0 (carry + v1) 1048575 n5 20 (by decide) rfl (by rw [hn5]; rfl),.ix g0 (ko true 3 0 out (fun _ => outs)) k0 (fun _ => ⟨by omega, by omega⟩),.se g0 5 0 3 true out (fun _ => outs) k0 none v4 n5 hv4 true l3 hl3 (fun _ => ⟨by omega, by omega⟩) (fun _ => rfl) [] (fun _ _ _ _ => trivial)] fun _ _ G15 => ?_
      intro S_ s_
      refine nm ((carry + v1) / 1048576 : Int) fun n6 hn6 => ?_
      refine V.g [.k (iv (carry + v1)),.shrm g0 .i64 .u64 (carry + v1) n6 20 (by decide) (by rw [hn6]; rfl),.k (iv n6)] fun _ _ G16 => ?_
      intro S_ s_
      refine V.g [.a (k0 + 1) (by omega) (by omega),.k (iv (k0 + 1))] fun _ _ G17 => ?_
      intro S_ s_
      refine V.rnd hZ1 (l3, outs, n6, k0 + 1) [0, 1] (by kernel_rfl) ?_ ?_
      · refine ⟨?_, ?_, ?_⟩
        · show 0 ≤ (k0 + 1)
          first | omega | rfl | (simp; done) | (subst_vars; simp; done)
        · show (k0 + 1) ≤ (b.length : Int)
          first | omega | rfl | (simp; done) | (subst_vars; simp; done)
        show Bg.AddI b a l3 (k0 + 1).toNat n6
        rw [hl3, hn5, hn6, show (k0 + 1).toNat = k0.toNat + 1 by omega]; exact Bg.add_step hf3 hdb hda (by omega) hxx
      show ((b.length : Int) - (k0 + 1)).toNat < ((b.length : Int) - k0).toNat
      omega
    have hkl : k0.toNat = b.length := by omega
    have hen := hf3
    rw [hkl] at hen
    obtain ⟨hen1, hen2⟩ := Bg.add_end hen (by omega)
    refine nm (out.getD (b.length : Int).toNat default : Int) fun v5 hv5 => ?_
    refine nm (out.set (b.length : Int).toNat carry : List Int) fun l4 hl4 => ?_
    have hl4n := congrArg List.length hl4; try simp only [List.length_append, List.length_cons, List.length_nil, List.length_replicate, List.length_set, List.length_take, List.length_drop, List.length_map, List.length_reverse, List.length_range] at hl4n
    refine V.g [.k (outs.v),.k (bs.v),.ln (kf false (.f 0) b (fun _ => bs)),.k (iv carry),.ix g0 (ko true 3 0 out (fun _ => outs)) (b.length : Int) (fun _ => ⟨by omega, by omega⟩),.se g0 5 0 3 true out (fun _ => outs) (b.length : Int) none v5 carry hv5 true l4 hl4 (fun _ => ⟨by omega, by omega⟩) (fun _ => rfl) [] (fun _ _ _ _ => trivial)] fun _ _ G18 => ?_
    intro S_ s_
    have hl2e : l4 = out.set b.length carry := by rw [hl4]; congr 1
    rw [← hl2e] at hen1 hen2
    refine V.frz 0 true 3 l4 outs (by kernel_rfl) ?_
    refine V.r [.k (outs.v),.ctT g0 1 125 [(kf true (.f 2) l4 (fun _ => outs)).a] (fun _ G => trim_ct l4 outs hen1),.v fun G => ((G 1).ss 0).v] fun _ _ G19 kw20 => ?_
    intro S_ s_
    obtain ⟨⟨kl4, -⟩, -⟩ : Lq (Bg.dig (Bg.nv l4)) (((G19 1).ss 0).v) ∧ True := kn kw20 (by kernel_rfl)
    clear kw20
    have e0 : Bg.dig (Bg.nv l4) = Bg.dig (Bg.nv a + Bg.nv b) := by rw [hen2]; rw [Nat.add_comm]
    rw [← e0]
    exact V.ret [0] [(G19 1).ss 0] [fun _ => {}] [] [3] [] (((G19 1).ss 0).v) (fun _ _ => by kernel_rfl) (fun _ _ => by kernel_rfl) (fun _ _ => trivial)
  refine nm ((a.length : Int) + 1 : Int) fun n7 hn7 => ?_
  refine nm (List.replicate n7.toNat (0 : Int) : List Int) fun l5 hl5 => ?_
  have hl5n := congrArg List.length hl5; try simp only [List.length_append, List.length_cons, List.length_nil, List.length_replicate, List.length_set, List.length_take, List.length_drop, List.length_map, List.length_reverse, List.length_range] at hl5n
  refine V.g [.k (as_.v),.ln (kf false (.f 0) a (fun _ => as_)),.ar ((a.length : Int) + 1) n7 hn7 (by omega) (by omega),.mks 3 0 3 8 n7 l5 hl5 (by omega) (by omega) (by omega),.v fun G => ((G 3).s).v] fun _ _ G20 => ?_
  intro S_ s_
  refine V.g [.k (iv 0)] fun _ _ G21 => ?_
  intro S_ s_
  refine V.g [.k (as_.v),.ln (kf false (.f 0) a (fun _ => as_)),.k (iv 0)] fun _ _ G22 => ?_
  intro S_ s_
  refine V.loop (γ := List Int × SV × Int × Int) (fun ⟨out_1, out_1s, carry_1, k0_1⟩ => ⟨[(0, as_.v), (1, bs.v), (5, out_1s.v), (6, iv carry_1), (20, as_.v), (21, iv (a.length : Int)), (22, iv k0_1)], [fs false a as_, fs false b bs], [os true 3 out_1 out_1s]⟩) (fun ⟨out_1, out_1s, carry_1, k0_1⟩ => (0 ≤ k0_1) ∧ (k0_1 ≤ (a.length : Int)) ∧ (Bg.AddI a b out_1 k0_1.toNat carry_1)) (fun ⟨out_1, out_1s, carry_1, k0_1⟩ => ((a.length : Int) - k0_1).toNat) (l5, (G20 3).s, 0, 0) (by kernel_rfl) [0, 1] (by kernel_rfl) ?_ ?_
  · refine ⟨?_, ?_, ?_⟩
    · show 0 ≤ (0 : Int)
      first | omega | rfl | (simp; done) | (subst_vars; simp; done)
    · show (0 : Int) ≤ (a.length : Int)
      first | omega | rfl | (simp; done) | (subst_vars; simp; done)
    show Bg.AddI a b l5 (0 : Int).toNat (0 : Int)
    rw [hl5, show n7.toNat = a.length + 1 by omega]; exact Bg.add_start _ _
  rintro ⟨out_1, out_1s, carry_1, k0_1⟩ hF2 kw24 Z2 hZ2
  have hF2 : (0 ≤ k0_1) ∧ (k0_1 ≤ (a.length : Int)) ∧ (Bg.AddI a b out_1 k0_1.toNat carry_1) := hF2
  obtain ⟨hf4, hf5, hf6⟩ := hF2
  obtain ⟨-, -, ⟨kl5, -⟩, -⟩ : Lq a as_.v ∧ Lq b bs.v ∧ Lq out_1 out_1s.v ∧ True := kn kw24 (by kernel_rfl)
  clear kw24
  have hol := hf6.len
  have hc0 := hf6.c0
  have hda_ := hda.get' k0_1.toNat
  have hdb_ := hdb.get' k0_1.toNat
  refine V.g [.k (bv (decide (k0_1 < (a.length : Int))))] fun _ _ G23 => ?_
  intro S_ s_
  refine V.cond (b := decide (k0_1 < (a.length : Int))) iDT iDF (by kernel_rfl) (fun q7 => ?_) (fun q8 => ?_)
  · refine nm (a.getD k0_1.toNat default : Int) fun v6 hv6 => ?_
    refine V.g [.k (iv k0_1),.ix g0 (kf false (.f 0) a (fun _ => as_)) k0_1 (fun _ => ⟨by omega, by omega⟩),.le g0 (kf false (.f 0) a (fun _ => as_)) k0_1 none false v6 hv6 (fun _ => ⟨by omega, by omega⟩) false (fun _ => [iv v6]),.k (iv k0_1),.k (iv v6)] fun _ _ G24 => ?_
    intro S_ s_
    have e1 : a.getD k0_1.toNat 0 = v6 := hv6.symm
    refine V.g [.k (iv carry_1),.k (iv v6),.a (carry_1 + v6) (by omega) (by omega),.k (iv (carry_1 + v6))] fun _ _ G25 => ?_
    intro S_ s_
    refine V.g [.k (iv k0_1),.k (bs.v),.ln (kf false (.f 1) b (fun _ => bs)),.k (bv (decide (k0_1 < (b.length : Int))))] fun _ _ G26 => ?_
    intro S_ s_
    refine V.cond (b := decide (k0_1 < (b.length : Int))) iDT iDF (by kernel_rfl) (fun q9 => ?_) (fun q10 => ?_)
    · refine nm (b.getD k0_1.toNat default : Int) fun v7 hv7 => ?_
      refine nm (carry_1 + v6 + v7 : Int) fun n8 hn8 => ?_
      have e2 : b.getD k0_1.toNat 0 = v7 := hv7.symm
      refine V.g [.k (iv (carry_1 + v6)),.k (bs.v),.k (iv k0_1),.ix g0 (kf false (.f 1) b (fun _ => bs)) k0_1 (fun _ => ⟨by omega, by omega⟩),.le g0 (kf false (.f 1) b (fun _ => bs)) k0_1 none false v7 hv7 (fun _ => ⟨by omega, by omega⟩) false (fun _ => [iv v7]),.ar (carry_1 + v6 + v7) n8 hn8 (by omega) (by omega),.k (iv n8)] fun _ _ G27 => ?_
      intro S_ s_
      have hxx : n8 = carry_1 + a.getD k0_1.toNat 0 + b.getD k0_1.toNat 0 := by omega
      refine nm (n8 % 1048576 : Int) fun n9 hn9 => ?_
      refine nm (out_1.getD k0_1.toNat default : Int) fun v8 hv8 => ?_
      refine nm (out_1.set k0_1.toNat n9 : List Int) fun l6 hl6 => ?_
      have hl6n := congrArg List.length hl6; try simp only [List.length_append, List.length_cons, List.length_nil, List.length_replicate, List.length_set, List.length_take, List.length_drop, List.length_map, List.length_reverse, List.length_range] at hl6n
      refine V.g [.k (out_1s.v),.k (iv k0_1),.k (iv n8),.andm g0 n8 1048575 n9 20 (by decide) rfl (by rw [hn9]; rfl),.ix g0 (ko true 3 0 out_1 (fun _ => out_1s)) k0_1 (fun _ => ⟨by omega, by omega⟩),.se g0 5 0 3 true out_1 (fun _ => out_1s) k0_1 none v8 n9 hv8 true l6 hl6 (fun _ => ⟨by omega, by omega⟩) (fun _ => rfl) [] (fun _ _ _ _ => trivial)] fun _ _ G28 => ?_
      intro S_ s_
      refine nm (n8 / 1048576 : Int) fun n10 hn10 => ?_
      refine V.g [.k (iv n8),.shrm g0 .i64 .u64 n8 n10 20 (by decide) (by rw [hn10]; rfl),.k (iv n10)] fun _ _ G29 => ?_
      intro S_ s_
      refine V.g [.a (k0_1 + 1) (by omega) (by omega),.k (iv (k0_1 + 1))] fun _ _ G30 => ?_
      intro S_ s_
      refine V.rnd hZ2 (l6, out_1s, n10, k0_1 + 1) [0, 1] (by kernel_rfl) ?_ ?_
      · refine ⟨?_, ?_, ?_⟩
        · show 0 ≤ (k0_1 + 1)
          first | omega | rfl | (simp; done) | (subst_vars; simp; done)
        · show (k0_1 + 1) ≤ (a.length : Int)
          first | omega | rfl | (simp; done) | (subst_vars; simp; done)
        show Bg.AddI a b l6 (k0_1 + 1).toNat n10
        rw [hl6, hn9, hn10, show (k0_1 + 1).toNat = k0_1.toNat + 1 by omega]; exact Bg.add_step hf6 hda hdb (by omega) hxx
      show ((a.length : Int) - (k0_1 + 1)).toNat < ((a.length : Int) - k0_1).toNat
      omega
    have e2 := Bg.getD_out (l := b) (i := k0_1.toNat) (by omega)
    have hxx : carry_1 + v6 = carry_1 + a.getD k0_1.toNat 0 + b.getD k0_1.toNat 0 := by omega
    refine nm ((carry_1 + v6) % 1048576 : Int) fun n11 hn11 => ?_
    refine nm (out_1.getD k0_1.toNat default : Int) fun v9 hv9 => ?_
    refine nm (out_1.set k0_1.toNat n11 : List Int) fun l7 hl7 => ?_
    have hl7n := congrArg List.length hl7; try simp only [List.length_append, List.length_cons, List.length_nil, List.length_replicate, List.length_set, List.length_take, List.length_drop, List.length_map, List.length_reverse, List.length_range] at hl7n
    refine V.g [.k (out_1s.v),.k (iv k0_1),.k (iv (carry_1 + v6)),.andm g0 (carry_1 + v6) 1048575 n11 20 (by decide) rfl (by rw [hn11]; rfl),.ix g0 (ko true 3 0 out_1 (fun _ => out_1s)) k0_1 (fun _ => ⟨by omega, by omega⟩),.se g0 5 0 3 true out_1 (fun _ => out_1s) k0_1 none v9 n11 hv9 true l7 hl7 (fun _ => ⟨by omega, by omega⟩) (fun _ => rfl) [] (fun _ _ _ _ => trivial)] fun _ _ G31 => ?_
    intro S_ s_
    refine nm ((carry_1 + v6) / 1048576 : Int) fun n12 hn12 => ?_
    refine V.g [.k (iv (carry_1 + v6)),.shrm g0 .i64 .u64 (carry_1 + v6) n12 20 (by decide) (by rw [hn12]; rfl),.k (iv n12)] fun _ _ G32 => ?_
    intro S_ s_
    refine V.g [.a (k0_1 + 1) (by omega) (by omega),.k (iv (k0_1 + 1))] fun _ _ G33 => ?_
    intro S_ s_
    refine V.rnd hZ2 (l7, out_1s, n12, k0_1 + 1) [0, 1] (by kernel_rfl) ?_ ?_
    · refine ⟨?_, ?_, ?_⟩
      · show 0 ≤ (k0_1 + 1)
        first | omega | rfl | (simp; done) | (subst_vars; simp; done)
      · show (k0_1 + 1) ≤ (a.length : Int)
        first | omega | rfl | (simp; done) | (subst_vars; simp; done)
      show Bg.AddI a b l7 (k0_1 + 1).toNat n12
      rw [hl7, hn11, hn12, show (k0_1 + 1).toNat = k0_1.toNat + 1 by omega]; exact Bg.add_step hf6 hda hdb (by omega) hxx
    show ((a.length : Int) - (k0_1 + 1)).toNat < ((a.length : Int) - k0_1).toNat
    omega
  have hkl : k0_1.toNat = a.length := by omega
  have hen := hf6
  rw [hkl] at hen
  obtain ⟨hen1, hen2⟩ := Bg.add_end hen (by omega)
  refine nm (out_1.getD (a.length : Int).toNat default : Int) fun v10 hv10 => ?_
  refine nm (out_1.set (a.length : Int).toNat carry_1 : List Int) fun l8 hl8 => ?_
  have hl8n := congrArg List.length hl8; try simp only [List.length_append, List.length_cons, List.length_nil, List.length_replicate, List.length_set, List.length_take, List.length_drop, List.length_map, List.length_reverse, List.length_range] at hl8n
  refine V.g [.k (out_1s.v),.k (as_.v),.ln (kf false (.f 0) a (fun _ => as_)),.k (iv carry_1),.ix g0 (ko true 3 0 out_1 (fun _ => out_1s)) (a.length : Int) (fun _ => ⟨by omega, by omega⟩),.se g0 5 0 3 true out_1 (fun _ => out_1s) (a.length : Int) none v10 carry_1 hv10 true l8 hl8 (fun _ => ⟨by omega, by omega⟩) (fun _ => rfl) [] (fun _ _ _ _ => trivial)] fun _ _ G34 => ?_
  intro S_ s_
  have hl2e : l8 = out_1.set a.length carry_1 := by rw [hl8]; congr 1
  rw [← hl2e] at hen1 hen2
  refine V.frz 0 true 3 l8 out_1s (by kernel_rfl) ?_
  refine V.r [.k (out_1s.v),.ctT g0 1 125 [(kf true (.f 2) l8 (fun _ => out_1s)).a] (fun _ G => trim_ct l8 out_1s hen1),.v fun G => ((G 1).ss 0).v] fun _ _ G35 kw37 => ?_
  intro S_ s_
  obtain ⟨⟨kl6, -⟩, -⟩ : Lq (Bg.dig (Bg.nv l8)) (((G35 1).ss 0).v) ∧ True := kn kw37 (by kernel_rfl)
  clear kw37
  have e0 : Bg.dig (Bg.nv l8) = Bg.dig (Bg.nv a + Bg.nv b) := by rw [hen2]
  rw [← e0]
  exact V.ret [0] [(G35 1).ss 0] [fun _ => {}] [] [3] [] (((G35 1).ss 0).v) (fun _ _ => by kernel_rfl) (fun _ _ => by kernel_rfl) (fun _ _ => trivial)
theorem add_ctv (a : List Int) (as_ : SV) (b : List Int) (bs : SV) (hda : Bg.Dg a) (hdb : Bg.Dg b) (hla : a.length ≤ 1099511627776) (hlb : b.length ≤ 1099511627776) (rv0 : List Int) (erv0 : rv0 = Bg.dig (Bg.nv a + Bg.nv b)) :
    Ct Try.prog 109 #[as_.v, bs.v] [fs true a as_, fs true b bs] [] (fun g => ((g.ss 0)).v) (fun g => [fs true rv0 (g.ss 0)]) (fun g => []) (fun g => []) := by
  subst erv0; exact add_ct a as_ b bs hda hdb hla hlb
set_option maxRecDepth 10000 in
theorem sub_ct (a : List Int) (as_ : SV) (b : List Int) (bs : SV) (hda : Bg.Dg a) (hdb : Bg.Dg b) (hla : a.length ≤ 1099511627776) (hlb : b.length ≤ 1099511627776) (hzb : Bg.Nz b) (hle : Bg.nv b ≤ Bg.nv a) :
    Ct Try.prog 110 #[as_.v, bs.v] [fs true a as_, fs true b bs] [] (fun g => ((g.ss 0)).v) (fun g => [fs true (Bg.dig (Bg.nv a - Bg.nv b)) (g.ss 0)]) (fun g => []) (fun g => []) := by
  refine V.fn mo Try.func110 43 1 (by kernel_rfl) fun w H ε k0 => ?_
  obtain ⟨⟨kl1, -⟩, ⟨kl2, -⟩, -⟩ : Lq a as_.v ∧ Lq b bs.v ∧ True := kn k0 (by kernel_rfl)
  clear k0
  refine V.g [.k (.slice none 0 0)] fun _ _ G1 => ?_
  intro S_ s_
  refine V.g [.k (as_.v),.ct g0 1 97 false [] [0] [(kf false (.f 0) a (fun _ => as_)).a] (fun _ G => clonei_ct a as_ (by omega)),.v fun G => ((G 1).ss 0).v] fun _ _ G2 => ?_
  intro S_ s_
  refine V.g [.k (iv 0)] fun _ _ G3 => ?_
  intro S_ s_
  refine V.g [.k (((G2 1).ss 0).v),.ln (ko true 3 0 a (fun _ => (G2 1).ss 0)),.k (iv 0)] fun _ _ G4 => ?_
  intro S_ s_
  refine V.loop (γ := List Int × SV × Int × Int) (fun ⟨out, outs, borrow, k0⟩ => ⟨[(1, bs.v), (5, outs.v), (6, iv borrow), (12, iv (a.length : Int)), (13, iv k0)], [fs false b bs], [os true 3 out outs]⟩) (fun ⟨out, outs, borrow, k0⟩ => (0 ≤ k0) ∧ (k0 ≤ (a.length : Int)) ∧ (Bg.SubI a b out k0.toNat borrow)) (fun ⟨out, outs, borrow, k0⟩ => ((a.length : Int) - k0).toNat) (a, (G2 1).ss 0, 0, 0) (by kernel_rfl) [1] (by kernel_rfl) ?_ ?_
  · refine ⟨?_, ?_, ?_⟩
    · show 0 ≤ (0 : Int)
      first | omega | rfl | (simp; done) | (subst_vars; simp; done)
    · show (0 : Int) ≤ (a.length : Int)
      first | omega | rfl | (simp; done) | (subst_vars; simp; done)
    show Bg.SubI a b a (0 : Int).toNat (0 : Int)
    exact Bg.sub_start _ _ hda
  rintro ⟨out, outs, borrow, k0⟩ hF1 kw5 Z1 hZ1
  have hF1 : (0 ≤ k0) ∧ (k0 ≤ (a.length : Int)) ∧ (Bg.SubI a b out k0.toNat borrow) := hF1
  obtain ⟨hf1, hf2, hf3⟩ := hF1
  obtain ⟨-, ⟨kl3, -⟩, -⟩ : Lq b bs.v ∧ Lq out outs.v ∧ True := kn kw5 (by kernel_rfl)
  clear kw5
  have hol := hf3.len
  have hc0 := hf3.c0
  have hda_ := hf3.dg.get' k0.toNat
  have hdb_ := hdb.get' k0.toNat
  refine V.g [.k (bv (decide (k0 < (a.length : Int))))] fun _ _ G5 => ?_
  intro S_ s_
  refine V.cond (b := decide (k0 < (a.length : Int))) iDT iDF (by kernel_rfl) (fun q1 => ?_) (fun q2 => ?_)
  · refine V.g [.k (iv k0),.k (iv k0)] fun _ _ G6 => ?_
    intro S_ s_
    refine nm (out.getD k0.toNat default : Int) fun v1 hv1 => ?_
    have e1 : out.getD k0.toNat 0 = v1 := hv1.symm
    refine V.g [.k (outs.v),.k (iv k0),.ix g0 (ko true 3 0 out (fun _ => outs)) k0 (fun _ => ⟨by omega, by omega⟩),.le g0 (ko true 3 0 out (fun _ => outs)) k0 none false v1 hv1 (fun _ => ⟨by omega, by omega⟩) false (fun _ => [iv v1]),.k (iv borrow),.a (v1 - borrow) (by omega) (by omega),.k (iv (v1 - borrow))] fun _ _ G7 => ?_
    intro S_ s_
    refine V.g [.k (iv k0),.k (bs.v),.ln (kf false (.f 0) b (fun _ => bs)),.k (bv (decide (k0 < (b.length : Int))))] fun _ _ G8 => ?_
    intro S_ s_
    refine V.cond (b := decide (k0 < (b.length : Int))) iDT iDF (by kernel_rfl) (fun q3 => ?_) (fun q4 => ?_)
    · refine nm (b.getD k0.toNat default : Int) fun v2 hv2 => ?_
      refine nm (v1 - borrow - v2 : Int) fun n1 hn1 => ?_
      have e2 : b.getD k0.toNat 0 = v2 := hv2.symm
      refine V.g [.k (iv (v1 - borrow)),.k (bs.v),.k (iv k0),.ix g0 (kf false (.f 0) b (fun _ => bs)) k0 (fun _ => ⟨by omega, by omega⟩),.le g0 (kf false (.f 0) b (fun _ => bs)) k0 none false v2 hv2 (fun _ => ⟨by omega, by omega⟩) false (fun _ => [iv v2]),.ar (v1 - borrow - v2) n1 hn1 (by omega) (by omega),.k (iv n1)] fun _ _ G9 => ?_
      intro S_ s_
      have hxx : n1 = out.getD k0.toNat 0 - borrow - b.getD k0.toNat 0 := by omega
      refine nm (n1 / 1048576 : Int) fun n2 hn2 => ?_
      refine nm (n2 % 2 : Int) fun n3 hn3 => ?_
      refine V.g [.k (iv n1),.shrm g0 .i64 .u64 n1 n2 20 (by decide) (by rw [hn2]; rfl),.andm g0 n2 1 n3 1 (by decide) rfl (by rw [hn3]; rfl),.k (iv n3)] fun _ _ G10 => ?_
      intro S_ s_
      refine nm (n1 % 1048576 : Int) fun n4 hn4 => ?_
      refine nm (out.set k0.toNat n4 : List Int) fun l1 hl1 => ?_
      have hl1n := congrArg List.length hl1; try simp only [List.length_append, List.length_cons, List.length_nil, List.length_replicate, List.length_set, List.length_take, List.length_drop, List.length_map, List.length_reverse, List.length_range] at hl1n
      refine V.g [.k (outs.v),.k (iv k0),.k (iv n1),.andm g0 n1 1048575 n4 20 (by decide) rfl (by rw [hn4]; rfl),.ix g0 (ko true 3 0 out (fun _ => outs)) k0 (fun _ => ⟨by omega, by omega⟩),.se g0 5 0 3 true out (fun _ => outs) k0 none v1 n4 hv1 true l1 hl1 (fun _ => ⟨by omega, by omega⟩) (fun _ => rfl) [] (fun _ _ _ _ => trivial)] fun _ _ G11 => ?_
      intro S_ s_
      refine V.g [.a (k0 + 1) (by omega) (by omega),.k (iv (k0 + 1))] fun _ _ G12 => ?_
      intro S_ s_
      refine V.rnd hZ1 (l1, outs, n3, k0 + 1) [0] (by kernel_rfl) ?_ ?_
      · refine ⟨?_, ?_, ?_⟩
        · show 0 ≤ (k0 + 1)
          first | omega | rfl | (simp; done) | (subst_vars; simp; done)
        · show (k0 + 1) ≤ (a.length : Int)
          first | omega | rfl | (simp; done) | (subst_vars; simp; done)
        show Bg.SubI a b l1 (k0 + 1).toNat n3
        rw [hl1, hn4, hn3, hn2, show (k0 + 1).toNat = k0.toNat + 1 by omega]; exact Bg.sub_step hf3 hdb (by omega) hxx
      show ((a.length : Int) - (k0 + 1)).toNat < ((a.length : Int) - k0).toNat
      omega
    have e2 := Bg.getD_out (l := b) (i := k0.toNat) (by omega)
    have hxx : v1 - borrow = out.getD k0.toNat 0 - borrow - b.getD k0.toNat 0 := by omega
    refine nm ((v1 - borrow) / 1048576 : Int) fun n5 hn5 => ?_
    refine nm (n5 % 2 : Int) fun n6 hn6 => ?_
    refine V.g [.k (iv (v1 - borrow)),.shrm g0 .i64 .u64 (v1 - borrow) n5 20 (by decide) (by rw [hn5]; rfl),.andm g0 n5 1 n6 1 (by decide) rfl (by rw [hn6]; rfl),.k (iv n6)] fun _ _ G13 => ?_
    intro S_ s_
    refine nm ((v1 - borrow) % 1048576 : Int) fun n7 hn7 => ?_
    refine nm (out.set k0.toNat n7 : List Int) fun l2 hl2 => ?_
    have hl2n := congrArg List.length hl2; try simp only [List.length_append, List.length_cons, List.length_nil, List.length_replicate, List.length_set, List.length_take, List.length_drop, List.length_map, List.length_reverse, List.length_range] at hl2n
    refine V.g [.k (outs.v),.k (iv k0),.k (iv (v1 - borrow)),.andm g0 (v1 - borrow) 1048575 n7 20 (by decide) rfl (by rw [hn7]; rfl),.ix g0 (ko true 3 0 out (fun _ => outs)) k0 (fun _ => ⟨by omega, by omega⟩),.se g0 5 0 3 true out (fun _ => outs) k0 none v1 n7 hv1 true l2 hl2 (fun _ => ⟨by omega, by omega⟩) (fun _ => rfl) [] (fun _ _ _ _ => trivial)] fun _ _ G14 => ?_
    intro S_ s_
    refine V.g [.a (k0 + 1) (by omega) (by omega),.k (iv (k0 + 1))] fun _ _ G15 => ?_
    intro S_ s_
    refine V.rnd hZ1 (l2, outs, n6, k0 + 1) [0] (by kernel_rfl) ?_ ?_
    · refine ⟨?_, ?_, ?_⟩
      · show 0 ≤ (k0 + 1)
        first | omega | rfl | (simp; done) | (subst_vars; simp; done)
      · show (k0 + 1) ≤ (a.length : Int)
        first | omega | rfl | (simp; done) | (subst_vars; simp; done)
      show Bg.SubI a b l2 (k0 + 1).toNat n6
      rw [hl2, hn7, hn6, hn5, show (k0 + 1).toNat = k0.toNat + 1 by omega]; exact Bg.sub_step hf3 hdb (by omega) hxx
    show ((a.length : Int) - (k0 + 1)).toNat < ((a.length : Int) - k0).toNat
    omega
  have hen := hf3
  rw [show k0.toNat = a.length by omega] at hen
  have hse := Bg.sub_end hen (Bg.len_le hda hdb hzb hle) hle
  have hsd := hen.dg
  refine V.frz 0 true 3 out outs (by kernel_rfl) ?_
  refine V.r [.k (outs.v),.ctT g0 1 125 [(kf true (.f 1) out (fun _ => outs)).a] (fun _ G => trim_ct out outs hsd),.v fun G => ((G 1).ss 0).v] fun _ _ G16 kw17 => ?_
  intro S_ s_
  obtain ⟨⟨kl4, -⟩, -⟩ : Lq (Bg.dig (Bg.nv out)) (((G16 1).ss 0).v) ∧ True := kn kw17 (by kernel_rfl)
  clear kw17
  have e0 : Bg.dig (Bg.nv out) = Bg.dig (Bg.nv a - Bg.nv b) := by rw [hse]
  rw [← e0]
  exact V.ret [0] [(G16 1).ss 0] [fun _ => {}] [] [2] [] (((G16 1).ss 0).v) (fun _ _ => by kernel_rfl) (fun _ _ => by kernel_rfl) (fun _ _ => trivial)
theorem sub_ctv (a : List Int) (as_ : SV) (b : List Int) (bs : SV) (hda : Bg.Dg a) (hdb : Bg.Dg b) (hla : a.length ≤ 1099511627776) (hlb : b.length ≤ 1099511627776) (hzb : Bg.Nz b) (hle : Bg.nv b ≤ Bg.nv a) (rv0 : List Int) (erv0 : rv0 = Bg.dig (Bg.nv a - Bg.nv b)) :
    Ct Try.prog 110 #[as_.v, bs.v] [fs true a as_, fs true b bs] [] (fun g => ((g.ss 0)).v) (fun g => [fs true rv0 (g.ss 0)]) (fun g => []) (fun g => []) := by
  subst erv0; exact sub_ct a as_ b bs hda hdb hla hlb hzb hle

open Go Go.Proofs
set_option maxRecDepth 10000 in
theorem mulo_ct (a : List Int) (as_ : SV) (b : List Int) (bs : SV) (hda : Bg.Dg a) (hdb : Bg.Dg b) (hla : a.length ≤ 1099511627776) (hlb : b.length ≤ 1099511627776) :
    Ct Try.prog 123 #[as_.v, bs.v] [fs true a as_, fs true b bs] [] (fun g => ((g.ss 0)).v) (fun g => []) (fun g => [os true 3 (Bg.dig (Bg.nv a * Bg.nv b)) (g.ss 0)]) (fun g => []) := by
  refine V.fn mo Try.func123 67 1 (by kernel_rfl) fun w H ε k0 => ?_
  obtain ⟨⟨kl1, -⟩, ⟨kl2, -⟩, -⟩ : Lq a as_.v ∧ Lq b bs.v ∧ True := kn k0 (by kernel_rfl)
  clear k0
  refine V.g [.k (.slice none 0 0)] fun _ _ G1 => ?_
  intro S_ s_
  refine nm ((a.length : Int) + (b.length : Int) : Int) fun n1 hn1 => ?_
  refine nm (List.replicate n1.toNat (0 : Int) : List Int) fun l1 hl1 => ?_
  have hl1n := congrArg List.length hl1; try simp only [List.length_append, List.length_cons, List.length_nil, List.length_replicate, List.length_set, List.length_take, List.length_drop, List.length_map, List.length_reverse, List.length_range] at hl1n
  refine V.g [.k (as_.v),.ln (kf false (.f 0) a (fun _ => as_)),.k (bs.v),.ln (kf false (.f 1) b (fun _ => bs)),.ar ((a.length : Int) + (b.length : Int)) n1 hn1 (by omega) (by omega),.mks 5 0 3 8 n1 l1 hl1 (by omega) (by omega) (by omega),.v fun G => ((G 5).s).v] fun _ _ G2 => ?_
  intro S_ s_
  refine V.g [.k (as_.v),.ln (kf false (.f 0) a (fun _ => as_)),.k (iv 0)] fun _ _ G3 => ?_
  intro S_ s_
  refine V.loop (γ := List Int × SV × Int) (fun ⟨out, outs, k0⟩ => ⟨[(1, bs.v), (5, outs.v), (18, as_.v), (19, iv (a.length : Int)), (20, iv k0)], [fs false b bs, fs false a as_], [os true 3 out outs]⟩) (fun ⟨out, outs, k0⟩ => (0 ≤ k0) ∧ (k0 ≤ (a.length : Int)) ∧ (Bg.MulO a b out k0.toNat)) (fun ⟨out, outs, k0⟩ => ((a.length : Int) - k0).toNat) (l1, (G2 5).s, 0) (by kernel_rfl) [1, 0] (by kernel_rfl) ?_ ?_
  · refine ⟨?_, ?_, ?_⟩
    · show 0 ≤ (0 : Int)
      first | omega | rfl | (simp; done) | (subst_vars; simp; done)
    · show (0 : Int) ≤ (a.length : Int)
      first | omega | rfl | (simp; done) | (subst_vars; simp; done)
    show Bg.MulO a b l1 (0 : Int).toNat
    rw [hl1, show n1.toNat = a.length + b.length by omega]; exact Bg.mul_start _ _
  rintro ⟨out, outs, k0⟩ hF1 kw4 Z1 hZ1
  have hF1 : (0 ≤ k0) ∧ (k0 ≤ (a.length : Int)) ∧ (Bg.MulO a b out k0.toNat) := hF1
  obtain ⟨hf1, hf2, hf3⟩ := hF1
  obtain ⟨-, -, ⟨kl3, -⟩, -⟩ : Lq b bs.v ∧ Lq a as_.v ∧ Lq out outs.v ∧ True := kn kw4 (by kernel_rfl)
  clear kw4
  have hol := hf3.len
  refine V.g [.k (bv (decide (k0 < (a.length : Int))))] fun _ _ G4 => ?_
  intro S_ s_
  refine V.cond (b := decide (k0 < (a.length : Int))) iDT iDF (by kernel_rfl) (fun q1 => ?_) (fun q2 => ?_)
  · refine nm (a.getD k0.toNat default : Int) fun v1 hv1 => ?_
    refine V.g [.k (iv k0),.ix g0 (kf false (.f 1) a (fun _ => as_)) k0 (fun _ => ⟨by omega, by omega⟩),.le g0 (kf false (.f 1) a (fun _ => as_)) k0 none false v1 hv1 (fun _ => ⟨by omega, by omega⟩) false (fun _ => [iv v1]),.k (iv k0),.k (iv v1)] fun _ _ G5 => ?_
    intro S_ s_
    refine V.g [.k (iv 0)] fun _ _ G6 => ?_
    intro S_ s_
    refine V.g [.k (bs.v),.ln (kf false (.f 0) b (fun _ => bs)),.k (iv 0)] fun _ _ G7 => ?_
    intro S_ s_
    refine V.loop (γ := List Int × SV × Int × Int) (fun ⟨out_1, out_1s, carry, k1⟩ => ⟨[(1, bs.v), (5, out_1s.v), (6, iv k0), (7, iv v1), (8, iv carry), (18, as_.v), (19, iv (a.length : Int)), (20, iv k0), (25, bs.v), (26, iv (b.length : Int)), (27, iv k1)], [fs false b bs, fs false a as_], [os true 3 out_1 out_1s]⟩) (fun ⟨out_1, out_1s, carry, k1⟩ => (0 ≤ k1) ∧ (k1 ≤ (b.length : Int)) ∧ (Bg.MulI a b out_1 k0.toNat k1.toNat carry)) (fun ⟨out_1, out_1s, carry, k1⟩ => ((b.length : Int) - k1).toNat) (out, outs, 0, 0) (by kernel_rfl) [0, 1] (by kernel_rfl) ?_ ?_
    · refine ⟨?_, ?_, ?_⟩
      · show 0 ≤ (0 : Int)
        first | omega | rfl | (simp; done) | (subst_vars; simp; done)
      · show (0 : Int) ≤ (b.length : Int)
        first | omega | rfl | (simp; done) | (subst_vars; simp; done)
      show Bg.MulI a b out k0.toNat (0 : Int).toNat (0 : Int)
      exact Bg.MulO.inner hf3
    rintro ⟨out_1, out_1s, carry, k1⟩ hF2 kw9 Z2 hZ2
    have hF2 : (0 ≤ k1) ∧ (k1 ≤ (b.length : Int)) ∧ (Bg.MulI a b out_1 k0.toNat k1.toNat carry) := hF2
    obtain ⟨hf4, hf5, hf6⟩ := hF2
    obtain ⟨-, -, ⟨kl4, -⟩, -⟩ : Lq b bs.v ∧ Lq a as_.v ∧ Lq out_1 out_1s.v ∧ True := kn kw9 (by kernel_rfl)
    clear kw9
    have hol2 := hf6.len
    refine V.g [.k (bv (decide (k1 < (b.length : Int))))] fun _ _ G8 => ?_
    intro S_ s_
    refine V.cond (b := decide (k1 < (b.length : Int))) iDT iDF (by kernel_rfl) (fun q3 => ?_) (fun q4 => ?_)
    · refine nm (b.getD k1.toNat default : Int) fun v2 hv2 => ?_
      refine V.g [.k (iv k1),.ix g0 (kf false (.f 0) b (fun _ => bs)) k1 (fun _ => ⟨by omega, by omega⟩),.le g0 (kf false (.f 0) b (fun _ => bs)) k1 none false v2 hv2 (fun _ => ⟨by omega, by omega⟩) false (fun _ => [iv v2]),.k (iv k1),.k (iv v2)] fun _ _ G9 => ?_
      intro S_ s_
      refine nm (out_1.getD (k0 + k1).toNat default : Int) fun v3 hv3 => ?_
      refine nm (v1 * v2 : Int) fun n2 hn2 => ?_
      refine nm (v3 + n2 + carry : Int) fun n3 hn3 => ?_
      have ex : a.getD k0.toNat 0 = v1 := hv1.symm
      have ey : b.getD k1.toNat 0 = v2 := hv2.symm
      have eo : out_1.getD (k0 + k1).toNat 0 = v3 := hv3.symm
      have bx := hda.get' k0.toNat; have by_ := hdb.get' k1.toNat; have bo := hf6.dg.get' (k0 + k1).toNat; have bc := hf6.c0
      rw [ex] at bx; rw [ey] at by_; rw [eo] at bo
      have bp := Bg.dmul bx by_
      refine V.g [.k (out_1s.v),.k (iv k0),.k (iv k1),.a (k0 + k1) (by omega) (by omega),.ix g0 (ko true 3 0 out_1 (fun _ => out_1s)) (k0 + k1) (fun _ => ⟨by omega, by omega⟩),.le g0 (ko true 3 0 out_1 (fun _ => out_1s)) (k0 + k1) none false v3 hv3 (fun _ => ⟨by omega, by omega⟩) false (fun _ => [iv v3]),.k (iv v1),.k (iv v2),.ar (v1 * v2) n2 hn2 (by omega) (by omega),.a (v3 + n2) (by omega) (by omega),.k (iv carry),.ar (v3 + n2 + carry) n3 hn3 (by omega) (by omega),.k (iv n3)] fun _ _ G10 => ?_
      intro S_ s_
      have hxx : n3 = out_1.getD (k0.toNat + k1.toNat) 0 + a.getD k0.toNat 0 * b.getD k1.toNat 0 + carry := by rw [ex, ey, show k0.toNat + k1.toNat = (k0 + k1).toNat by omega, eo]; omega
      have stp := Bg.mul_step hf6 hda hdb (by omega) (by omega) hxx
      have stp1 := stp.1; have stp2 := stp.2; clear stp
      refine nm (n3 % 1048576 : Int) fun n4 hn4 => ?_
      refine nm (n3 / 1048576 : Int) fun n5 hn5 => ?_
      refine nm (out_1.set (k0 + k1).toNat n4 : List Int) fun l2 hl2 => ?_
      have hl2n := congrArg List.length hl2; try simp only [List.length_append, List.length_cons, List.length_nil, List.length_replicate, List.length_set, List.length_take, List.length_drop, List.length_map, List.length_reverse, List.length_range] at hl2n
      refine V.g [.k (out_1s.v),.k (iv k0),.k (iv k1),.a (k0 + k1) (by omega) (by omega),.k (iv n3),.andm g0 n3 1048575 n4 20 (by decide) rfl (by rw [hn4]; rfl),.k (iv n3),.shrm g0 .i64 .u64 n3 n5 20 (by decide) (by rw [hn5]; rfl),.ix g0 (ko true 3 0 out_1 (fun _ => out_1s)) (k0 + k1) (fun _ => ⟨by omega, by omega⟩),.se g0 9 0 3 true out_1 (fun _ => out_1s) (k0 + k1) none v3 n4 hv3 true l2 hl2 (fun _ => ⟨by omega, by omega⟩) (fun _ => rfl) [] (fun _ _ _ _ => trivial),.k (iv n5)] fun _ _ G11 => ?_
      intro S_ s_
      refine V.g [.a (k1 + 1) (by omega) (by omega),.k (iv (k1 + 1))] fun _ _ G12 => ?_
      intro S_ s_
      refine V.rnd hZ2 (l2, out_1s, n5, k1 + 1) [0, 1] (by kernel_rfl) ?_ ?_
      · refine ⟨?_, ?_, ?_⟩
        · show 0 ≤ (k1 + 1)
          first | omega | rfl | (simp; done) | (subst_vars; simp; done)
        · show (k1 + 1) ≤ (b.length : Int)
          first | omega | rfl | (simp; done) | (subst_vars; simp; done)
        show Bg.MulI a b l2 k0.toNat (k1 + 1).toNat n5
        rw [hl2, hn4, hn5, show (k0 + k1).toNat = k0.toNat + k1.toNat by omega, show (k1 + 1).toNat = k1.toNat + 1 by omega]; exact stp2
      show ((b.length : Int) - (k1 + 1)).toNat < ((b.length : Int) - k1).toNat
      omega
    refine nm (k0 + (b.length : Int) : Int) fun n6 hn6 => ?_
    refine nm (out_1.getD n6.toNat default : Int) fun v4 hv4 => ?_
    refine nm (out_1.set n6.toNat (v4 + carry) : List Int) fun l3 hl3 => ?_
    have hl3n := congrArg List.length hl3; try simp only [List.length_append, List.length_cons, List.length_nil, List.length_replicate, List.length_set, List.length_take, List.length_drop, List.length_map, List.length_reverse, List.length_range] at hl3n
    have hml := hf6
    rw [show k1.toNat = b.length by omega] at hml
    have eo : out_1.getD n6.toNat 0 = v4 := hv4.symm
    have bo := hml.dg.get' n6.toNat; have bc := hml.c0; have hol3 := hml.len
    rw [eo] at bo
    refine V.g [.k (out_1s.v),.k (iv k0),.k (bs.v),.ln (kf false (.f 0) b (fun _ => bs)),.ar (k0 + (b.length : Int)) n6 hn6 (by omega) (by omega),.ix g0 (ko true 3 0 out_1 (fun _ => out_1s)) n6 (fun _ => ⟨by omega, by omega⟩),.le g0 (ko true 3 0 out_1 (fun _ => out_1s)) n6 none false v4 hv4 (fun _ => ⟨by omega, by omega⟩) false (fun _ => [iv v4]),.k (iv carry),.a (v4 + carry) (by omega) (by omega),.ix g0 (ko true 3 0 out_1 (fun _ => out_1s)) n6 (fun _ => ⟨by omega, by omega⟩),.se g0 10 0 3 true out_1 (fun _ => out_1s) n6 none v4 (v4 + carry) hv4 true l3 hl3 (fun _ => ⟨by omega, by omega⟩) (fun _ => rfl) [] (fun _ _ _ _ => trivial)] fun _ _ G13 => ?_
    intro S_ s_
    refine V.g [.a (k0 + 1) (by omega) (by omega),.k (iv (k0 + 1))] fun _ _ G14 => ?_
    intro S_ s_
    refine V.rnd hZ1 (l3, out_1s, k0 + 1) [0, 1] (by kernel_rfl) ?_ ?_
    · refine ⟨?_, ?_, ?_⟩
      · show 0 ≤ (k0 + 1)
        first | omega | rfl | (simp; done) | (subst_vars; simp; done)
      · show (k0 + 1) ≤ (a.length : Int)
        first | omega | rfl | (simp; done) | (subst_vars; simp; done)
      show Bg.MulO a b l3 (k0 + 1).toNat
      have hme := Bg.mul_end (x := (v4 + carry)) hml (by omega) (by rw [show k0.toNat + b.length = n6.toNat by omega, eo])
      rw [hl3, show n6.toNat = k0.toNat + b.length by omega, show (k0 + 1).toNat = k0.toNat + 1 by omega]; exact hme
    show ((a.length : Int) - (k0 + 1)).toNat < ((a.length : Int) - k0).toNat
    omega
  have hen := hf3
  rw [show k0.toNat = a.length by omega] at hen
  have hsd := hen.dg
  have hse := hen.sum
  rw [List.take_length] at hse
  refine V.g [.k (outs.v),.ct g0 1 125 false [0] [] [] (fun _ G => trimo_ct out outs hsd),.v fun G => ((G 1).ss 0).v] fun _ _ G15 => ?_
  intro S_ s_
  have e0 : Bg.dig (Bg.nv out) = Bg.dig (Bg.nv a * Bg.nv b) := by rw [hse]
  rw [← e0]
  exact V.ret [0] [(G15 1).ss 0] [fun _ => {}] [] [] [0] (((G15 1).ss 0).v) (fun _ _ => by kernel_rfl) (fun _ _ => by kernel_rfl) (fun _ _ => trivial)
set_option maxRecDepth 10000 in
theorem mul_ct (a : List Int) (as_ : SV) (b : List Int) (bs : SV) (hda : Bg.Dg a) (hdb : Bg.Dg b) (hla : a.length ≤ 1099511627776) (hlb : b.length ≤ 1099511627776) :
    Ct Try.prog 123 #[as_.v, bs.v] [fs true a as_, fs true b bs] [] (fun g => ((g.ss 0)).v) (fun g => [fs true (Bg.dig (Bg.nv a * Bg.nv b)) (g.ss 0)]) (fun g => []) (fun g => []) := by
  refine V.fn mo Try.func123 67 1 (by kernel_rfl) fun w H ε k0 => ?_
  obtain ⟨⟨kl1, -⟩, ⟨kl2, -⟩, -⟩ : Lq a as_.v ∧ Lq b bs.v ∧ True := kn k0 (by kernel_rfl)
  clear k0
  refine V.g [.k (.slice none 0 0)] fun _ _ G1 => ?_
  intro S_ s_
  refine nm ((a.length : Int) + (b.length : Int) : Int) fun n1 hn1 => ?_
  refine nm (List.replicate n1.toNat (0 : Int) : List Int) fun l1 hl1 => ?_
  have hl1n := congrArg List.length hl1; try simp only [List.length_append, List.length_cons, List.length_nil, List.length_replicate, List.length_set, List.length_take, List.length_drop, List.length_map, List.length_reverse, List.length_range] at hl1n
  refine V.g [.k (as_.v),.ln (kf false (.f 0) a (fun _ => as_)),.k (bs.v),.ln (kf false (.f 1) b (fun _ => bs)),.ar ((a.length : Int) + (b.length : Int)) n1 hn1 (by omega) (by omega),.mks 5 0 3 8 n1 l1 hl1 (by omega) (by omega) (by omega),.v fun G => ((G 5).s).v] fun _ _ G2 => ?_
  intro S_ s_
  refine V.g [.k (as_.v),.ln (kf false (.f 0) a (fun _ => as_)),.k (iv 0)] fun _ _ G3 => ?_
  intro S_ s_
  refine V.loop (γ := List Int × SV × Int) (fun ⟨out, outs, k0⟩ => ⟨[(1, bs.v), (5, outs.v), (18, as_.v), (19, iv (a.length : Int)), (20, iv k0)], [fs false b bs, fs false a as_], [os true 3 out outs]⟩) (fun ⟨out, outs, k0⟩ => (0 ≤ k0) ∧ (k0 ≤ (a.length : Int)) ∧ (Bg.MulO a b out k0.toNat)) (fun ⟨out, outs, k0⟩ => ((a.length : Int) - k0).toNat) (l1, (G2 5).s, 0) (by kernel_rfl) [1, 0] (by kernel_rfl) ?_ ?_
  · refine ⟨?_, ?_, ?_⟩
    · show 0 ≤ (0 : Int)
      first | omega | rfl | (simp; done) | (subst_vars; simp; done)
    · show (0 : Int) ≤ (a.length : Int)
      first | omega | rfl | (simp; done) | (subst_vars; simp; done)
    show Bg.MulO a b l1 (0 : Int).toNat
    rw [hl1, show n1.toNat = a.length + b.length by omega]; exact Bg.mul_start _ _
  rintro ⟨out, outs, k0⟩ hF1 kw4 Z1 hZ1
  have hF1 : (0 ≤ k0) ∧ (k0 ≤ (a.length : Int)) ∧ (Bg.MulO a b out k0.toNat) := hF1
  obtain ⟨hf1, hf2, hf3⟩ := hF1
  obtain ⟨-, -, ⟨kl3, -⟩, -⟩ : Lq b bs.v ∧ Lq a as_.v ∧ Lq out outs.v ∧ True := kn kw4 (by kernel_rfl)
  clear kw4
  have hol := hf3.len
  refine V.g [.k (bv (decide (k0 < (a.length : Int))))] fun _ _ G4 => ?_
  intro S_ s_
  refine V.cond (b := decide (k0 < (a.length : Int))) iDT iDF (by kernel_rfl) (fun q1 => ?_) (fun q2 => ?_)
  · refine nm (a.getD k0.toNat default : Int) fun v1 hv1 => ?_
    refine V.g [.k (iv k0),.ix g0 (kf false (.f 1) a (fun _ => as_)) k0 (fun _ => ⟨by omega, by omega⟩),.le g0 (kf false (.f 1) a (fun _ => as_)) k0 none false v1 hv1 (fun _ => ⟨by omega, by omega⟩) false (fun _ => [iv v1]),.k (iv k0),.k (iv v1)] fun _ _ G5 => ?_
    intro S_ s_
    refine V.g [.k (iv 0)] fun _ _ G6 => ?_
    intro S_ s_
    refine V.g [.k (bs.v),.ln (kf false (.f 0) b (fun _ => bs)),.k (iv 0)] fun _ _ G7 => ?_
    intro S_ s_
    refine V.loop (γ := List Int × SV × Int × Int) (fun ⟨out_1, out_1s, carry, k1⟩ => ⟨[(1, bs.v), (5, out_1s.v), (6, iv k0), (7, iv v1), (8, iv carry), (18, as_.v), (19, iv (a.length : Int)), (20, iv k0), (25, bs.v), (26, iv (b.length : Int)), (27, iv k1)], [fs false b bs, fs false a as_], [os true 3 out_1 out_1s]⟩) (fun ⟨out_1, out_1s, carry, k1⟩ => (0 ≤ k1) ∧ (k1 ≤ (b.length : Int)) ∧ (Bg.MulI a b out_1 k0.toNat k1.toNat carry)) (fun ⟨out_1, out_1s, carry, k1⟩ => ((b.length : Int) - k1).toNat) (out, outs, 0, 0) (by kernel_rfl) [0, 1] (by kernel_rfl) ?_ ?_
    · refine ⟨?_, ?_, ?_⟩
      · show 0 ≤ (0 : Int)
        first | omega | rfl | (simp; done) | (subst_vars; simp; done)
      · show (0 : Int) ≤ (b.length : Int)
        first | omega | rfl | (simp; done) | (subst_vars; simp; done)
      show Bg.MulI a b out k0.toNat (0 : Int).toNat (0 : Int)
      exact Bg.MulO.inner hf3
    rintro ⟨out_1, out_1s, carry, k1⟩ hF2 kw9 Z2 hZ2
    have hF2 : (0 ≤ k1) ∧ (k1 ≤ (b.length : Int)) ∧ (Bg.MulI a b out_1 k0.toNat k1.toNat carry) := hF2
    obtain ⟨hf4, hf5, hf6⟩ := hF2
    obtain ⟨-, -, ⟨kl4, -⟩, -⟩ : Lq b bs.v ∧ Lq a as_.v ∧ Lq out_1 out_1s.v ∧ True := kn kw9 (by kernel_rfl)
    clear kw9
    have hol2 := hf6.len
    refine V.g [.k (bv (decide (k1 < (b.length : Int))))] fun _ _ G8 => ?_
    intro S_ s_
    refine V.cond (b := decide (k1 < (b.length : Int))) iDT iDF (by kernel_rfl) (fun q3 => ?_) (fun q4 => ?_)
    · refine nm (b.getD k1.toNat default : Int) fun v2 hv2 => ?_
      refine V.g [.k (iv k1),.ix g0 (kf false (.f 0) b (fun _ => bs)) k1 (fun _ => ⟨by omega, by omega⟩),.le g0 (kf false (.f 0) b (fun _ => bs)) k1 none false v2 hv2 (fun _ => ⟨by omega, by omega⟩) false (fun _ => [iv v2]),.k (iv k1),.k (iv v2)] fun _ _ G9 => ?_
      intro S_ s_
      refine nm (out_1.getD (k0 + k1).toNat default : Int) fun v3 hv3 => ?_
      refine nm (v1 * v2 : Int) fun n2 hn2 => ?_
      refine nm (v3 + n2 + carry : Int) fun n3 hn3 => ?_
      have ex : a.getD k0.toNat 0 = v1 := hv1.symm
      have ey : b.getD k1.toNat 0 = v2 := hv2.symm
      have eo : out_1.getD (k0 + k1).toNat 0 = v3 := hv3.symm
      have bx := hda.get' k0.toNat; have by_ := hdb.get' k1.toNat; have bo := hf6.dg.get' (k0 + k1).toNat; have bc := hf6.c0
      rw [ex] at bx; rw [ey] at by_; rw [eo] at bo
      have bp := Bg.dmul bx by_
      refine V.g [.k (out_1s.v),.k (iv k0),.k (iv k1),.a (k0 + k1) (by omega) (by omega),.ix g0 (ko true 3 0 out_1 (fun _ => out_1s)) (k0 + k1) (fun _ => ⟨by omega, by omega⟩),.le g0 (ko true 3 0 out_1 (fun _ => out_1s)) (k0 + k1) none false v3 hv3 (fun _ => ⟨by omega, by omega⟩) false (fun _ => [iv v3]),.k (iv v1),.k (iv v2),.ar (v1 * v2) n2 hn2 (by omega) (by omega),.a (v3 + n2) (by omega) (by omega),.k (iv carry),.ar (v3 + n2 + carry) n3 hn3 (by omega) (by omega),.k (iv n3)] fun _ _ G10 => ?_
      intro S_ s_
      have hxx : n3 = out_1.getD (k0.toNat + k1.toNat) 0 + a.getD k0.toNat 0 * b.getD k1.toNat 0 + carry := by rw [ex, ey, show k0.toNat + k1.toNat = (k0 + k1).toNat by omega, eo]; omega
      have stp := Bg.mul_step hf6 hda hdb (by omega) (by omega) hxx
      have stp1 := stp.1; have stp2 := stp.2; clear stp
      refine nm (n3 % 1048576 : Int) fun n4 hn4 => ?_
      refine nm (n3 / 1048576 : Int) fun n5 hn5 => ?_
      refine nm (out_1.set (k0 + k1).toNat n4 : List Int) fun l2 hl2 => ?_
      have hl2n := congrArg List.length hl2; try simp only [List.length_append, List.length_cons, List.length_nil, List.length_replicate, List.length_set, List.length_take, List.length_drop, List.length_map, List.length_reverse, List.length_range] at hl2n
      refine V.g [.k (out_1s.v),.k (iv k0),.k (iv k1),.a (k0 + k1) (by omega) (by omega),.k (iv n3),.andm g0 n3 1048575 n4 20 (by decide) rfl (by rw [hn4]; rfl),.k (iv n3),.shrm g0 .i64 .u64 n3 n5 20 (by decide) (by rw [hn5]; rfl),.ix g0 (ko true 3 0 out_1 (fun _ => out_1s)) (k0 + k1) (fun _ => ⟨by omega, by omega⟩),.se g0 9 0 3 true out_1 (fun _ => out_1s) (k0 + k1) none v3 n4 hv3 true l2 hl2 (fun _ => ⟨by omega, by omega⟩) (fun _ => rfl) [] (fun _ _ _ _ => trivial),.k (iv n5)] fun _ _ G11 => ?_
      intro S_ s_
      refine V.g [.a (k1 + 1) (by omega) (by omega),.k (iv (k1 + 1))] fun _ _ G12 => ?_
      intro S_ s_
      refine V.rnd hZ2 (l2, out_1s, n5, k1 + 1) [0, 1] (by kernel_rfl) ?_ ?_
      · refine ⟨?_, ?_, ?_⟩
        · show 0 ≤ (k1 + 1)
          first | omega | rfl | (simp; done) | (subst_vars; simp; done)
        · show (k1 + 1) ≤ (b.length : Int)
          first | omega | rfl | (simp; done) | (subst_vars; simp; done)
        show Bg.MulI a b l2 k0.toNat (k1 + 1).toNat n5
        rw [hl2, hn4, hn5, show (k0 + k1).toNat = k0.toNat + k1.toNat by omega, show (k1 + 1).toNat = k1.toNat + 1 by omega]; exact stp2
      show ((b.length : Int) - (k1 + 1)).toNat < ((b.length : Int) - k1).toNat
      omega
    refine nm (k0 + (b.length : Int) : Int) fun n6 hn6 => ?_
    refine nm (out_1.getD n6.toNat default : Int) fun v4 hv4 => ?_
    refine nm (out_1.set n6.toNat (v4 + carry) : List Int) fun l3 hl3 => ?_
    have hl3n := congrArg List.length hl3; try simp only [List.length_append, List.length_cons, List.length_nil, List.length_replicate, List.length_set, List.length_take, List.length_drop, List.length_map, List.length_reverse, List.length_range] at hl3n
    have hml := hf6
    rw [show k1.toNat = b.length by omega] at hml
    have eo : out_1.getD n6.toNat 0 = v4 := hv4.symm
    have bo := hml.dg.get' n6.toNat; have bc := hml.c0; have hol3 := hml.len
    rw [eo] at bo
    refine V.g [.k (out_1s.v),.k (iv k0),.k (bs.v),.ln (kf false (.f 0) b (fun _ => bs)),.ar (k0 + (b.length : Int)) n6 hn6 (by omega) (by omega),.ix g0 (ko true 3 0 out_1 (fun _ => out_1s)) n6 (fun _ => ⟨by omega, by omega⟩),.le g0 (ko true 3 0 out_1 (fun _ => out_1s)) n6 none false v4 hv4 (fun _ => ⟨by omega, by omega⟩) false (fun _ => [iv v4]),.k (iv carry),.a (v4 + carry) (by omega) (by omega),.ix g0 (ko true 3 0 out_1 (fun _ => out_1s)) n6 (fun _ => ⟨by omega, by omega⟩),.se g0 10 0 3 true out_1 (fun _ => out_1s) n6 none v4 (v4 + carry) hv4 true l3 hl3 (fun _ => ⟨by omega, by omega⟩) (fun _ => rfl) [] (fun _ _ _ _ => trivial)] fun _ _ G13 => ?_
    intro S_ s_
    refine V.g [.a (k0 + 1) (by omega) (by omega),.k (iv (k0 + 1))] fun _ _ G14 => ?_
    intro S_ s_
    refine V.rnd hZ1 (l3, out_1s, k0 + 1) [0, 1] (by kernel_rfl) ?_ ?_
    · refine ⟨?_, ?_, ?_⟩
      · show 0 ≤ (k0 + 1)
        first | omega | rfl | (simp; done) | (subst_vars; simp; done)
      · show (k0 + 1) ≤ (a.length : Int)
        first | omega | rfl | (simp; done) | (subst_vars; simp; done)
      show Bg.MulO a b l3 (k0 + 1).toNat
      have hme := Bg.mul_end (x := (v4 + carry)) hml (by omega) (by rw [show k0.toNat + b.length = n6.toNat by omega, eo])
      rw [hl3, show n6.toNat = k0.toNat + b.length by omega, show (k0 + 1).toNat = k0.toNat + 1 by omega]; exact hme
    show ((a.length : Int) - (k0 + 1)).toNat < ((a.length : Int) - k0).toNat
    omega
  have hen := hf3
  rw [show k0.toNat = a.length by omega] at hen
  have hsd := hen.dg
  have hse := hen.sum
  rw [List.take_length] at hse
  refine V.frz 0 true 3 out outs (by kernel_rfl) ?_
  refine V.r [.k (outs.v),.ctT g0 1 125 [(kf true (.f 2) out (fun _ => outs)).a] (fun _ G => trim_ct out outs hsd),.v fun G => ((G 1).ss 0).v] fun _ _ G15 kw17 => ?_
  intro S_ s_
  obtain ⟨⟨kl5, -⟩, -⟩ : Lq (Bg.dig (Bg.nv out)) (((G15 1).ss 0).v) ∧ True := kn kw17 (by kernel_rfl)
  clear kw17
  have e0 : Bg.dig (Bg.nv out) = Bg.dig (Bg.nv a * Bg.nv b) := by rw [hse]
  rw [← e0]
  exact V.ret [0] [(G15 1).ss 0] [fun _ => {}] [] [3] [] (((G15 1).ss 0).v) (fun _ _ => by kernel_rfl) (fun _ _ => by kernel_rfl) (fun _ _ => trivial)
theorem mul_ctv (a : List Int) (as_ : SV) (b : List Int) (bs : SV) (hda : Bg.Dg a) (hdb : Bg.Dg b) (hla : a.length ≤ 1099511627776) (hlb : b.length ≤ 1099511627776) (rv0 : List Int) (erv0 : rv0 = Bg.dig (Bg.nv a * Bg.nv b)) :
    Ct Try.prog 123 #[as_.v, bs.v] [fs true a as_, fs true b bs] [] (fun g => ((g.ss 0)).v) (fun g => [fs true rv0 (g.ss 0)]) (fun g => []) (fun g => []) := by
  subst erv0; exact mul_ct a as_ b bs hda hdb hla hlb
set_option maxRecDepth 10000 in
theorem short_ct (a : List Int) (as_ : SV) (d : Int) (hda : Bg.Dg a) (hdd : 0 < d ∧ d < 1048576) (hla : a.length ≤ 1099511627776) :
    Ct Try.prog 124 #[as_.v, iv d] [fs true a as_] [] (fun g => .tuple #[((g.ss 0)).v, iv ((Bg.nv a % d.toNat : Nat) : Int)]) (fun g => [fs true (Bg.dig (Bg.nv a / d.toNat)) (g.ss 0)]) (fun g => []) (fun g => []) := by
  refine V.fn mo Try.func124 38 1 (by kernel_rfl) fun w H ε k0 => ?_
  obtain ⟨⟨kl1, -⟩, -⟩ : Lq a as_.v ∧ True := kn k0 (by kernel_rfl)
  clear k0
  refine V.g [.k (.slice none 0 0),.k (iv 0)] fun _ _ G1 => ?_
  intro S_ s_
  refine nm (List.replicate (a.length : Int).toNat (0 : Int) : List Int) fun l1 hl1 => ?_
  have hl1n := congrArg List.length hl1; try simp only [List.length_append, List.length_cons, List.length_nil, List.length_replicate, List.length_set, List.length_take, List.length_drop, List.length_map, List.length_reverse, List.length_range] at hl1n
  refine V.g [.k (as_.v),.ln (kf false (.f 0) a (fun _ => as_)),.mks 2 0 3 8 (a.length : Int) l1 hl1 (by omega) (by omega) (by omega),.v fun G => ((G 2).s).v] fun _ _ G2 => ?_
  intro S_ s_
  refine V.g [.k (iv 0)] fun _ _ G3 => ?_
  intro S_ s_
  refine nm ((a.length : Int) - 1 : Int) fun n1 hn1 => ?_
  refine V.g [.k (as_.v),.ln (kf false (.f 0) a (fun _ => as_)),.ar ((a.length : Int) - 1) n1 hn1 (by omega) (by omega),.k (iv n1)] fun _ _ G4 => ?_
  intro S_ s_
  refine V.loop (γ := List Int × SV × Int × Int) (fun ⟨out, outs, r, i⟩ => ⟨[(0, as_.v), (1, iv d), (6, outs.v), (7, iv r), (8, iv i)], [fs false a as_], [os true 3 out outs]⟩) (fun ⟨out, outs, r, i⟩ => (-1 ≤ i) ∧ (i < (a.length : Int)) ∧ (Bg.ShoI a out d (i + 1).toNat r)) (fun ⟨out, outs, r, i⟩ => (i + 1).toNat) (l1, (G2 2).s, 0, n1) (by kernel_rfl) [0] (by kernel_rfl) ?_ ?_
  · refine ⟨?_, ?_, ?_⟩
    · show -1 ≤ n1
      omega
    · show n1 < (a.length : Int)
      omega
    show Bg.ShoI a l1 d (n1 + 1).toNat (0 : Int)
    rw [show (n1 + 1).toNat = a.length by omega, hl1, show ((a.length : Int)).toNat = a.length by omega]; exact Bg.sho_start _ hdd.1
  rintro ⟨out, outs, r, i⟩ hF1 kw5 Z1 hZ1
  have hF1 : (-1 ≤ i) ∧ (i < (a.length : Int)) ∧ (Bg.ShoI a out d (i + 1).toNat r) := hF1
  obtain ⟨hf1, hf2, hf3⟩ := hF1
  obtain ⟨-, ⟨kl2, -⟩, -⟩ : Lq a as_.v ∧ Lq out outs.v ∧ True := kn kw5 (by kernel_rfl)
  clear kw5
  refine V.g [.k (iv i),.k (bv (decide (0 ≤ i)))] fun _ _ G5 => ?_
  intro S_ s_
  refine V.cond (b := decide (0 ≤ i)) iDT iDF (by kernel_rfl) (fun q1 => ?_) (fun q2 => ?_)
  · refine nm (r * 1048576 : Int) fun n2 hn2 => ?_
    refine nm (a.getD i.toNat default : Int) fun v1 hv1 => ?_
    refine nm (n2 + v1 : Int) fun n3 hn3 => ?_
    have ea : a.getD i.toNat 0 = v1 := hv1.symm
    have ba := hda.get' i.toNat; rw [ea] at ba
    have br := hf3.r0
    have hol := hf3.len
    refine V.g [.k (iv r),.shlm g0 .i64 .u64 r 20 n2 20 (fun _ => ⟨rfl, by decide, by show _ = IntKind.i64.wrap (r * 1048576); rw [IntKind.wrap_i64]; omega⟩),.k (as_.v),.k (iv i),.ix g0 (kf false (.f 0) a (fun _ => as_)) i (fun _ => ⟨by omega, by omega⟩),.le g0 (kf false (.f 0) a (fun _ => as_)) i none false v1 hv1 (fun _ => ⟨by omega, by omega⟩) false (fun _ => [iv v1]),.orm g0 n2 r v1 n3 20 (by rw [hn2]; rfl) (fun _ => ⟨by decide, by omega, ⟨by omega, by show _ < (1048576 : Int); omega⟩, by rw [hn3, hn2]; rfl, by omega⟩),.k (iv n3)] fun _ _ G6 => ?_
    intro S_ s_
    have hsf := hf3
    rw [show (i + 1).toNat = i.toNat + 1 by omega] at hsf
    have stp := Bg.sho_step (x := n3) hsf hda hdd (by omega) (by rw [ea]; omega)
    have stp1 := stp.1; have stp2 := stp.2.1; have stp3 := stp.2.2; clear stp
    refine nm (n3 / d : Int) fun n4 hn4 => ?_
    refine nm (out.getD i.toNat default : Int) fun v2 hv2 => ?_
    refine nm (out.set i.toNat n4 : List Int) fun l2 hl2 => ?_
    have hl2n := congrArg List.length hl2; try simp only [List.length_append, List.length_cons, List.length_nil, List.length_replicate, List.length_set, List.length_take, List.length_drop, List.length_map, List.length_reverse, List.length_range] at hl2n
    refine V.g [.k (outs.v),.k (iv i),.k (iv n3),.k (iv d),.qov g0 n3 d n4 hn4 (fun _ => ⟨by omega, by omega⟩) (fun _ => by omega),.ix g0 (ko true 3 0 out (fun _ => outs)) i (fun _ => ⟨by omega, by omega⟩),.se g0 6 0 3 true out (fun _ => outs) i none v2 n4 hv2 true l2 hl2 (fun _ => ⟨by omega, by omega⟩) (fun _ => rfl) [] (fun _ _ _ _ => trivial)] fun _ _ G7 => ?_
    intro S_ s_
    refine nm (n3 % d : Int) fun n5 hn5 => ?_
    refine V.g [.k (iv n3),.k (iv d),.rmv g0 n3 d n5 hn5 (fun _ => ⟨by omega, by omega⟩),.k (iv n5)] fun _ _ G8 => ?_
    intro S_ s_
    refine V.g [.k (iv i),.a (i - 1) (by omega) (by omega),.k (iv (i - 1))] fun _ _ G9 => ?_
    intro S_ s_
    refine V.rnd hZ1 (l2, outs, n5, i - 1) [0] (by kernel_rfl) ?_ ?_
    · refine ⟨?_, ?_, ?_⟩
      · show -1 ≤ (i - 1)
        omega
      · show (i - 1) < (a.length : Int)
        omega
      show Bg.ShoI a l2 d ((i - 1) + 1).toNat n5
      rw [hl2, hn4, hn5, show (i - 1 + 1).toNat = i.toNat by omega]; exact stp3
    show ((i - 1) + 1).toNat < (i + 1).toNat
    omega
  have hen := hf3
  rw [show (i + 1).toNat = 0 by omega] at hen
  have hsd := hen.dg
  obtain ⟨hse, hsr⟩ := Bg.sho_end hen
  refine V.frz 0 true 3 out outs (by kernel_rfl) ?_
  refine V.r [.k (outs.v),.ctT g0 1 125 [(kf true (.f 1) out (fun _ => outs)).a] (fun _ G => trim_ct out outs hsd),.k (iv r),.v fun G => ((G 1).ss 0).v,.k (iv r)] fun _ _ G10 kw11 => ?_
  intro S_ s_
  obtain ⟨⟨kl3, -⟩, -⟩ : Lq (Bg.dig (Bg.nv out)) (((G10 1).ss 0).v) ∧ True := kn kw11 (by kernel_rfl)
  clear kw11
  have e0 : Bg.dig (Bg.nv out) = Bg.dig (Bg.nv a / d.toNat) := by rw [hse]
  rw [← e0]
  have e1 : r = ((Bg.nv a % d.toNat : Nat) : Int) := hsr
  exact V.ret [0, 0] [(G10 1).ss 0] [fun _ => {}] [] [2] [] (.tuple #[((G10 1).ss 0).v, iv r]) (fun _ _ => by kernel_rfl) (fun _ _ => (Eq.trans (by kernel_rfl) (cong1 (fun (x1 : Int) => (.tuple #[((G10 1).ss 0).v, iv x1] : Value)) e1)).trans (by kernel_rfl)) (fun _ _ => trivial)

open Go Go.Proofs
set_option maxRecDepth 10000 in
theorem settle_ct (ul : List Int) (us : SV) (ulo uhi : Nat) (ua u ub v : List Int) (vs : SV) (guess : Int) (hul : ul = ua ++ u ++ ub) (hulo : ulo = ua.length) (huhi : uhi = ua.length + u.length) (hdu : Bg.Dg u) (hdv : Bg.Dg v) (hlv : v.length ≤ u.length) (hg : 0 ≤ guess ∧ guess < 1048576) (h1 : (guess.toNat - 1) * Bg.nv v ≤ Bg.nv u) (hlu : u.length ≤ 4398046511104) :
    Ct Try.prog 126 #[(us.sub 1 ulo uhi).v, vs.v, iv guess] [fs true v vs] [os false 3 ul us] (fun g => iv (Bg.setG u v guess)) (fun g => []) (fun g => [os true 3 (ua ++ (Bg.setP u v guess) ++ ub) us]) (fun g => []) := by
  subst hul hulo huhi
  refine V.fn mo Try.func126 78 0 (by kernel_rfl) fun w H ε k0 => ?_
  obtain ⟨⟨kl1, -⟩, ⟨kl2, -⟩, -⟩ : Lq v vs.v ∧ Lq (ua ++ u ++ ub) us.v ∧ True := kn k0 (by kernel_rfl)
  clear k0
  refine V.tro 3 (ua ++ u ++ ub) us 0 (by kernel_rfl) (fun _ _ => trivial) ?_
  refine V.g [.k (iv 0)] fun _ _ G1 => ?_
  intro S_ s_
  refine V.g [.k (iv 0)] fun _ _ G2 => ?_
  intro S_ s_
  refine V.g [.k ((us.sub 1 ua.length (ua.length + u.length)).v),.ln (kop true 3 0 ua u ub u.length (by omega) (fun _ => us)),.k (iv 0)] fun _ _ G3 => ?_
  intro S_ s_
  refine V.loop (γ := List Int × Int × Int) (fun ⟨cur, borrow, k0⟩ => ⟨[(0, (us.sub 1 ua.length (ua.length + u.length)).v), (1, vs.v), (2, iv guess), (7, iv borrow), (13, iv (u.length : Int)), (14, iv k0)], [fs false v vs], [os true 3 (ua ++ cur ++ ub) us]⟩) (fun ⟨cur, borrow, k0⟩ => (0 ≤ k0) ∧ (k0 ≤ (u.length : Int)) ∧ (Bg.SetI u v cur guess k0.toNat borrow)) (fun ⟨cur, borrow, k0⟩ => ((u.length : Int) - k0).toNat) (u, 0, 0) (by kernel_rfl) [0] (by kernel_rfl) ?_ ?_
  · refine ⟨?_, ?_, ?_⟩
    · show 0 ≤ (0 : Int)
      first | omega | rfl | (simp; done) | (subst_vars; simp; done)
    · show (0 : Int) ≤ (u.length : Int)
      first | omega | rfl | (simp; done) | (subst_vars; simp; done)
    show Bg.SetI u v u guess (0 : Int).toNat (0 : Int)
    exact Bg.set_start _ _ _ hdu
  rintro ⟨cur, borrow, k0⟩ hF1 kw4 Z1 hZ1
  have hF1 : (0 ≤ k0) ∧ (k0 ≤ (u.length : Int)) ∧ (Bg.SetI u v cur guess k0.toNat borrow) := hF1
  obtain ⟨hf1, hf2, hf3⟩ := hF1
  clear kw4
  have hol := hf3.len
  have hc0 := hf3.c0
  have hda_ := hf3.dg.get' k0.toNat
  refine V.g [.k (bv (decide (k0 < (u.length : Int))))] fun _ _ G4 => ?_
  intro S_ s_
  refine V.cond (b := decide (k0 < (u.length : Int))) iDT iDF (by kernel_rfl) (fun q1 => ?_) (fun q2 => ?_)
  · refine V.g [.k (iv k0),.k (iv k0)] fun _ _ G5 => ?_
    intro S_ s_
    refine nm (cur.getD k0.toNat default : Int) fun v1 hv1 => ?_
    have e1 : cur.getD k0.toNat 0 = v1 := hv1.symm
    refine V.g [.k ((us.sub 1 ua.length (ua.length + u.length)).v),.k (iv k0),.ix g0 (kop true 3 0 ua cur ub u.length (by omega) (fun _ => us)) k0 (fun _ => ⟨by omega, by omega⟩),.le g0 (kop true 3 0 ua cur ub u.length (by omega) (fun _ => us)) k0 none false v1 hv1 (fun _ => ⟨by omega, by omega⟩) false (fun _ => [iv v1]),.k (iv borrow),.a (v1 - borrow) (by omega) (by omega),.k (iv (v1 - borrow))] fun _ _ G6 => ?_
    intro S_ s_
    refine V.g [.k (iv k0),.k (vs.v),.ln (kf false (.f 0) v (fun _ => vs)),.k (bv (decide (k0 < (v.length : Int))))] fun _ _ G7 => ?_
    intro S_ s_
    refine V.cond (b := decide (k0 < (v.length : Int))) iDT iDF (by kernel_rfl) (fun q3 => ?_) (fun q4 => ?_)
    · refine nm (v.getD k0.toNat default : Int) fun v2 hv2 => ?_
      refine nm (guess * v2 : Int) fun n1 hn1 => ?_
      refine nm (v1 - borrow - n1 : Int) fun n2 hn2 => ?_
      have e2 : v.getD k0.toNat 0 = v2 := hv2.symm
      have hdv_ := hdv.get' k0.toNat; rw [e2] at hdv_
      have bp := Bg.dmul hg hdv_
      refine V.g [.k (iv (v1 - borrow)),.k (iv guess),.k (vs.v),.k (iv k0),.ix g0 (kf false (.f 0) v (fun _ => vs)) k0 (fun _ => ⟨by omega, by omega⟩),.le g0 (kf false (.f 0) v (fun _ => vs)) k0 none false v2 hv2 (fun _ => ⟨by omega, by omega⟩) false (fun _ => [iv v2]),.ar (guess * v2) n1 hn1 (by omega) (by omega),.ar (v1 - borrow - n1) n2 hn2 (by omega) (by omega),.k (iv n2)] fun _ _ G8 => ?_
      intro S_ s_
      have hxx : n2 = cur.getD k0.toNat 0 - borrow - guess * v.getD k0.toNat 0 := by rw [e1, e2]; omega
      have stp := Bg.set_step hf3 hdv hg (by omega) hxx
      have stp1 := stp.1; have stp2 := stp.2; clear stp
      refine nm (n2 % 1048576 : Int) fun n3 hn3 => ?_
      refine nm (cur.set k0.toNat n3 : List Int) fun l1 hl1 => ?_
      have hl1n := congrArg List.length hl1; try simp only [List.length_append, List.length_cons, List.length_nil, List.length_replicate, List.length_set, List.length_take, List.length_drop, List.length_map, List.length_reverse, List.length_range] at hl1n
      refine V.g [.k ((us.sub 1 ua.length (ua.length + u.length)).v),.k (iv k0),.k (iv n2),.andm g0 n2 1048575 n3 20 (by decide) rfl (by rw [hn3]; rfl),.ix g0 (kop true 3 0 ua cur ub u.length (by omega) (fun _ => us)) k0 (fun _ => ⟨by omega, by omega⟩),.sep g0 5 0 3 true ua cur ub u.length (by omega) (fun _ => us) k0 n3 l1 hl1 (fun _ => ⟨by omega, by omega⟩) (fun _ => trivial)] fun _ _ G9 => ?_
      intro S_ s_
      refine nm (n2 / 1048576 : Int) fun n4 hn4 => ?_
      refine V.g [.k (iv n2),.shrm g0 .i64 .u64 n2 n4 20 (by decide) (by rw [hn4]; rfl),.ng n4 (-n4) rfl (by omega) (by omega),.k (iv (-n4))] fun _ _ G10 => ?_
      intro S_ s_
      refine V.g [.a (k0 + 1) (by omega) (by omega),.k (iv (k0 + 1))] fun _ _ G11 => ?_
      intro S_ s_
      refine V.rnd hZ1 (l1, -n4, k0 + 1) [0] (by kernel_rfl) ?_ ?_
      · refine ⟨?_, ?_, ?_⟩
        · show 0 ≤ (k0 + 1)
          first | omega | rfl | (simp; done) | (subst_vars; simp; done)
        · show (k0 + 1) ≤ (u.length : Int)
          first | omega | rfl | (simp; done) | (subst_vars; simp; done)
        show Bg.SetI u v l1 guess (k0 + 1).toNat (-n4)
        rw [hl1, hn3, show (k0 + 1).toNat = k0.toNat + 1 by omega]; rw [hn4]; exact stp2
      show ((u.length : Int) - (k0 + 1)).toNat < ((u.length : Int) - k0).toNat
      omega
    have e2 := Bg.getD_out (l := v) (i := k0.toNat) (by omega)
    have hxx : v1 - borrow = cur.getD k0.toNat 0 - borrow - guess * v.getD k0.toNat 0 := by rw [e1, e2]; omega
    have stp := Bg.set_step hf3 hdv hg (by omega) hxx
    have stp1 := stp.1; have stp2 := stp.2; clear stp
    refine nm ((v1 - borrow) % 1048576 : Int) fun n5 hn5 => ?_
    refine nm (cur.set k0.toNat n5 : List Int) fun l2 hl2 => ?_
    have hl2n := congrArg List.length hl2; try simp only [List.length_append, List.length_cons, List.length_nil, List.length_replicate, List.length_set, List.length_take, List.length_drop, List.length_map, List.length_reverse, List.length_range] at hl2n
    refine V.g [.k ((us.sub 1 ua.length (ua.length + u.length)).v),.k (iv k0),.k (iv (v1 - borrow)),.andm g0 (v1 - borrow) 1048575 n5 20 (by decide) rfl (by rw [hn5]; rfl),.ix g0 (kop true 3 0 ua cur ub u.length (by omega) (fun _ => us)) k0 (fun _ => ⟨by omega, by omega⟩),.sep g0 5 0 3 true ua cur ub u.length (by omega) (fun _ => us) k0 n5 l2 hl2 (fun _ => ⟨by omega, by omega⟩) (fun _ => trivial)] fun _ _ G12 => ?_
    intro S_ s_
    refine nm ((v1 - borrow) / 1048576 : Int) fun n6 hn6 => ?_
    refine V.g [.k (iv (v1 - borrow)),.shrm g0 .i64 .u64 (v1 - borrow) n6 20 (by decide) (by rw [hn6]; rfl),.ng n6 (-n6) rfl (by omega) (by omega),.k (iv (-n6))] fun _ _ G13 => ?_
    intro S_ s_
    refine V.g [.a (k0 + 1) (by omega) (by omega),.k (iv (k0 + 1))] fun _ _ G14 => ?_
    intro S_ s_
    refine V.rnd hZ1 (l2, -n6, k0 + 1) [0] (by kernel_rfl) ?_ ?_
    · refine ⟨?_, ?_, ?_⟩
      · show 0 ≤ (k0 + 1)
        first | omega | rfl | (simp; done) | (subst_vars; simp; done)
      · show (k0 + 1) ≤ (u.length : Int)
        first | omega | rfl | (simp; done) | (subst_vars; simp; done)
      show Bg.SetI u v l2 guess (k0 + 1).toNat (-n6)
      rw [hl2, hn5, show (k0 + 1).toNat = k0.toNat + 1 by omega]; rw [hn6]; exact stp2
    show ((u.length : Int) - (k0 + 1)).toNat < ((u.length : Int) - k0).toNat
    omega
  have hmd := hf3
  rw [show k0.toNat = u.length by omega] at hmd
  have hm2 := Bg.set_mid hmd hlv hg.1
  refine V.g [.k (iv borrow),.k (bv (decide (borrow = 0)))] fun _ _ G15 => ?_
  intro S_ s_
  refine V.cond (b := decide (borrow = 0)) iDT iDF (by kernel_rfl) (fun q5 => ?_) (fun q6 => ?_)
  · refine V.g [.k (iv guess),.k (iv guess)] fun _ _ G16 => ?_
    intro S_ s_
    have e0 : guess = Bg.setG u v guess := by
      have h0 := hm2.1.1 q5
      unfold Bg.setG; rw [if_pos h0]
    have eL0 : cur = Bg.setP u v guess := hm2.2 q5
    refine V.alt (fun (zz1 : List Int) => (⟨[(6, iv guess)], [fs false v vs], [os true 3 (ua ++ zz1 ++ ub) us]⟩ : St)) eL0 [0] (by kernel_rfl) ?_
    exact V.ret [0] [] [] [] [] [0] (iv guess) (fun _ _ => by kernel_rfl) (fun _ _ => (Eq.trans (by kernel_rfl) (cong1 (fun (x0 : Int) => (iv x0 : Value)) e0)).trans (by kernel_rfl)) (fun _ _ => trivial)
  have hol5 := hmd.len
  refine V.g [.k (iv 0)] fun _ _ G17 => ?_
  intro S_ s_
  refine V.g [.k ((us.sub 1 ua.length (ua.length + u.length)).v),.ln (kop true 3 0 ua cur ub u.length (by omega) (fun _ => us)),.k (iv 0)] fun _ _ G18 => ?_
  intro S_ s_
  refine V.loop (γ := List Int × Int × Int) (fun ⟨cur2, carry, k1⟩ => ⟨[(0, (us.sub 1 ua.length (ua.length + u.length)).v), (1, vs.v), (2, iv guess), (10, iv carry), (48, iv (cur.length : Int)), (49, iv k1)], [fs false v vs], [os true 3 (ua ++ cur2 ++ ub) us]⟩) (fun ⟨cur2, carry, k1⟩ => (0 ≤ k1) ∧ (k1 ≤ (cur.length : Int)) ∧ (Bg.BakI cur v cur2 k1.toNat carry)) (fun ⟨cur2, carry, k1⟩ => ((cur.length : Int) - k1).toNat) (cur, 0, 0) (by kernel_rfl) [0] (by kernel_rfl) ?_ ?_
  · refine ⟨?_, ?_, ?_⟩
    · show 0 ≤ (0 : Int)
      first | omega | rfl | (simp; done) | (subst_vars; simp; done)
    · show (0 : Int) ≤ (cur.length : Int)
      first | omega | rfl | (simp; done) | (subst_vars; simp; done)
    show Bg.BakI cur v cur (0 : Int).toNat (0 : Int)
    exact Bg.bak_start _ _ hmd.dg
  rintro ⟨cur2, carry, k1⟩ hF2 kw20 Z2 hZ2
  have hF2 : (0 ≤ k1) ∧ (k1 ≤ (cur.length : Int)) ∧ (Bg.BakI cur v cur2 k1.toNat carry) := hF2
  obtain ⟨hf4, hf5, hf6⟩ := hF2
  clear kw20
  have hol := hf6.len
  have hc0 := hf6.c0
  have hda_ := hf6.dg.get' k1.toNat
  have hdb_ := hdv.get' k1.toNat
  refine V.g [.k (bv (decide (k1 < (cur.length : Int))))] fun _ _ G19 => ?_
  intro S_ s_
  refine V.cond (b := decide (k1 < (cur.length : Int))) iDT iDF (by kernel_rfl) (fun q7 => ?_) (fun q8 => ?_)
  · refine V.g [.k (iv k1),.k (iv k1)] fun _ _ G20 => ?_
    intro S_ s_
    refine nm (cur2.getD k1.toNat default : Int) fun v3 hv3 => ?_
    have e1 : cur2.getD k1.toNat 0 = v3 := hv3.symm
    refine V.g [.k (iv carry),.k ((us.sub 1 ua.length (ua.length + u.length)).v),.k (iv k1),.ix g0 (kop true 3 0 ua cur2 ub u.length (by omega) (fun _ => us)) k1 (fun _ => ⟨by omega, by omega⟩),.le g0 (kop true 3 0 ua cur2 ub u.length (by omega) (fun _ => us)) k1 none false v3 hv3 (fun _ => ⟨by omega, by omega⟩) false (fun _ => [iv v3]),.a (carry + v3) (by omega) (by omega),.k (iv (carry + v3))] fun _ _ G21 => ?_
    intro S_ s_
    refine V.g [.k (iv k1),.k (vs.v),.ln (kf false (.f 0) v (fun _ => vs)),.k (bv (decide (k1 < (v.length : Int))))] fun _ _ G22 => ?_
    intro S_ s_
    refine V.cond (b := decide (k1 < (v.length : Int))) iDT iDF (by kernel_rfl) (fun q9 => ?_) (fun q10 => ?_)
    · refine nm (v.getD k1.toNat default : Int) fun v4 hv4 => ?_
      refine nm (carry + v3 + v4 : Int) fun n7 hn7 => ?_
      have e2 : v.getD k1.toNat 0 = v4 := hv4.symm
      refine V.g [.k (iv (carry + v3)),.k (vs.v),.k (iv k1),.ix g0 (kf false (.f 0) v (fun _ => vs)) k1 (fun _ => ⟨by omega, by omega⟩),.le g0 (kf false (.f 0) v (fun _ => vs)) k1 none false v4 hv4 (fun _ => ⟨by omega, by omega⟩) false (fun _ => [iv v4]),.ar (carry + v3 + v4) n7 hn7 (by omega) (by omega),.k (iv n7)] fun _ _ G23 => ?_
      intro S_ s_
      have hxx : n7 = carry + cur2.getD k1.toNat 0 + v.getD k1.toNat 0 := by rw [e1, e2]; omega
      refine nm (n7 % 1048576 : Int) fun n8 hn8 => ?_
      refine nm (cur2.set k1.toNat n8 : List Int) fun l3 hl3 => ?_
      have hl3n := congrArg List.length hl3; try simp only [List.length_append, List.length_cons, List.length_nil, List.length_replicate, List.length_set, List.length_take, List.length_drop, List.length_map, List.length_reverse, List.length_range] at hl3n
      refine V.g [.k ((us.sub 1 ua.length (ua.length + u.length)).v),.k (iv k1),.k (iv n7),.andm g0 n7 1048575 n8 20 (by decide) rfl (by rw [hn8]; rfl),.ix g0 (kop true 3 0 ua cur2 ub u.length (by omega) (fun _ => us)) k1 (fun _ => ⟨by omega, by omega⟩),.sep g0 5 0 3 true ua cur2 ub u.length (by omega) (fun _ => us) k1 n8 l3 hl3 (fun _ => ⟨by omega, by omega⟩) (fun _ => trivial)] fun _ _ G24 => ?_
      intro S_ s_
      refine nm (n7 / 1048576 : Int) fun n9 hn9 => ?_
      refine V.g [.k (iv n7),.shrm g0 .i64 .u64 n7 n9 20 (by decide) (by rw [hn9]; rfl),.k (iv n9)] fun _ _ G25 => ?_
      intro S_ s_
      refine V.g [.a (k1 + 1) (by omega) (by omega),.k (iv (k1 + 1))] fun _ _ G26 => ?_
      intro S_ s_
      refine V.rnd hZ2 (l3, n9, k1 + 1) [0] (by kernel_rfl) ?_ ?_
      · refine ⟨?_, ?_, ?_⟩
        · show 0 ≤ (k1 + 1)
          first | omega | rfl | (simp; done) | (subst_vars; simp; done)
        · show (k1 + 1) ≤ (cur.length : Int)
          first | omega | rfl | (simp; done) | (subst_vars; simp; done)
        show Bg.BakI cur v l3 (k1 + 1).toNat n9
        rw [hl3, hn8, hn9, show (k1 + 1).toNat = k1.toNat + 1 by omega]; exact Bg.bak_step hf6 hdv (by omega) hxx
      show ((cur.length : Int) - (k1 + 1)).toNat < ((cur.length : Int) - k1).toNat
      omega
    have e2 := Bg.getD_out (l := v) (i := k1.toNat) (by omega)
    have hxx : carry + v3 = carry + cur2.getD k1.toNat 0 + v.getD k1.toNat 0 := by rw [e1, e2]; omega
    refine nm ((carry + v3) % 1048576 : Int) fun n10 hn10 => ?_
    refine nm (cur2.set k1.toNat n10 : List Int) fun l4 hl4 => ?_
    have hl4n := congrArg List.length hl4; try simp only [List.length_append, List.length_cons, List.length_nil, List.length_replicate, List.length_set, List.length_take, List.length_drop, List.length_map, List.length_reverse, List.length_range] at hl4n
    refine V.g [.k ((us.sub 1 ua.length (ua.length + u.length)).v),.k (iv k1),.k (iv (carry + v3)),.andm g0 (carry + v3) 1048575 n10 20 (by decide) rfl (by rw [hn10]; rfl),.ix g0 (kop true 3 0 ua cur2 ub u.length (by omega) (fun _ => us)) k1 (fun _ => ⟨by omega, by omega⟩),.sep g0 5 0 3 true ua cur2 ub u.length (by omega) (fun _ => us) k1 n10 l4 hl4 (fun _ => ⟨by omega, by omega⟩) (fun _ => trivial)] fun _ _ G27 => ?_
    intro S_ s_
    refine nm ((carry + v3) / 1048576 : Int) fun n11 hn11 => ?_
    refine V.g [.k (iv (carry + v3)),.shrm g0 .i64 .u64 (carry + v3) n11 20 (by decide) (by rw [hn11]; rfl),.k (iv n11)] fun _ _ G28 => ?_
    intro S_ s_
    refine V.g [.a (k1 + 1) (by omega) (by omega),.k (iv (k1 + 1))] fun _ _ G29 => ?_
    intro S_ s_
    refine V.rnd hZ2 (l4, n11, k1 + 1) [0] (by kernel_rfl) ?_ ?_
    · refine ⟨?_, ?_, ?_⟩
      · show 0 ≤ (k1 + 1)
        first | omega | rfl | (simp; done) | (subst_vars; simp; done)
      · show (k1 + 1) ≤ (cur.length : Int)
        first | omega | rfl | (simp; done) | (subst_vars; simp; done)
      show Bg.BakI cur v l4 (k1 + 1).toNat n11
      rw [hl4, hn10, hn11, show (k1 + 1).toNat = k1.toNat + 1 by omega]; exact Bg.bak_step hf6 hdv (by omega) hxx
    show ((cur.length : Int) - (k1 + 1)).toNat < ((cur.length : Int) - k1).toNat
    omega
  have hbk := hf6
  rw [show k1.toNat = u.length by omega] at hbk
  obtain ⟨hE1, hE2⟩ := Bg.set_end hmd hbk hdu hlv hg.1 q6 h1
  refine V.g [.k (iv guess),.a (guess - 1) (by omega) (by omega),.k (iv (guess - 1))] fun _ _ G30 => ?_
  intro S_ s_
  have e0 : (guess - 1) = Bg.setG u v guess := by first | exact hE1 | (rw [← hE1])
  have eL0 : cur2 = Bg.setP u v guess := hE2
  refine V.alt (fun (zz2 : List Int) => (⟨[(6, iv (guess - 1))], [fs false v vs], [os true 3 (ua ++ zz2 ++ ub) us]⟩ : St)) eL0 [0] (by kernel_rfl) ?_
  exact V.ret [0] [] [] [] [] [0] (iv (guess - 1)) (fun _ _ => by kernel_rfl) (fun _ _ => (Eq.trans (by kernel_rfl) (cong1 (fun (x0 : Int) => (iv x0 : Value)) e0)).trans (by kernel_rfl)) (fun _ _ => trivial)

open Go Go.Proofs
set_option maxRecDepth 10000 in
set_option maxHeartbeats 4000000 in
theorem div_ct (a : List Int) (as_ : SV) (b : List Int) (bs : SV) (hda : Bg.Dg a) (hdb : Bg.Dg b) (hza : Bg.Nz a) (hzb : Bg.Nz b) (hnb : b ≠ []) (hla : a.length ≤ 549755813888) (hlb : b.length ≤ 549755813888) :
    Ct Try.prog 98 #[as_.v, bs.v] [fs true a as_, fs true b bs] [] (fun g => .tuple #[((g.ss 0)).v, ((g.ss 1)).v]) (fun g => [fs true (Bg.dig (Bg.nv a / Bg.nv b)) (g.ss 0), fs true (Bg.dig (Bg.nv a % Bg.nv b)) (g.ss 1)]) (fun g => []) (fun g => []) := by
  refine V.fn mo Try.func98 170 2 (by kernel_rfl) fun w H ε k0 => ?_
  obtain ⟨⟨kl1, -⟩, ⟨kl2, -⟩, -⟩ : Lq a as_.v ∧ Lq b bs.v ∧ True := kn k0 (by kernel_rfl)
  clear k0
  refine V.g [.k (.slice none 0 0),.k (.slice none 0 0)] fun _ _ G1 => ?_
  intro S_ s_
  refine V.g [.k (as_.v),.k (bs.v),.cp g0 2 104 [(kf false (.f 0) a (fun _ => as_)).a, (kf false (.f 1) b (fun _ => bs)).a] (fun _ G => cmpd_ct a as_ b bs (by assumption) (by assumption) (by assumption) (by assumption)),.k (bv (decide (Bg.cmpI (Bg.nv a) (Bg.nv b) < 0)))] fun _ _ G2 => ?_
  intro S_ s_
  refine V.cond (b := decide (Bg.cmpI (Bg.nv a) (Bg.nv b) < 0)) iDT iDF (by kernel_rfl) (fun q1 => ?_) (fun q2 => ?_)
  · have hlt := Bg.cmp_lt.1 q1; have hlt : Bg.nv a < Bg.nv b := by omega
    refine V.r [.k (as_.v),.ct g0 1 97 false [] [] [(kf false (.f 0) a (fun _ => as_)).a] (fun _ G => clonef_ct a as_ (by omega)),.k (.slice none 0 0),.v fun G => ((G 1).ss 0).v] fun _ _ G3 kw3 => ?_
    intro S_ s_
    obtain ⟨⟨kl3, -⟩, -⟩ : Lq a (((G3 1).ss 0).v) ∧ True := kn kw3 (by kernel_rfl)
    clear kw3
    refine V.nilF (α := Int) ?_
    have e0 : ([] : List Int) = Bg.dig (Bg.nv a / Bg.nv b) := by rw [(Bg.div_less hlt).1]
    rw [← e0]
    have e1 : a = Bg.dig (Bg.nv a % Bg.nv b) := Bg.dig_self hda hza (Bg.div_less hlt).2
    rw [← e1]
    exact V.ret [0, 0] [{}, (G3 1).ss 0] [fun _ => {}, fun _ => {}] [] [3, 2] [] (.tuple #[SV.v ({}), ((G3 1).ss 0).v]) (fun _ _ => by kernel_rfl) (fun _ _ => by kernel_rfl) (fun _ _ => trivial)
  have hge : Bg.nv b ≤ Bg.nv a := Nat.not_lt.1 fun h => q2 (Bg.cmp_lt.2 (by omega))
  refine V.g [.k (bs.v),.ln (kf false (.f 1) b (fun _ => bs)),.k (bv (decide ((b.length : Int) = 1)))] fun _ _ G4 => ?_
  intro S_ s_
  refine V.cond (b := decide ((b.length : Int) = 1)) iDT iDF (by kernel_rfl) (fun q3 => ?_) (fun q4 => ?_)
  · have hnb0 := Bg.nv_len1 (l := b) (by omega)
    have hbt0 := Bg.top_pos hnb hdb hzb
    rw [show b.length - 1 = 0 by omega] at hbt0
    have hbd0 := hdb.get' 0
    refine nm (b.getD (0 : Int).toNat default : Int) fun v1 hv1 => ?_
    have ev : b.getD 0 0 = v1 := hv1.symm
    rw [ev] at hbt0 hbd0 hnb0
    refine V.r [.k (as_.v),.k (bs.v),.ix g0 (kf false (.f 1) b (fun _ => bs)) 0 (fun _ => ⟨by omega, by omega⟩),.le g0 (kf false (.f 1) b (fun _ => bs)) (0 : Int) none false v1 hv1 (fun _ => ⟨by omega, by omega⟩) false (fun _ => [iv v1]),.ct g0 4 124 false [] [] [(kf false (.f 0) a (fun _ => as_)).a] (fun _ G => short_ct a as_ v1 hda (by omega) (by omega)),.v fun G => .tuple #[((G 4).ss 0).v, iv ((Bg.nv a % v1.toNat : Nat) : Int)],.v fun G => ((G 4).ss 0).v,.k (iv ((Bg.nv a % v1.toNat : Nat) : Int)),.v fun G => ((G 4).ss 0).v,.k (iv ((Bg.nv a % v1.toNat : Nat) : Int))] fun _ _ G5 kw5 => ?_
    intro S_ s_
    obtain ⟨⟨kl4, -⟩, -⟩ : Lq (Bg.dig (Bg.nv a / v1.toNat)) (((G5 4).ss 0).v) ∧ True := kn kw5 (by kernel_rfl)
    clear kw5
    have hrr := Bg.nv_r (a := Bg.nv a) (d := v1.toNat) (by omega) (by omega)
    have hnb1 : v1.toNat = Bg.nv b := hnb0.symm
    refine V.r [.k (((G5 4).ss 0).v),.k (iv ((Bg.nv a % v1.toNat : Nat) : Int)),.nr 2 true 3 [((Bg.nv a % v1.toNat : Nat) : Int)] [] (fun _ _ _ _ _ => trivial) (fun _ => #[iv ((Bg.nv a % v1.toNat : Nat) : Int)]),.ctT g0 3 125 [(kf true (.g 2 0) [((Bg.nv a % v1.toNat : Nat) : Int)] (fun G => ⟨atB (G 2).b, 1, 1⟩)).a] (fun _ G => trim_ct [((Bg.nv a % v1.toNat : Nat) : Int)] ⟨atB (G 2).b, 1, 1⟩ hrr.1),.k (((G5 4).ss 0).v),.v fun G => ((G 3).ss 0).v] fun _ _ G6 kw6 => ?_
    intro S_ s_
    obtain ⟨⟨kl5, -⟩, ⟨kl6, -⟩, -⟩ : Lq [((Bg.nv a % v1.toNat : Nat) : Int)] (SV.v ⟨atB (G6 2).b, 1, 1⟩) ∧ Lq (Bg.dig (Bg.nv [((Bg.nv a % v1.toNat : Nat) : Int)])) (((G6 3).ss 0).v) ∧ True := kn kw6 (by kernel_rfl)
    clear kw6
    have e0 : Bg.dig (Bg.nv a / v1.toNat) = Bg.dig (Bg.nv a / Bg.nv b) := by rw [hnb1]
    rw [← e0]
    have e1 : Bg.dig (Bg.nv [((Bg.nv a % v1.toNat : Nat) : Int)]) = Bg.dig (Bg.nv a % Bg.nv b) := by rw [hrr.2, hnb1]
    rw [← e1]
    exact V.ret [0, 0] [(G5 4).ss 0, (G6 3).ss 0] [fun _ => {}, fun _ => {}] [] [2, 4] [] (.tuple #[((G5 4).ss 0).v, ((G6 3).ss 0).v]) (fun _ _ => by kernel_rfl) (fun _ _ => by kernel_rfl) (fun _ _ => trivial)
  have hbt := Bg.top_pos hnb hdb hzb
  have hbl2 : 2 ≤ b.length := by have : b.length ≠ 0 := fun e => hnb (List.eq_nil_of_length_eq_zero e); omega
  have hbd := hdb.get' (b.length - 1)
  refine V.g [.k (iv 1)] fun _ _ G7 => ?_
  intro S_ s_
  refine V.loop (γ := Int) (fun shift => ⟨[(0, as_.v), (1, bs.v), (8, iv shift)], [fs false a as_, fs false b bs], [.no, .no]⟩) (fun shift => (1 ≤ shift) ∧ (b.getD (b.length - 1) 0 * shift < 1048576)) (fun shift => (1048576 - shift).toNat) 1 (by kernel_rfl) [0, 1] (by kernel_rfl) ?_ ?_
  · refine ⟨?_, ?_⟩
    · show 1 ≤ (1 : Int)
      omega
    show b.getD (b.length - 1) 0 * (1 : Int) < 1048576
    omega
  rintro shift hF1 kw8 Z1 hZ1
  have hF1 : (1 ≤ shift) ∧ (b.getD (b.length - 1) 0 * shift < 1048576) := hF1
  obtain ⟨hf1, hf2⟩ := hF1
  clear kw8
  refine nm ((b.length : Int) - 1 : Int) fun n1 hn1 => ?_
  refine nm (b.getD n1.toNat default : Int) fun v2 hv2 => ?_
  refine nm (v2 * shift : Int) fun n2 hn2 => ?_
  have eb : b.getD (b.length - 1) 0 = v2 := by rw [show b.length - 1 = n1.toNat by omega]; exact hv2.symm
  have hbs := hf2
  rw [eb] at hbs
  have hsl1 := Bg.sh_lt (b := v2) (by omega) hf1 hbs
  have hbp := Bg.dmul (x := v2) (y := shift) (by omega) (by omega)
  refine V.g [.k (bs.v),.k (bs.v),.ln (kf false (.f 1) b (fun _ => bs)),.ar ((b.length : Int) - 1) n1 hn1 (by omega) (by omega),.ix g0 (kf false (.f 1) b (fun _ => bs)) n1 (fun _ => ⟨by omega, by omega⟩),.le g0 (kf false (.f 1) b (fun _ => bs)) n1 none false v2 hv2 (fun _ => ⟨by omega, by omega⟩) false (fun _ => [iv v2]),.k (iv shift),.ar (v2 * shift) n2 hn2 (by omega) (by omega),.k (bv (decide (n2 < 524288)))] fun _ _ G8 => ?_
  intro S_ s_
  refine V.cond (b := decide (n2 < 524288)) iDT iDF (by kernel_rfl) (fun q5 => ?_) (fun q6 => ?_)
  · refine nm (shift * 2 : Int) fun n3 hn3 => ?_
    refine V.g [.k (iv shift),.ar (shift * 2) n3 hn3 (by omega) (by omega),.k (iv n3)] fun _ _ G9 => ?_
    intro S_ s_
    refine V.rnd hZ1 n3 [0, 1] (by kernel_rfl) ?_ ?_
    · refine ⟨?_, ?_⟩
      · show 1 ≤ n3
        omega
      show b.getD (b.length - 1) 0 * n3 < 1048576
      rw [eb]; rw [hn3]; exact Bg.sh_step hn2 q5
    show (1048576 - n3).toNat < (1048576 - shift).toNat
    omega
  have hsl := Bg.sh_lt hbt hf1 hf2
  have hs1 := hf1
  have hdsh : Bg.Dg [shift] := Bg.Dg.one (by omega)
  have enS := Bg.nv_one shift
  have hS0 : 0 < Bg.nv [shift] := by omega
  have hAl : a.length ≤ (Bg.dig (Bg.nv a * Bg.nv [shift])).length := Bg.dig_len_mono hda hza (Nat.le_mul_of_pos_right _ hS0)
  have hVl : b.length ≤ (Bg.dig (Bg.nv b * Bg.nv [shift])).length := Bg.dig_len_mono hdb hzb (Nat.le_mul_of_pos_right _ hS0)
  have hAu := Bg.mul_dig_len a [shift] hda hdsh; have hVu := Bg.mul_dig_len b [shift] hdb hdsh
  simp only [List.length_cons, List.length_nil] at hAu hVu
  have hvd : Bg.Dg (Bg.dig (Bg.nv b * Bg.nv [shift])) := Bg.dig_Dg _; have hvz : Bg.Nz (Bg.dig (Bg.nv b * Bg.nv [shift])) := Bg.dig_Nz _
  have hvn : (Bg.dig (Bg.nv b * Bg.nv [shift])) ≠ [] := fun e => by have := congrArg List.length e; simp only [List.length_nil] at this; omega
  have hvt := Bg.top_pos hvn hvd hvz
  have hVA : (Bg.dig (Bg.nv b * Bg.nv [shift])).length ≤ (Bg.dig (Bg.nv a * Bg.nv [shift])).length := Bg.len_le (Bg.dig_Dg _) hvd hvz (by rw [Bg.nv_dig, Bg.nv_dig]; exact Nat.mul_le_mul_right _ hge)
  refine nm ((Bg.dig (Bg.nv a * Bg.nv [shift])) ++ ([0] : List Int) : List Int) fun l1 hl1 => ?_
  have hl1n := congrArg List.length hl1; try simp only [List.length_append, List.length_cons, List.length_nil, List.length_replicate, List.length_set, List.length_take, List.length_drop, List.length_map, List.length_reverse, List.length_range] at hl1n
  refine V.r [.k (as_.v),.k (iv shift),.nr 2 true 3 [shift] [] (fun _ _ _ _ _ => trivial) (fun _ => #[iv shift]),.ct g0 3 123 false [] [0] [(kf false (.f 0) a (fun _ => as_)).a, (kf true (.g 2 0) [shift] (fun G => ⟨atB (G 2).b, 1, 1⟩)).a] (fun _ G => mulo_ct a as_ [shift] ⟨atB (G 2).b, 1, 1⟩ hda hdsh (by omega) (by simp)),.nr 4 true 3 ([0] : List Int) [] (fun _ _ _ _ _ => trivial) (fun _ => #[iv 0]),.ap 5 0 3 8 false true (Bg.dig (Bg.nv a * Bg.nv [shift])) (fun G => (G 3).ss 0) (kf true (.g 4 0) ([0] : List Int) (fun G => ⟨atB (G 4).b, 1, 1⟩)) true l1 hl1 (by (try simp only [List.length_append, List.length_cons, List.length_nil, List.length_replicate, List.length_set, List.length_take, List.length_drop, List.length_map, List.length_reverse, List.length_range]); omega) (fun h => by cases h) (.inr fun _ _ => trivial),.k (bs.v),.k (iv shift),.nr 8 true 3 [shift] [] (fun _ _ _ _ _ => trivial) (fun _ => #[iv shift]),.ct g0 9 123 false [] [] [(kf false (.f 1) b (fun _ => bs)).a, (kf true (.g 8 0) [shift] (fun G => ⟨atB (G 8).b, 1, 1⟩)).a] (fun _ G => mul_ct b bs [shift] ⟨atB (G 8).b, 1, 1⟩ hdb hdsh (by omega) (by simp)),.v fun G => ((G 5).s).v,.v fun G => ((G 9).ss 0).v] fun _ _ G10 kw11 => ?_
  intro S_ s_
  obtain ⟨⟨kl7, -⟩, ⟨kl8, -⟩, ⟨kl9, -⟩, ⟨kl10, -⟩, -⟩ : Lq [shift] (SV.v ⟨atB (G10 2).b, 1, 1⟩) ∧ Lq ([0] : List Int) (SV.v ⟨atB (G10 4).b, 1, 1⟩) ∧ Lq [shift] (SV.v ⟨atB (G10 8).b, 1, 1⟩) ∧ Lq (Bg.dig (Bg.nv b * Bg.nv [shift])) (((G10 9).ss 0).v) ∧ Lq l1 (((G10 5).s).v) ∧ True := kn kw11 (by kernel_rfl)
  clear kw11
  refine V.g [.k (((G10 5).s).v),.ln (ko true 3 0 l1 (fun _ => (G10 5).s)),.k (as_.v),.ln (kf false (.f 0) a (fun _ => as_)),.k (bv (decide ((l1.length : Int) = (a.length : Int))))] fun _ _ G11 => ?_
  intro S_ s_
  refine V.cond (b := decide ((l1.length : Int) = (a.length : Int))) iDT iDF (by kernel_rfl) (fun q7 => ?_) (fun q8 => ?_)
  · exfalso; omega
  refine V.g [.k (((G10 9).ss 0).v),.ln (kf true (.f 5) (Bg.dig (Bg.nv b * Bg.nv [shift])) (fun _ => (G10 9).ss 0)),.k (iv ((Bg.dig (Bg.nv b * Bg.nv [shift])).length : Int))] fun _ _ G12 => ?_
  intro S_ s_
  refine nm ((l1.length : Int) - ((Bg.dig (Bg.nv b * Bg.nv [shift])).length : Int) : Int) fun n4 hn4 => ?_
  refine nm (List.replicate n4.toNat (0 : Int) : List Int) fun l2 hl2 => ?_
  have hl2n := congrArg List.length hl2; try simp only [List.length_append, List.length_cons, List.length_nil, List.length_replicate, List.length_set, List.length_take, List.length_drop, List.length_map, List.length_reverse, List.length_range] at hl2n
  refine V.g [.k (((G10 5).s).v),.ln (ko true 3 0 l1 (fun _ => (G10 5).s)),.k (iv ((Bg.dig (Bg.nv b * Bg.nv [shift])).length : Int)),.ar ((l1.length : Int) - ((Bg.dig (Bg.nv b * Bg.nv [shift])).length : Int)) n4 hn4 (by omega) (by omega),.mks 4 1 3 8 n4 l2 hl2 (by omega) (by omega) (by omega),.v fun G => ((G 4).s).v] fun _ _ G13 => ?_
  intro S_ s_
  refine nm ((l2.length : Int) - 1 : Int) fun n5 hn5 => ?_
  refine V.g [.k (((G13 4).s).v),.ln (ko true 3 1 l2 (fun _ => (G13 4).s)),.ar ((l2.length : Int) - 1) n5 hn5 (by omega) (by omega),.k (iv n5)] fun _ _ G14 => ?_
  intro S_ s_
  refine V.loop (γ := List Int × SV × List Int × SV × Int) (fun ⟨u, us, q, qs, i⟩ => ⟨[(8, iv shift), (9, us.v), (10, ((G10 9).ss 0).v), (11, iv ((Bg.dig (Bg.nv b * Bg.nv [shift])).length : Int)), (12, qs.v), (13, iv i)], [fs true (Bg.dig (Bg.nv b * Bg.nv [shift])) ((G10 9).ss 0)], [os true 3 u us, os true 3 q qs]⟩) (fun ⟨u, us, q, qs, i⟩ => (-1 ≤ i) ∧ (i < (q.length : Int)) ∧ (Bg.DivI (Bg.dig (Bg.nv a * Bg.nv [shift]) ++ [0]) (Bg.dig (Bg.nv b * Bg.nv [shift])) u q (i + 1).toNat) ∧ (q.length + (Bg.dig (Bg.nv b * Bg.nv [shift])).length ≤ a.length + 2)) (fun ⟨u, us, q, qs, i⟩ => (i + 1).toNat) (l1, (G10 5).s, l2, (G13 4).s, n5) (by kernel_rfl) [5] (by kernel_rfl) ?_ ?_
  · refine ⟨?_, ?_, ?_, ?_⟩
    · show -1 ≤ n5
      omega
    · show n5 < (l2.length : Int)
      omega
    · show Bg.DivI (Bg.dig (Bg.nv a * Bg.nv [shift]) ++ [0]) (Bg.dig (Bg.nv b * Bg.nv [shift])) l1 l2 (n5 + 1).toNat
      have hds := Bg.div_start (a := Bg.dig (Bg.nv a * Bg.nv [shift])) (q := l2) (Bg.dig_Dg _) hvd hvz hvn hVA (by rw [hl2]; congr 1; omega)
      rw [show (n5 + 1).toNat = l2.length by omega, hl1]; exact hds
    show l2.length + (Bg.dig (Bg.nv b * Bg.nv [shift])).length ≤ a.length + 2
    first | omega | rfl | (simp; done) | (subst_vars; simp; done)
  rintro ⟨u, us, q, qs, i⟩ hF2 kw16 Z2 hZ2
  have hF2 : (-1 ≤ i) ∧ (i < (q.length : Int)) ∧ (Bg.DivI (Bg.dig (Bg.nv a * Bg.nv [shift]) ++ [0]) (Bg.dig (Bg.nv b * Bg.nv [shift])) u q (i + 1).toNat) ∧ (q.length + (Bg.dig (Bg.nv b * Bg.nv [shift])).length ≤ a.length + 2) := hF2
  obtain ⟨hf3, hf4, hf5, hf6⟩ := hF2
  obtain ⟨-, ⟨kl11, -⟩, ⟨kl12, -⟩, -⟩ : Lq (Bg.dig (Bg.nv b * Bg.nv [shift])) (((G10 9).ss 0).v) ∧ Lq u us.v ∧ Lq q qs.v ∧ True := kn kw16 (by kernel_rfl)
  clear kw16
  have hdl := hf5.len; have hud := hf5.dg
  refine V.g [.k (iv i),.k (bv (decide (0 ≤ i)))] fun _ _ G15 => ?_
  intro S_ s_
  refine V.cond (b := decide (0 ≤ i)) iDT iDF (by kernel_rfl) (fun q9 => ?_) (fun q10 => ?_)
  · refine nm (i + ((Bg.dig (Bg.nv b * Bg.nv [shift])).length : Int) : Int) fun n6 hn6 => ?_
    refine nm (u.getD n6.toNat default : Int) fun v3 hv3 => ?_
    refine nm (v3 * 1048576 : Int) fun n7 hn7 => ?_
    refine nm (u.getD (n6 - 1).toNat default : Int) fun v4 hv4 => ?_
    refine nm (n7 + v4 : Int) fun n8 hn8 => ?_
    have hdi := hf5
    rw [show (i + 1).toNat = i.toNat + 1 by omega] at hdi
    have e_v3 : u.getD (i.toNat + (Bg.dig (Bg.nv b * Bg.nv [shift])).length) 0 = v3 := by rw [show i.toNat + (Bg.dig (Bg.nv b * Bg.nv [shift])).length = n6.toNat by omega]; exact hv3.symm
    have b_v3 := hud.get' (i.toNat + (Bg.dig (Bg.nv b * Bg.nv [shift])).length); rw [e_v3] at b_v3
    have e_v4 : u.getD (i.toNat + (Bg.dig (Bg.nv b * Bg.nv [shift])).length - 1) 0 = v4 := by rw [show i.toNat + (Bg.dig (Bg.nv b * Bg.nv [shift])).length - 1 = (n6 - 1).toNat by omega]; exact hv4.symm
    have b_v4 := hud.get' (i.toNat + (Bg.dig (Bg.nv b * Bg.nv [shift])).length - 1); rw [e_v4] at b_v4
    refine V.g [.k (us.v),.k (iv i),.k (iv ((Bg.dig (Bg.nv b * Bg.nv [shift])).length : Int)),.ar (i + ((Bg.dig (Bg.nv b * Bg.nv [shift])).length : Int)) n6 hn6 (by omega) (by omega),.ix g0 (ko true 3 0 u (fun _ => us)) n6 (fun _ => ⟨by omega, by omega⟩),.le g0 (ko true 3 0 u (fun _ => us)) n6 none false v3 hv3 (fun _ => ⟨by omega, by omega⟩) false (fun _ => [iv v3]),.shlm g0 .i64 .u64 v3 20 n7 20 (fun _ => ⟨rfl, by decide, by show _ = IntKind.i64.wrap (v3 * 1048576); rw [IntKind.wrap_i64]; omega⟩),.k (us.v),.k (iv i),.k (iv ((Bg.dig (Bg.nv b * Bg.nv [shift])).length : Int)),.ar (i + ((Bg.dig (Bg.nv b * Bg.nv [shift])).length : Int)) n6 hn6 (by omega) (by omega),.a (n6 - 1) (by omega) (by omega),.ix g0 (ko true 3 0 u (fun _ => us)) (n6 - 1) (fun _ => ⟨by omega, by omega⟩),.le g0 (ko true 3 0 u (fun _ => us)) (n6 - 1) none false v4 hv4 (fun _ => ⟨by omega, by omega⟩) false (fun _ => [iv v4]),.orm g0 n7 v3 v4 n8 20 (by rw [hn7]; rfl) (fun _ => ⟨by decide, by omega, ⟨by omega, by show _ < (1048576 : Int); omega⟩, by rw [hn8, hn7]; rfl, by omega⟩),.k (iv n8)] fun _ _ G16 => ?_
    intro S_ s_
    refine nm (((Bg.dig (Bg.nv b * Bg.nv [shift])).length : Int) - 1 : Int) fun n9 hn9 => ?_
    refine nm ((Bg.dig (Bg.nv b * Bg.nv [shift])).getD n9.toNat default : Int) fun v5 hv5 => ?_
    refine nm (n8 / v5 : Int) fun n10 hn10 => ?_
    refine nm (n8 % v5 : Int) fun n11 hn11 => ?_
    have e_v5 : (Bg.dig (Bg.nv b * Bg.nv [shift])).getD ((Bg.dig (Bg.nv b * Bg.nv [shift])).length - 1) 0 = v5 := by rw [show (Bg.dig (Bg.nv b * Bg.nv [shift])).length - 1 = n9.toNat by omega]; exact hv5.symm
    have b_v5 := hvd.get' ((Bg.dig (Bg.nv b * Bg.nv [shift])).length - 1); rw [e_v5] at b_v5 hvt
    have hq1 := Int.ediv_nonneg (show 0 ≤ n8 by omega) (show 0 ≤ v5 by omega); have hq2 := Int.ediv_le_self v5 (show 0 ≤ n8 by omega)
    refine V.g [.k (iv n8),.k (((G10 9).ss 0).v),.k (iv ((Bg.dig (Bg.nv b * Bg.nv [shift])).length : Int)),.ar (((Bg.dig (Bg.nv b * Bg.nv [shift])).length : Int) - 1) n9 hn9 (by omega) (by omega),.ix g0 (kf true (.f 0) (Bg.dig (Bg.nv b * Bg.nv [shift])) (fun _ => (G10 9).ss 0)) n9 (fun _ => ⟨by omega, by omega⟩),.le g0 (kf true (.f 0) (Bg.dig (Bg.nv b * Bg.nv [shift])) (fun _ => (G10 9).ss 0)) n9 none false v5 hv5 (fun _ => ⟨by omega, by omega⟩) false (fun _ => [iv v5]),.qov g0 n8 v5 n10 hn10 (fun _ => ⟨by omega, by omega⟩) (fun _ => by omega),.k (iv n8),.k (((G10 9).ss 0).v),.k (iv ((Bg.dig (Bg.nv b * Bg.nv [shift])).length : Int)),.ar (((Bg.dig (Bg.nv b * Bg.nv [shift])).length : Int) - 1) n9 hn9 (by omega) (by omega),.ix g0 (kf true (.f 0) (Bg.dig (Bg.nv b * Bg.nv [shift])) (fun _ => (G10 9).ss 0)) n9 (fun _ => ⟨by omega, by omega⟩),.le g0 (kf true (.f 0) (Bg.dig (Bg.nv b * Bg.nv [shift])) (fun _ => (G10 9).ss 0)) n9 none false v5 hv5 (fun _ => ⟨by omega, by omega⟩) false (fun _ => [iv v5]),.rmv g0 n8 v5 n11 hn11 (fun _ => ⟨by omega, by omega⟩),.k (iv n10),.k (iv n11)] fun _ _ G17 => ?_
    intro S_ s_
    refine V.loop (γ := Int × Int) (fun ⟨guess, rest⟩ => ⟨[(8, iv shift), (9, us.v), (10, ((G10 9).ss 0).v), (11, iv ((Bg.dig (Bg.nv b * Bg.nv [shift])).length : Int)), (12, qs.v), (13, iv i), (15, iv guess), (16, iv rest)], [fs true (Bg.dig (Bg.nv b * Bg.nv [shift])) ((G10 9).ss 0)], [os true 3 u us, os true 3 q qs]⟩) (fun ⟨guess, rest⟩ => (Bg.Gss (Bg.dig (Bg.nv b * Bg.nv [shift])) u i.toNat guess rest)) (fun ⟨guess, rest⟩ => guess.toNat) (n10, n11) (by kernel_rfl) [0] (by kernel_rfl) ?_ ?_
    · · show Bg.Gss (Bg.dig (Bg.nv b * Bg.nv [shift])) u i.toNat n10 n11
        exact Bg.gss_start hdi hvd (by omega) (by omega) (by omega) (t := n8) (by rw [e_v3, e_v4]; omega) (by rw [e_v5, hn10]) (by rw [e_v5, hn11])
    rintro ⟨guess, rest⟩ hF3 kw20 Z3 hZ3
    have hf7 : Bg.Gss (Bg.dig (Bg.nv b * Bg.nv [shift])) u i.toNat guess rest := hF3
    clear kw20
    have hg0 := hf7.g0; have hg1 := hf7.g1; have hr0 := hf7.r0
    refine nm (((Bg.dig (Bg.nv b * Bg.nv [shift])).length : Int) - 2 : Int) fun n12 hn12 => ?_
    refine nm ((Bg.dig (Bg.nv b * Bg.nv [shift])).getD n12.toNat default : Int) fun v6 hv6 => ?_
    refine nm (guess * v6 : Int) fun n13 hn13 => ?_
    refine nm (rest * 1048576 : Int) fun n14 hn14 => ?_
    refine nm (i + ((Bg.dig (Bg.nv b * Bg.nv [shift])).length : Int) : Int) fun n15 hn15 => ?_
    refine nm (u.getD (n15 - 2).toNat default : Int) fun v7 hv7 => ?_
    refine nm (n14 + v7 : Int) fun n16 hn16 => ?_
    refine nm ((decide (rest < 1048576)) && (decide (n16 < n13)) : Bool) fun p1 hp1 => ?_
    have e_v6 : (Bg.dig (Bg.nv b * Bg.nv [shift])).getD ((Bg.dig (Bg.nv b * Bg.nv [shift])).length - 2) 0 = v6 := by rw [show (Bg.dig (Bg.nv b * Bg.nv [shift])).length - 2 = n12.toNat by omega]; exact hv6.symm
    have b_v6 := hvd.get' ((Bg.dig (Bg.nv b * Bg.nv [shift])).length - 2); rw [e_v6] at b_v6
    have e_v7 : u.getD (i.toNat + (Bg.dig (Bg.nv b * Bg.nv [shift])).length - 2) 0 = v7 := by rw [show i.toNat + (Bg.dig (Bg.nv b * Bg.nv [shift])).length - 2 = (n15 - 2).toNat by omega]; exact hv7.symm
    have b_v7 := hud.get' (i.toNat + (Bg.dig (Bg.nv b * Bg.nv [shift])).length - 2); rw [e_v7] at b_v7
    have bm := Bg.gmul ⟨hg0, hg1⟩ b_v6
    refine V.g [.k (iv guess),.k (bv (decide (1048576 ≤ guess))),.k (bv (decide (1048576 ≤ guess))),.k (iv rest),.k (bv (decide (rest < 1048576))),.k (bv (decide (rest < 1048576))),.k (iv guess),.k (((G10 9).ss 0).v),.k (iv ((Bg.dig (Bg.nv b * Bg.nv [shift])).length : Int)),.arg ((gF (b := decide (1048576 ≤ guess)) iDF).T (b := decide (rest < 1048576)) iDT) (((Bg.dig (Bg.nv b * Bg.nv [shift])).length : Int) - 2) n12 hn12 (fun hg => by omega),.ix ((gF (b := decide (1048576 ≤ guess)) iDF).T (b := decide (rest < 1048576)) iDT) (kf true (.f 0) (Bg.dig (Bg.nv b * Bg.nv [shift])) (fun _ => (G10 9).ss 0)) n12 (fun hg => ⟨by omega, by omega⟩),.le ((gF (b := decide (1048576 ≤ guess)) iDF).T (b := decide (rest < 1048576)) iDT) (kf true (.f 0) (Bg.dig (Bg.nv b * Bg.nv [shift])) (fun _ => (G10 9).ss 0)) n12 none false v6 hv6 (fun hg => ⟨by omega, by omega⟩) false (fun _ => [iv v6]),.arg ((gF (b := decide (1048576 ≤ guess)) iDF).T (b := decide (rest < 1048576)) iDT) (guess * v6) n13 hn13 (fun hg => by omega),.k (iv rest),.shlm ((gF (b := decide (1048576 ≤ guess)) iDF).T (b := decide (rest < 1048576)) iDT) .i64 .u64 rest 20 n14 20 (fun hg => ⟨rfl, by decide, by show _ = IntKind.i64.wrap (rest * 1048576); rw [IntKind.wrap_i64]; omega⟩),.k (us.v),.k (iv i),.k (iv ((Bg.dig (Bg.nv b * Bg.nv [shift])).length : Int)),.arg ((gF (b := decide (1048576 ≤ guess)) iDF).T (b := decide (rest < 1048576)) iDT) (i + ((Bg.dig (Bg.nv b * Bg.nv [shift])).length : Int)) n15 hn15 (fun hg => by omega),.arg ((gF (b := decide (1048576 ≤ guess)) iDF).T (b := decide (rest < 1048576)) iDT) (n15 - 2) (n15 - 2) rfl (fun hg => by omega),.ix ((gF (b := decide (1048576 ≤ guess)) iDF).T (b := decide (rest < 1048576)) iDT) (ko true 3 0 u (fun _ => us)) (n15 - 2) (fun hg => ⟨by omega, by omega⟩),.le ((gF (b := decide (1048576 ≤ guess)) iDF).T (b := decide (rest < 1048576)) iDT) (ko true 3 0 u (fun _ => us)) (n15 - 2) none false v7 hv7 (fun hg => ⟨by omega, by omega⟩) false (fun _ => [iv v7]),.orm ((gF (b := decide (1048576 ≤ guess)) iDF).T (b := decide (rest < 1048576)) iDT) n14 rest v7 n16 20 (by rw [hn14]; rfl) (fun hg => ⟨by decide, by omega, ⟨by omega, by show _ < (1048576 : Int); omega⟩, by rw [hn16, hn14]; rfl, by omega⟩),.k (bv (decide (n16 < n13))),.andn (gF (b := decide (1048576 ≤ guess)) iDF) false (decide (rest < 1048576)) (decide (n16 < n13)) p1 hp1,.or g0 false (decide (1048576 ≤ guess)) p1] fun _ _ G18 => ?_
    intro S_ s_
    refine V.cond (b := (decide (1048576 ≤ guess)) || p1) (iOT iDT (iN hp1 (iAT iDT iDT))) (iOF iDF (iN hp1 (iAF iDF iDF))) (by kernel_rfl) (fun q11 => ?_) (fun q12 => ?_)
    · have hcnd : 1048576 ≤ guess ∨ rest < 1048576 ∧ rest * 1048576 + u.getD (i.toNat + (Bg.dig (Bg.nv b * Bg.nv [shift])).length - 2) 0 < guess * (Bg.dig (Bg.nv b * Bg.nv [shift])).getD ((Bg.dig (Bg.nv b * Bg.nv [shift])).length - 2) 0 := by rw [e_v6, e_v7]; omega
      refine V.g [.k (iv guess),.a (guess - 1) (by omega) (by omega),.k (iv (guess - 1))] fun _ _ G19 => ?_
      intro S_ s_
      refine nm (((Bg.dig (Bg.nv b * Bg.nv [shift])).length : Int) - 1 : Int) fun n17 hn17 => ?_
      refine nm ((Bg.dig (Bg.nv b * Bg.nv [shift])).getD n17.toNat default : Int) fun v8 hv8 => ?_
      have e_v8 : (Bg.dig (Bg.nv b * Bg.nv [shift])).getD ((Bg.dig (Bg.nv b * Bg.nv [shift])).length - 1) 0 = v8 := by rw [show (Bg.dig (Bg.nv b * Bg.nv [shift])).length - 1 = n17.toNat by omega]; exact hv8.symm
      have b_v8 := hvd.get' ((Bg.dig (Bg.nv b * Bg.nv [shift])).length - 1); rw [e_v8] at b_v8
      have gq := Bg.gss_nat hf7 hud hvd
      have gq1 := hf7.eq
      refine V.g [.k (iv rest),.k (((G10 9).ss 0).v),.k (iv ((Bg.dig (Bg.nv b * Bg.nv [shift])).length : Int)),.ar (((Bg.dig (Bg.nv b * Bg.nv [shift])).length : Int) - 1) n17 hn17 (by omega) (by omega),.ix g0 (kf true (.f 0) (Bg.dig (Bg.nv b * Bg.nv [shift])) (fun _ => (G10 9).ss 0)) n17 (fun _ => ⟨by omega, by omega⟩),.le g0 (kf true (.f 0) (Bg.dig (Bg.nv b * Bg.nv [shift])) (fun _ => (G10 9).ss 0)) n17 none false v8 hv8 (fun _ => ⟨by omega, by omega⟩) false (fun _ => [iv v8]),.a (rest + v8) (by omega) (by omega),.k (iv (rest + v8))] fun _ _ G20 => ?_
      intro S_ s_
      refine V.rnd hZ3 (guess - 1, rest + v8) [0] (by kernel_rfl) ?_ ?_
      · · show Bg.Gss (Bg.dig (Bg.nv b * Bg.nv [shift])) u i.toNat (guess - 1) (rest + v8)
          have hl := (Bg.gss_less hf7 hdi hvd (by omega) (by omega) (by omega) hcnd).1
          rw [e_v8] at hl
          rw [show guess - 1 = guess - 1 from rfl]; exact hl
      show (guess - 1).toNat < guess.toNat
      have hl := (Bg.gss_less hf7 hdi hvd (by omega) (by omega) (by omega) hcnd).2
      omega
    have hcnf : ¬ 1048576 ≤ guess ∧ (¬ rest < 1048576 ∨ ¬ rest * 1048576 + u.getD (i.toNat + (Bg.dig (Bg.nv b * Bg.nv [shift])).length - 2) 0 < guess * (Bg.dig (Bg.nv b * Bg.nv [shift])).getD ((Bg.dig (Bg.nv b * Bg.nv [shift])).length - 2) 0) := by rw [e_v6, e_v7]; omega
    refine nm ((u.take (n15 + 1).toNat).drop i.toNat : List Int) fun l3 hl3 => ?_
    have hl3n := congrArg List.length hl3; try simp only [List.length_append, List.length_cons, List.length_nil, List.length_replicate, List.length_set, List.length_take, List.length_drop, List.length_map, List.length_reverse, List.length_range] at hl3n
    refine nm (q.getD i.toNat default : Int) fun v9 hv9 => ?_
    refine nm (q.set i.toNat (Bg.setG ((u.take (n15 + 1).toNat).drop i.toNat) (Bg.dig (Bg.nv b * Bg.nv [shift])) guess) : List Int) fun l4 hl4 => ?_
    have hl4n := congrArg List.length hl4; try simp only [List.length_append, List.length_cons, List.length_nil, List.length_replicate, List.length_set, List.length_take, List.length_drop, List.length_map, List.length_reverse, List.length_range] at hl4n
    have hgE := Bg.gss_end hf7 hdi hvd (by omega) (by omega) (by omega) hcnf
    have hwin : (u.take (n15 + 1).toNat).drop i.toNat = Bg.win u i.toNat (Bg.dig (Bg.nv b * Bg.nv [shift])).length := Bg.win_is (by omega)
    have hwl := Bg.win_len hdi (by omega)
    refine V.g [.k (qs.v),.k (iv i),.k (us.v),.k (iv i),.k (iv i),.k (iv ((Bg.dig (Bg.nv b * Bg.nv [shift])).length : Int)),.ar (i + ((Bg.dig (Bg.nv b * Bg.nv [shift])).length : Int)) n15 hn15 (by omega) (by omega),.a (n15 + 1) (by omega) (by omega),.slv g0 (ko true 3 0 u (fun _ => us)) (some i) (some (n15 + 1)) i (n15 + 1) rfl rfl (fun _ => ⟨by omega, by omega, by omega⟩),.k (((G10 9).ss 0).v),.k (iv guess),.ct g0 11 126 false [0] [] [(kf true (.f 0) (Bg.dig (Bg.nv b * Bg.nv [shift])) (fun _ => (G10 9).ss 0)).a] (fun _ G => settle_ct u us i.toNat ((n15 + 1).toNat) (u.take i.toNat) ((u.take (n15 + 1).toNat).drop i.toNat) (u.drop (n15 + 1).toNat) (Bg.dig (Bg.nv b * Bg.nv [shift])) ((G10 9).ss 0) guess (cut3 (by omega) (by omega)) (cutlo (by omega)) (cuthi (by omega) (by omega)) (by rw [hwin]; exact (hud.drop _).take _) hvd (by rw [hwin, hwl]; omega) hgE.1 (by rw [hwin]; exact hgE.2.1) (by rw [hwin, hwl]; omega)),.ix g0 (ko true 3 1 q (fun _ => qs)) i (fun _ => ⟨by omega, by omega⟩),.se g0 13 1 3 true q (fun _ => qs) i none v9 (Bg.setG ((u.take (n15 + 1).toNat).drop i.toNat) (Bg.dig (Bg.nv b * Bg.nv [shift])) guess) hv9 true l4 hl4 (fun _ => ⟨by omega, by omega⟩) (fun _ => rfl) [] (fun _ _ _ _ => trivial)] fun _ _ G21 => ?_
    intro S_ s_
    refine V.g [.k (iv i),.a (i - 1) (by omega) (by omega),.k (iv (i - 1))] fun _ _ G22 => ?_
    intro S_ s_
    refine V.rnd hZ2 ((u.take i.toNat) ++ (Bg.setP ((u.take (n15 + 1).toNat).drop i.toNat) (Bg.dig (Bg.nv b * Bg.nv [shift])) guess) ++ (u.drop (n15 + 1).toNat), us, l4, qs, i - 1) [0] (by kernel_rfl) ?_ ?_
    · refine ⟨?_, ?_, ?_, ?_⟩
      · show -1 ≤ (i - 1)
        omega
      · show (i - 1) < (l4.length : Int)
        omega
      · show Bg.DivI (Bg.dig (Bg.nv a * Bg.nv [shift]) ++ [0]) (Bg.dig (Bg.nv b * Bg.nv [shift])) ((u.take i.toNat) ++ (Bg.setP ((u.take (n15 + 1).toNat).drop i.toNat) (Bg.dig (Bg.nv b * Bg.nv [shift])) guess) ++ (u.drop (n15 + 1).toNat)) l4 ((i - 1) + 1).toNat
        have hst := Bg.div_step (x := (Bg.setG ((u.take (n15 + 1).toNat).drop i.toNat) (Bg.dig (Bg.nv b * Bg.nv [shift])) guess)) hdi hvd (by omega) hgE.2.2 (by rw [hwin])
        rw [hl4, show (i - 1 + 1).toNat = i.toNat by omega]
        rw [hwin]; rw [hwin] at hst; unfold Bg.nxtU at hst; rw [show (n15 + 1).toNat = i.toNat + (Bg.dig (Bg.nv b * Bg.nv [shift])).length + 1 by omega]; exact hst
      show l4.length + (Bg.dig (Bg.nv b * Bg.nv [shift])).length ≤ a.length + 2
      omega
    show ((i - 1) + 1).toNat < (i + 1).toNat
    omega
  have hen := hf5
  rw [show (i + 1).toNat = 0 by omega] at hen
  obtain ⟨hdv1, hdv2⟩ := Bg.dvals (s := Bg.nv [shift]) (A := Bg.nv a) (B := Bg.nv b) hen hS0 (by rw [Bg.nv_app0, Bg.nv_dig]) (by rw [Bg.nv_dig])
  have hul := hen.len; have hud2 := hen.dg; have hqd2 := hen.qd
  have hud3 := Bg.dig_le hud2
  refine V.frz 0 true 3 u us (by kernel_rfl) ?_
  refine V.r [.k (us.v),.ctT g0 1 125 [(kf true (.f 1) u (fun _ => us)).a] (fun _ G => trim_ct u us hud2),.k (iv shift),.ct g0 3 124 false [] [] [(kf true (.g 1 0) (Bg.dig (Bg.nv u)) (fun G => (G 1).ss 0)).a] (fun _ G => short_ct (Bg.dig (Bg.nv u)) ((G 1).ss 0) shift (Bg.dig_Dg _) (by omega) (by omega)),.v fun G => .tuple #[((G 3).ss 0).v, iv ((Bg.nv (Bg.dig (Bg.nv u)) % shift.toNat : Nat) : Int)],.v fun G => ((G 3).ss 0).v,.k (iv ((Bg.nv (Bg.dig (Bg.nv u)) % shift.toNat : Nat) : Int)),.v fun G => ((G 3).ss 0).v,.k (iv ((Bg.nv (Bg.dig (Bg.nv u)) % shift.toNat : Nat) : Int))] fun _ _ G23 kw26 => ?_
  intro S_ s_
  obtain ⟨⟨kl13, -⟩, ⟨kl14, -⟩, -⟩ : Lq (Bg.dig (Bg.nv u)) (((G23 1).ss 0).v) ∧ Lq (Bg.dig (Bg.nv (Bg.dig (Bg.nv u)) / shift.toNat)) (((G23 3).ss 0).v) ∧ Lq q qs.v ∧ True := kn kw26 (by kernel_rfl)
  clear kw26
  refine V.frz 1 true 3 q qs (by kernel_rfl) ?_
  refine V.r [.k (qs.v),.ctT g0 1 125 [(kf true (.f 4) q (fun _ => qs)).a] (fun _ G => trim_ct q qs hqd2),.k (((G23 3).ss 0).v),.v fun G => ((G 1).ss 0).v,.k (((G23 3).ss 0).v)] fun _ _ G24 kw27 => ?_
  intro S_ s_
  obtain ⟨⟨kl15, -⟩, -⟩ : Lq (Bg.dig (Bg.nv q)) (((G24 1).ss 0).v) ∧ True := kn kw27 (by kernel_rfl)
  clear kw27
  have e0 : Bg.dig (Bg.nv q) = Bg.dig (Bg.nv a / Bg.nv b) := by rw [hdv1]
  rw [← e0]
  have e1 : Bg.dig (Bg.nv (Bg.dig (Bg.nv u)) / shift.toNat) = Bg.dig (Bg.nv a % Bg.nv b) := by rw [Bg.nv_dig, ← enS, hdv2]
  rw [← e1]
  exact V.ret [0, 0] [(G24 1).ss 0, (G23 3).ss 0] [fun _ => {}, fun _ => {}] [] [5, 3] [] (.tuple #[((G24 1).ss 0).v, ((G23 3).ss 0).v]) (fun _ _ => by kernel_rfl) (fun _ _ => by kernel_rfl) (fun _ _ => trivial)
theorem div_ctv (a : List Int) (as_ : SV) (b : List Int) (bs : SV) (hda : Bg.Dg a) (hdb : Bg.Dg b) (hza : Bg.Nz a) (hzb : Bg.Nz b) (hnb : b ≠ []) (hla : a.length ≤ 549755813888) (hlb : b.length ≤ 549755813888) (rv0 : List Int) (erv0 : rv0 = Bg.dig (Bg.nv a / Bg.nv b)) (rv1 : List Int) (erv1 : rv1 = Bg.dig (Bg.nv a % Bg.nv b)) :
    Ct Try.prog 98 #[as_.v, bs.v] [fs true a as_, fs true b bs] [] (fun g => .tuple #[((g.ss 0)).v, ((g.ss 1)).v]) (fun g => [fs true rv0 (g.ss 0), fs true rv1 (g.ss 1)]) (fun g => []) (fun g => []) := by
  subst erv0 erv1; exact div_ct a as_ b bs hda hdb hza hzb hnb hla hlb

open Go Go.Proofs
set_option maxRecDepth 10000 in
theorem checkedT_ct (c_Sign : Int) (c_Digits : List Int) (c_Digitss : SV) :
    Ct Try.prog 96 #[bv true, ag (DBig.mk c_Sign ⟨c_Digits, c_Digitss⟩)] [fs true c_Digits c_Digitss] [] (fun g => .tuple #[ag (DBig.mk c_Sign ⟨c_Digits, (g.ss 0)⟩), iv 0]) (fun g => [fs false c_Digits (g.ss 0)]) (fun g => []) (fun g => []) := by
  refine V.fn mo Try.func96 10 2 (by kernel_rfl) fun w H ε k0 => ?_
  obtain ⟨⟨kl1, -⟩, -⟩ : Lq c_Digits c_Digitss.v ∧ True := kn k0 (by kernel_rfl)
  clear k0
  refine V.g [.nb 0 0 (fun b => pp b 0) 28 (fun _ => ca (DBig.mk c_Sign ⟨c_Digits, c_Digitss⟩)),.nb 1 1 (fun b => pp b 0) 28 (fun _ => ca (DBig.mk 0 ⟨[], {}⟩)),.k (iv 0)] fun _ _ G1 => ?_
  intro S_ s_
  refine V.g [.kb true,.kb false] fun _ _ G2 => ?_
  intro S_ s_
  refine V.condF (by kernel_rfl) ?_
  refine V.g [.ld 0 0 true (fun _ => Dat.cells (DBig.mk c_Sign ⟨c_Digits, c_Digitss⟩)),.st 1 (fun _ => .blk ((G1 1).b) (ca (DBig.mk c_Sign ⟨c_Digits, c_Digitss⟩)) 28),.k (iv 0)] fun _ _ G3 => ?_
  intro S_ s_
  exact V.ret [1, 0] [c_Digitss] [fun _ => {}] [] [0] [] (.tuple #[ag (DBig.mk c_Sign ⟨c_Digits, c_Digitss⟩), iv 0]) (fun _ _ => by kernel_rfl) (fun _ _ => by kernel_rfl) (fun _ _ => trivial)
set_option maxRecDepth 10000 in
theorem checkedF_ct (c_Sign : Int) (c_Digits : List Int) (c_Digitss : SV) :
    Ct Try.prog 96 #[bv false, ag (DBig.mk c_Sign ⟨c_Digits, c_Digitss⟩)] [fs true c_Digits c_Digitss] [] (fun g => .tuple #[ag (DBig.mk 0 ⟨([] : List Int), (g.ss 0)⟩), iv 1]) (fun g => [fs false ([] : List Int) (g.ss 0)]) (fun g => []) (fun g => []) := by
  refine V.fn mo Try.func96 10 2 (by kernel_rfl) fun w H ε k0 => ?_
  obtain ⟨⟨kl1, -⟩, -⟩ : Lq c_Digits c_Digitss.v ∧ True := kn k0 (by kernel_rfl)
  clear k0
  refine V.g [.nb 0 0 (fun b => pp b 0) 28 (fun _ => ca (DBig.mk c_Sign ⟨c_Digits, c_Digitss⟩)),.nb 1 1 (fun b => pp b 0) 28 (fun _ => ca (DBig.mk 0 ⟨[], {}⟩)),.k (iv 0)] fun _ _ G1 => ?_
  intro S_ s_
  refine V.g [.kb false,.kb true] fun _ _ G2 => ?_
  intro S_ s_
  refine V.condT (by kernel_rfl) ?_
  refine V.g [.k (ag (DBig.mk 0 ⟨[], {}⟩)),.st 1 (fun _ => .blk ((G1 1).b) (ca (DBig.mk 0 ⟨[], {}⟩)) 28),.k (iv 1)] fun _ _ G3 => ?_
  intro S_ s_
  refine V.nilF (α := Int) ?_
  exact V.ret [1, 0] [{}] [fun _ => {}] [] [1] [] (.tuple #[ag (DBig.mk 0 ⟨([] : List Int), {}⟩), iv 1]) (fun _ _ => by kernel_rfl) (fun _ _ => by kernel_rfl) (fun _ _ => trivial)
theorem checkedF_ctv (c_Sign : Int) (c_Digits : List Int) (c_Digitss : SV) (rv1 : List Int) (erv1 : rv1 = ([] : List Int)) :
    Ct Try.prog 96 #[bv false, ag (DBig.mk c_Sign ⟨c_Digits, c_Digitss⟩)] [fs true c_Digits c_Digitss] [] (fun g => .tuple #[ag (DBig.mk 0 ⟨rv1, (g.ss 0)⟩), iv 1]) (fun g => [fs false rv1 (g.ss 0)]) (fun g => []) (fun g => []) := by
  subst erv1; exact checkedF_ct c_Sign c_Digits c_Digitss 
set_option maxRecDepth 10000 in
theorem Add_ct (a_Sign : Int) (a_Digits : List Int) (a_Digitss : SV) (b_Sign : Int) (b_Digits : List Int) (b_Digitss : SV) (hla : a_Digits.length ≤ 274877906944) (hlb : b_Digits.length ≤ 274877906944) :
    Ct Try.prog 71 #[ag (DBig.mk a_Sign ⟨a_Digits, a_Digitss⟩), ag (DBig.mk b_Sign ⟨b_Digits, b_Digitss⟩)] [fs true a_Digits a_Digitss, fs true b_Digits b_Digitss] [] (fun g => .tuple #[ag (DBig.mk (Bg.oS (Bg.RtB a_Sign a_Digits ∧ Bg.RtB b_Sign b_Digits) (Bg.zv a_Sign a_Digits + Bg.zv b_Sign b_Digits)) ⟨Bg.oD (Bg.RtB a_Sign a_Digits ∧ Bg.RtB b_Sign b_Digits) (Bg.zv a_Sign a_Digits + Bg.zv b_Sign b_Digits), (g.ss 0)⟩), iv (if (Bg.RtB a_Sign a_Digits ∧ Bg.RtB b_Sign b_Digits) then (0 : Int) else 1)]) (fun g => [fs true (Bg.oD (Bg.RtB a_Sign a_Digits ∧ Bg.RtB b_Sign b_Digits) (Bg.zv a_Sign a_Digits + Bg.zv b_Sign b_Digits)) (g.ss 0)]) (fun g => []) (fun g => []) := by
  refine V.fn mo Try.func71 69 3 (by kernel_rfl) fun w H ε k0 => ?_
  obtain ⟨⟨kl1, -⟩, ⟨kl2, -⟩, -⟩ : Lq a_Digits a_Digitss.v ∧ Lq b_Digits b_Digitss.v ∧ True := kn k0 (by kernel_rfl)
  clear k0
  refine V.g [.nb 0 0 (fun b => pp b 0) 28 (fun _ => ca (DBig.mk a_Sign ⟨a_Digits, a_Digitss⟩)),.nb 1 1 (fun b => pp b 0) 28 (fun _ => ca (DBig.mk b_Sign ⟨b_Digits, b_Digitss⟩)),.nb 2 2 (fun b => pp b 0) 28 (fun _ => ca (DBig.mk 0 ⟨[], {}⟩)),.k (iv 0)] fun _ _ G1 => ?_
  intro S_ s_
  refine nm ((!(decide (Bg.RtB a_Sign a_Digits))) || (!(decide (Bg.RtB b_Sign b_Digits))) : Bool) fun p1 hp1 => ?_
  refine V.g [.ld 0 0 true (fun _ => Dat.cells (DBig.mk a_Sign ⟨a_Digits, a_Digitss⟩)),.cp g0 1 60 [(kf false (.f 0) a_Digits (fun _ => a_Digitss)).a] (fun _ G => bright_ct a_Sign a_Digits a_Digitss),.k (bv (!(decide (Bg.RtB a_Sign a_Digits)))),.k (bv (!(decide (Bg.RtB a_Sign a_Digits)))),.ld 1 0 true (fun _ => Dat.cells (DBig.mk b_Sign ⟨b_Digits, b_Digitss⟩)),.cp (gF (b := !(decide (Bg.RtB a_Sign a_Digits))) (iNF iDT)) 5 60 [(kf false (.f 1) b_Digits (fun _ => b_Digitss)).a] (fun hg G => bright_ct b_Sign b_Digits b_Digitss),.k (bv (!(decide (Bg.RtB b_Sign b_Digits)))),.orn g0 false (!(decide (Bg.RtB a_Sign a_Digits))) (!(decide (Bg.RtB b_Sign b_Digits))) p1 hp1] fun _ _ G2 => ?_
  intro S_ s_
  refine V.cond (b := p1) (iN hp1 (iOT (iNT iDF) (iNT iDF))) (iN hp1 (iOF (iNF iDT) (iNF iDT))) (by kernel_rfl) (fun q1 => ?_) (fun q2 => ?_)
  · have hNR : ¬ (Bg.RtB a_Sign a_Digits ∧ Bg.RtB b_Sign b_Digits) := by rintro ⟨h1, h2⟩; rcases q1 with h | h; exact h h1; exact h h2
    refine nm (([] : List Int) : List Int) fun l1 hl1 => ?_
    have hl1n := congrArg List.length hl1
    refine V.r [.k (ag (DBig.mk 0 ⟨[], {}⟩)),.ctT g0 1 96 [(knil (α := Int)).a] (fun _ G => checkedF_ctv (0 : Int) ([] : List Int) ({}) l1 hl1),.v fun G => ag (DBig.mk 0 ⟨l1, (G 1).ss 0⟩),.k (iv 1),.st 2 (fun G => .blk ((G1 2).b) (ca (DBig.mk 0 ⟨l1, (G 1).ss 0⟩)) 28),.k (iv 1)] fun _ _ G3 kw3 => ?_
    intro S_ s_
    obtain ⟨⟨kl3, -⟩, -⟩ : Lq l1 (((G3 1).ss 0).v) ∧ True := kn kw3 (by kernel_rfl)
    clear kw3
    have e1 : l1 = Bg.oD (Bg.RtB a_Sign a_Digits ∧ Bg.RtB b_Sign b_Digits) (Bg.zv a_Sign a_Digits + Bg.zv b_Sign b_Digits) := by
      rw [hl1]
      exact (Bg.oD_n hNR _).symm
    subst e1
    have e0 : (0 : Int) = Bg.oS (Bg.RtB a_Sign a_Digits ∧ Bg.RtB b_Sign b_Digits) (Bg.zv a_Sign a_Digits + Bg.zv b_Sign b_Digits) := (Bg.oS_n hNR _).symm
    have e2 : (1 : Int) = if (Bg.RtB a_Sign a_Digits ∧ Bg.RtB b_Sign b_Digits) then (0 : Int) else 1 := (if_neg hNR).symm
    exact V.ret [2, 0] [(G3 1).ss 0] [fun _ => {}] [] [2] [] (.tuple #[ag (DBig.mk 0 ⟨(Bg.oD (Bg.RtB a_Sign a_Digits ∧ Bg.RtB b_Sign b_Digits) (Bg.zv a_Sign a_Digits + Bg.zv b_Sign b_Digits)), (G3 1).ss 0⟩), iv 1]) (fun _ _ => by kernel_rfl) (fun _ _ => (Eq.trans (by kernel_rfl) (cong2 (fun (x0 : Int) (x2 : Int) => (.tuple #[.agg #[iv x0, ((G3 1).ss 0).v], iv x2] : Value)) e0 e2)).trans (by kernel_rfl)) (fun _ _ => trivial)
  have hRR : (Bg.RtB a_Sign a_Digits ∧ Bg.RtB b_Sign b_Digits) := by first | exact q2 | exact ⟨Decidable.not_not.1 (q2).1, Decidable.not_not.1 (q2).2⟩
  have hsm := Bg.sml hRR.1 hRR.2
  refine nm (a_Sign * b_Sign : Int) fun n1 hn1 => ?_
  refine V.g [.k (pp ((G1 0).b) 0),.ld 0 0 false (fun _ => [iv a_Sign]),.k (pp ((G1 1).b) 0),.ld 1 0 false (fun _ => [iv b_Sign]),.ar (a_Sign * b_Sign) n1 hn1 (by rw [hn1]; exact hsm.1) (by rw [hn1]; exact hsm.2),.k (bv (decide (0 ≤ n1))),.k (bv (decide (0 ≤ n1)))] fun _ _ G4 => ?_
  intro S_ s_
  refine V.cond (b := decide (0 ≤ n1)) iDT iDF (by kernel_rfl) (fun q3 => ?_) (fun q4 => ?_)
  · have hss : 0 ≤ a_Sign * b_Sign := by omega
    refine nm (Bg.orL [a_Sign, b_Sign] : Int) fun n2 hn2 => ?_
    refine nm (Bg.dig (Bg.nv a_Digits + Bg.nv b_Digits) : List Int) fun l2 hl2 => ?_
    have hl2n := congrArg List.length hl2
    refine nm (Bg.sg0 (Bg.nv l2) n2 : Int) fun n3 hn3 => ?_
    refine nm (Bg.dig (Bg.nv l2) : List Int) fun l3 hl3 => ?_
    have hl3n := congrArg List.length hl3
    refine V.r [.k (pp ((G1 0).b) 0),.ld 0 0 false (fun _ => [iv a_Sign]),.k (pp ((G1 1).b) 0),.ld 1 0 false (fun _ => [iv b_Sign]),.nr 4 true 3 [a_Sign, b_Sign] [] (fun _ _ _ _ _ => trivial) (fun _ => #[iv a_Sign, iv b_Sign]),.cp g0 5 108 [(kf true (.g 4 0) [a_Sign, b_Sign] (fun G => ⟨atB (G 4).b, 2, 2⟩)).a] (fun _ G => or_ctv [a_Sign, b_Sign] ⟨atB (G 4).b, 2, 2⟩ n2 hn2),.k (pp ((G1 0).b) 1),.ld 0 1 false (fun _ => [a_Digitss.v]),.k (pp ((G1 1).b) 1),.ld 1 1 false (fun _ => [b_Digitss.v]),.ct g0 10 109 false [] [] [(kf false (.f 0) a_Digits (fun _ => a_Digitss)).a, (kf false (.f 1) b_Digits (fun _ => b_Digitss)).a] (fun _ G => add_ctv a_Digits a_Digitss b_Digits b_Digitss hRR.1.dg hRR.2.dg (by omega) (by omega) l2 hl2),.ctT g0 11 99 [(kf true (.g 10 0) l2 (fun G => (G 10).ss 0)).a] (fun _ G => signed_ctv n2 l2 ((G 10).ss 0) (by subst_vars; exact Bg.dig_Dg _) n3 hn3 l3 hl3),.ctT g0 12 96 [(kf true (.g 11 0) l3 (fun G => (G 11).ss 0)).a] (fun _ G => checkedT_ct n3 l3 ((G 11).ss 0)),.v fun G => ag (DBig.mk n3 ⟨l3, (G 12).ss 0⟩),.k (iv 0),.st 2 (fun G => .blk ((G1 2).b) (ca (DBig.mk n3 ⟨l3, (G 12).ss 0⟩)) 28),.k (iv 0)] fun _ _ G5 kw5 => ?_
    intro S_ s_
    obtain ⟨⟨kl4, -⟩, ⟨kl5, -⟩, ⟨kl6, -⟩, ⟨kl7, -⟩, -⟩ : Lq [a_Sign, b_Sign] (SV.v ⟨atB (G5 4).b, 2, 2⟩) ∧ Lq l2 (((G5 10).ss 0).v) ∧ Lq l3 (((G5 11).ss 0).v) ∧ Lq l3 (((G5 12).ss 0).v) ∧ True := kn kw5 (by kernel_rfl)
    clear kw5
    have e1 : l3 = Bg.oD (Bg.RtB a_Sign a_Digits ∧ Bg.RtB b_Sign b_Digits) (Bg.zv a_Sign a_Digits + Bg.zv b_Sign b_Digits) := by
      rw [hl3, hl2]
      rw [Bg.oD_y hRR]; exact Bg.addD hRR.1 hRR.2 hss
    subst e1
    have e0 : n3 = Bg.oS (Bg.RtB a_Sign a_Digits ∧ Bg.RtB b_Sign b_Digits) (Bg.zv a_Sign a_Digits + Bg.zv b_Sign b_Digits) := by
      rw [hn3, hl2, hn2]
      rw [Bg.oS_y hRR]; exact Bg.addS hRR.1 hRR.2 hss
    have e2 : (0 : Int) = if (Bg.RtB a_Sign a_Digits ∧ Bg.RtB b_Sign b_Digits) then (0 : Int) else 1 := (if_pos hRR).symm
    exact V.ret [2, 0] [(G5 12).ss 0] [fun _ => {}] [] [5] [] (.tuple #[ag (DBig.mk n3 ⟨(Bg.oD (Bg.RtB a_Sign a_Digits ∧ Bg.RtB b_Sign b_Digits) (Bg.zv a_Sign a_Digits + Bg.zv b_Sign b_Digits)), (G5 12).ss 0⟩), iv 0]) (fun _ _ => by kernel_rfl) (fun _ _ => (Eq.trans (by kernel_rfl) (cong2 (fun (x0 : Int) (x2 : Int) => (.tuple #[.agg #[iv x0, ((G5 12).ss 0).v], iv x2] : Value)) e0 e2)).trans (by kernel_rfl)) (fun _ _ => trivial)
  have hss : ¬ 0 ≤ a_Sign * b_Sign := by omega
  refine nm (Bg.cmpI (Bg.nv a_Digits) (Bg.nv b_Digits) : Int) fun n4 hn4 => ?_
  refine V.g [.k (pp ((G1 0).b) 1),.ld 0 1 false (fun _ => [a_Digitss.v]),.k (pp ((G1 1).b) 1),.ld 1 1 false (fun _ => [b_Digitss.v]),.cp g0 4 104 [(kf false (.f 0) a_Digits (fun _ => a_Digitss)).a, (kf false (.f 1) b_Digits (fun _ => b_Digitss)).a] (fun _ G => cmpd_ctv a_Digits a_Digitss b_Digits b_Digitss hRR.1.dg hRR.2.dg hRR.1.nz hRR.2.nz n4 hn4),.k (bv (decide (n4 < 0))),.k (bv (decide (n4 < 0)))] fun _ _ G6 => ?_
  intro S_ s_
  refine V.cond (b := decide (n4 < 0)) iDT iDF (by kernel_rfl) (fun q5 => ?_) (fun q6 => ?_)
  · have hlt : Bg.nv a_Digits < Bg.nv b_Digits := by have hqq := q5; subst_vars; have := Bg.cmp_lt.1 hqq; omega
    refine nm (Bg.dig (Bg.nv b_Digits - Bg.nv a_Digits) : List Int) fun l4 hl4 => ?_
    have hl4n := congrArg List.length hl4
    refine nm (Bg.sg0 (Bg.nv l4) b_Sign : Int) fun n5 hn5 => ?_
    refine nm (Bg.dig (Bg.nv l4) : List Int) fun l5 hl5 => ?_
    have hl5n := congrArg List.length hl5
    refine V.r [.k (pp ((G1 1).b) 0),.ld 1 0 false (fun _ => [iv b_Sign]),.k (pp ((G1 1).b) 1),.ld 1 1 false (fun _ => [b_Digitss.v]),.k (pp ((G1 0).b) 1),.ld 0 1 false (fun _ => [a_Digitss.v]),.ct g0 6 110 false [] [] [(kf false (.f 1) b_Digits (fun _ => b_Digitss)).a, (kf false (.f 0) a_Digits (fun _ => a_Digitss)).a] (fun _ G => sub_ctv b_Digits b_Digitss a_Digits a_Digitss hRR.2.dg hRR.1.dg (by omega) (by omega) hRR.1.nz (by omega) l4 hl4),.ctT g0 7 99 [(kf true (.g 6 0) l4 (fun G => (G 6).ss 0)).a] (fun _ G => signed_ctv b_Sign l4 ((G 6).ss 0) (by subst_vars; exact Bg.dig_Dg _) n5 hn5 l5 hl5),.ctT g0 8 96 [(kf true (.g 7 0) l5 (fun G => (G 7).ss 0)).a] (fun _ G => checkedT_ct n5 l5 ((G 7).ss 0)),.v fun G => ag (DBig.mk n5 ⟨l5, (G 8).ss 0⟩),.k (iv 0),.st 2 (fun G => .blk ((G1 2).b) (ca (DBig.mk n5 ⟨l5, (G 8).ss 0⟩)) 28),.k (iv 0)] fun _ _ G7 kw7 => ?_
    intro S_ s_
    obtain ⟨⟨kl8, -⟩, ⟨kl9, -⟩, ⟨kl10, -⟩, -⟩ : Lq l4 (((G7 6).ss 0).v) ∧ Lq l5 (((G7 7).ss 0).v) ∧ Lq l5 (((G7 8).ss 0).v) ∧ True := kn kw7 (by kernel_rfl)
    clear kw7
    have e1 : l5 = Bg.oD (Bg.RtB a_Sign a_Digits ∧ Bg.RtB b_Sign b_Digits) (Bg.zv a_Sign a_Digits + Bg.zv b_Sign b_Digits) := by
      rw [hl5, hl4]
      rw [Bg.oD_y hRR]; exact Bg.lessD hRR.1 hRR.2 hss hlt
    subst e1
    have e0 : n5 = Bg.oS (Bg.RtB a_Sign a_Digits ∧ Bg.RtB b_Sign b_Digits) (Bg.zv a_Sign a_Digits + Bg.zv b_Sign b_Digits) := by
      rw [hn5, hl4]
      rw [Bg.oS_y hRR]; exact Bg.lessS hRR.1 hRR.2 hss hlt
    have e2 : (0 : Int) = if (Bg.RtB a_Sign a_Digits ∧ Bg.RtB b_Sign b_Digits) then (0 : Int) else 1 := (if_pos hRR).symm
    exact V.ret [2, 0] [(G7 8).ss 0] [fun _ => {}] [] [4] [] (.tuple #[ag (DBig.mk n5 ⟨(Bg.oD (Bg.RtB a_Sign a_Digits ∧ Bg.RtB b_Sign b_Digits) (Bg.zv a_Sign a_Digits + Bg.zv b_Sign b_Digits)), (G7 8).ss 0⟩), iv 0]) (fun _ _ => by kernel_rfl) (fun _ _ => (Eq.trans (by kernel_rfl) (cong2 (fun (x0 : Int) (x2 : Int) => (.tuple #[.agg #[iv x0, ((G7 8).ss 0).v], iv x2] : Value)) e0 e2)).trans (by kernel_rfl)) (fun _ _ => trivial)
  have hge : Bg.nv b_Digits ≤ Bg.nv a_Digits := by have hqq := q6; subst_vars; exact Nat.not_lt.1 fun h => hqq (Bg.cmp_lt.2 (by omega))
  refine nm (Bg.dig (Bg.nv a_Digits - Bg.nv b_Digits) : List Int) fun l6 hl6 => ?_
  have hl6n := congrArg List.length hl6
  refine nm (Bg.sg0 (Bg.nv l6) a_Sign : Int) fun n6 hn6 => ?_
  refine nm (Bg.dig (Bg.nv l6) : List Int) fun l7 hl7 => ?_
  have hl7n := congrArg List.length hl7
  refine V.r [.k (pp ((G1 0).b) 0),.ld 0 0 false (fun _ => [iv a_Sign]),.k (pp ((G1 0).b) 1),.ld 0 1 false (fun _ => [a_Digitss.v]),.k (pp ((G1 1).b) 1),.ld 1 1 false (fun _ => [b_Digitss.v]),.ct g0 6 110 false [] [] [(kf false (.f 0) a_Digits (fun _ => a_Digitss)).a, (kf false (.f 1) b_Digits (fun _ => b_Digitss)).a] (fun _ G => sub_ctv a_Digits a_Digitss b_Digits b_Digitss hRR.1.dg hRR.2.dg (by omega) (by omega) hRR.2.nz (by omega) l6 hl6),.ctT g0 7 99 [(kf true (.g 6 0) l6 (fun G => (G 6).ss 0)).a] (fun _ G => signed_ctv a_Sign l6 ((G 6).ss 0) (by subst_vars; exact Bg.dig_Dg _) n6 hn6 l7 hl7),.ctT g0 8 96 [(kf true (.g 7 0) l7 (fun G => (G 7).ss 0)).a] (fun _ G => checkedT_ct n6 l7 ((G 7).ss 0)),.v fun G => ag (DBig.mk n6 ⟨l7, (G 8).ss 0⟩),.k (iv 0),.st 2 (fun G => .blk ((G1 2).b) (ca (DBig.mk n6 ⟨l7, (G 8).ss 0⟩)) 28),.k (iv 0)] fun _ _ G8 kw8 => ?_
  intro S_ s_
  obtain ⟨⟨kl11, -⟩, ⟨kl12, -⟩, ⟨kl13, -⟩, -⟩ : Lq l6 (((G8 6).ss 0).v) ∧ Lq l7 (((G8 7).ss 0).v) ∧ Lq l7 (((G8 8).ss 0).v) ∧ True := kn kw8 (by kernel_rfl)
  clear kw8
  have e1 : l7 = Bg.oD (Bg.RtB a_Sign a_Digits ∧ Bg.RtB b_Sign b_Digits) (Bg.zv a_Sign a_Digits + Bg.zv b_Sign b_Digits) := by
    rw [hl7, hl6]
    rw [Bg.oD_y hRR]; exact Bg.moreD hRR.1 hRR.2 hss hge
  subst e1
  have e0 : n6 = Bg.oS (Bg.RtB a_Sign a_Digits ∧ Bg.RtB b_Sign b_Digits) (Bg.zv a_Sign a_Digits + Bg.zv b_Sign b_Digits) := by
    rw [hn6, hl6]
    rw [Bg.oS_y hRR]; exact Bg.moreS hRR.1 hRR.2 hss hge
  have e2 : (0 : Int) = if (Bg.RtB a_Sign a_Digits ∧ Bg.RtB b_Sign b_Digits) then (0 : Int) else 1 := (if_pos hRR).symm
  exact V.ret [2, 0] [(G8 8).ss 0] [fun _ => {}] [] [4] [] (.tuple #[ag (DBig.mk n6 ⟨(Bg.oD (Bg.RtB a_Sign a_Digits ∧ Bg.RtB b_Sign b_Digits) (Bg.zv a_Sign a_Digits + Bg.zv b_Sign b_Digits)), (G8 8).ss 0⟩), iv 0]) (fun _ _ => by kernel_rfl) (fun _ _ => (Eq.trans (by kernel_rfl) (cong2 (fun (x0 : Int) (x2 : Int) => (.tuple #[.agg #[iv x0, ((G8 8).ss 0).v], iv x2] : Value)) e0 e2)).trans (by kernel_rfl)) (fun _ _ => trivial)
theorem Add_ctv (a_Sign : Int) (a_Digits : List Int) (a_Digitss : SV) (b_Sign : Int) (b_Digits : List Int) (b_Digitss : SV) (hla : a_Digits.length ≤ 274877906944) (hlb : b_Digits.length ≤ 274877906944) (rv0 : Int) (erv0 : rv0 = Bg.oS (Bg.RtB a_Sign a_Digits ∧ Bg.RtB b_Sign b_Digits) (Bg.zv a_Sign a_Digits + Bg.zv b_Sign b_Digits)) (rv1 : List Int) (erv1 : rv1 = Bg.oD (Bg.RtB a_Sign a_Digits ∧ Bg.RtB b_Sign b_Digits) (Bg.zv a_Sign a_Digits + Bg.zv b_Sign b_Digits)) (rv2 : Int) (erv2 : rv2 = if (Bg.RtB a_Sign a_Digits ∧ Bg.RtB b_Sign b_Digits) then (0 : Int) else 1) :
    Ct Try.prog 71 #[ag (DBig.mk a_Sign ⟨a_Digits, a_Digitss⟩), ag (DBig.mk b_Sign ⟨b_Digits, b_Digitss⟩)] [fs true a_Digits a_Digitss, fs true b_Digits b_Digitss] [] (fun g => .tuple #[ag (DBig.mk rv0 ⟨rv1, (g.ss 0)⟩), iv rv2]) (fun g => [fs true rv1 (g.ss 0)]) (fun g => []) (fun g => []) := by
  subst erv0 erv1 erv2; exact Add_ct a_Sign a_Digits a_Digitss b_Sign b_Digits b_Digitss hla hlb
set_option maxRecDepth 10000 in
theorem Mul_ct (a_Sign : Int) (a_Digits : List Int) (a_Digitss : SV) (b_Sign : Int) (b_Digits : List Int) (b_Digitss : SV) (hla : a_Digits.length ≤ 274877906944) (hlb : b_Digits.length ≤ 274877906944) :
    Ct Try.prog 95 #[ag (DBig.mk a_Sign ⟨a_Digits, a_Digitss⟩), ag (DBig.mk b_Sign ⟨b_Digits, b_Digitss⟩)] [fs true a_Digits a_Digitss, fs true b_Digits b_Digitss] [] (fun g => .tuple #[ag (DBig.mk (Bg.oS (Bg.RtB a_Sign a_Digits ∧ Bg.RtB b_Sign b_Digits) (Bg.zv a_Sign a_Digits * Bg.zv b_Sign b_Digits)) ⟨Bg.oD (Bg.RtB a_Sign a_Digits ∧ Bg.RtB b_Sign b_Digits) (Bg.zv a_Sign a_Digits * Bg.zv b_Sign b_Digits), (g.ss 0)⟩), iv (if (Bg.RtB a_Sign a_Digits ∧ Bg.RtB b_Sign b_Digits) then (0 : Int) else 1)]) (fun g => [fs true (Bg.oD (Bg.RtB a_Sign a_Digits ∧ Bg.RtB b_Sign b_Digits) (Bg.zv a_Sign a_Digits * Bg.zv b_Sign b_Digits)) (g.ss 0)]) (fun g => []) (fun g => []) := by
  refine V.fn mo Try.func95 32 3 (by kernel_rfl) fun w H ε k0 => ?_
  obtain ⟨⟨kl1, -⟩, ⟨kl2, -⟩, -⟩ : Lq a_Digits a_Digitss.v ∧ Lq b_Digits b_Digitss.v ∧ True := kn k0 (by kernel_rfl)
  clear k0
  refine V.g [.nb 0 0 (fun b => pp b 0) 28 (fun _ => ca (DBig.mk a_Sign ⟨a_Digits, a_Digitss⟩)),.nb 1 1 (fun b => pp b 0) 28 (fun _ => ca (DBig.mk b_Sign ⟨b_Digits, b_Digitss⟩)),.nb 2 2 (fun b => pp b 0) 28 (fun _ => ca (DBig.mk 0 ⟨[], {}⟩)),.k (iv 0)] fun _ _ G1 => ?_
  intro S_ s_
  refine nm ((!(decide (Bg.RtB a_Sign a_Digits))) || (!(decide (Bg.RtB b_Sign b_Digits))) : Bool) fun p1 hp1 => ?_
  refine V.g [.ld 0 0 true (fun _ => Dat.cells (DBig.mk a_Sign ⟨a_Digits, a_Digitss⟩)),.cp g0 1 60 [(kf false (.f 0) a_Digits (fun _ => a_Digitss)).a] (fun _ G => bright_ct a_Sign a_Digits a_Digitss),.k (bv (!(decide (Bg.RtB a_Sign a_Digits)))),.k (bv (!(decide (Bg.RtB a_Sign a_Digits)))),.ld 1 0 true (fun _ => Dat.cells (DBig.mk b_Sign ⟨b_Digits, b_Digitss⟩)),.cp (gF (b := !(decide (Bg.RtB a_Sign a_Digits))) (iNF iDT)) 5 60 [(kf false (.f 1) b_Digits (fun _ => b_Digitss)).a] (fun hg G => bright_ct b_Sign b_Digits b_Digitss),.k (bv (!(decide (Bg.RtB b_Sign b_Digits)))),.orn g0 false (!(decide (Bg.RtB a_Sign a_Digits))) (!(decide (Bg.RtB b_Sign b_Digits))) p1 hp1] fun _ _ G2 => ?_
  intro S_ s_
  refine V.cond (b := p1) (iN hp1 (iOT (iNT iDF) (iNT iDF))) (iN hp1 (iOF (iNF iDT) (iNF iDT))) (by kernel_rfl) (fun q1 => ?_) (fun q2 => ?_)
  · have hNR : ¬ (Bg.RtB a_Sign a_Digits ∧ Bg.RtB b_Sign b_Digits) := by rintro ⟨h1, h2⟩; rcases q1 with h | h; exact h h1; exact h h2
    refine nm (([] : List Int) : List Int) fun l1 hl1 => ?_
    have hl1n := congrArg List.length hl1
    refine V.r [.k (ag (DBig.mk 0 ⟨[], {}⟩)),.ctT g0 1 96 [(knil (α := Int)).a] (fun _ G => checkedF_ctv (0 : Int) ([] : List Int) ({}) l1 hl1),.v fun G => ag (DBig.mk 0 ⟨l1, (G 1).ss 0⟩),.k (iv 1),.st 2 (fun G => .blk ((G1 2).b) (ca (DBig.mk 0 ⟨l1, (G 1).ss 0⟩)) 28),.k (iv 1)] fun _ _ G3 kw3 => ?_
    intro S_ s_
    obtain ⟨⟨kl3, -⟩, -⟩ : Lq l1 (((G3 1).ss 0).v) ∧ True := kn kw3 (by kernel_rfl)
    clear kw3
    have e1 : l1 = Bg.oD (Bg.RtB a_Sign a_Digits ∧ Bg.RtB b_Sign b_Digits) (Bg.zv a_Sign a_Digits * Bg.zv b_Sign b_Digits) := by
      rw [hl1]
      exact (Bg.oD_n hNR _).symm
    subst e1
    have e0 : (0 : Int) = Bg.oS (Bg.RtB a_Sign a_Digits ∧ Bg.RtB b_Sign b_Digits) (Bg.zv a_Sign a_Digits * Bg.zv b_Sign b_Digits) := (Bg.oS_n hNR _).symm
    have e2 : (1 : Int) = if (Bg.RtB a_Sign a_Digits ∧ Bg.RtB b_Sign b_Digits) then (0 : Int) else 1 := (if_neg hNR).symm
    exact V.ret [2, 0] [(G3 1).ss 0] [fun _ => {}] [] [2] [] (.tuple #[ag (DBig.mk 0 ⟨(Bg.oD (Bg.RtB a_Sign a_Digits ∧ Bg.RtB b_Sign b_Digits) (Bg.zv a_Sign a_Digits * Bg.zv b_Sign b_Digits)), (G3 1).ss 0⟩), iv 1]) (fun _ _ => by kernel_rfl) (fun _ _ => (Eq.trans (by kernel_rfl) (cong2 (fun (x0 : Int) (x2 : Int) => (.tuple #[.agg #[iv x0, ((G3 1).ss 0).v], iv x2] : Value)) e0 e2)).trans (by kernel_rfl)) (fun _ _ => trivial)
  have hRR : (Bg.RtB a_Sign a_Digits ∧ Bg.RtB b_Sign b_Digits) := by first | exact q2 | exact ⟨Decidable.not_not.1 (q2).1, Decidable.not_not.1 (q2).2⟩
  have hsm := Bg.sml hRR.1 hRR.2
  refine nm (a_Sign * b_Sign : Int) fun n1 hn1 => ?_
  refine nm (Bg.dig (Bg.nv a_Digits * Bg.nv b_Digits) : List Int) fun l2 hl2 => ?_
  have hl2n := congrArg List.length hl2
  refine nm (Bg.sg0 (Bg.nv l2) n1 : Int) fun n2 hn2 => ?_
  refine nm (Bg.dig (Bg.nv l2) : List Int) fun l3 hl3 => ?_
  have hl3n := congrArg List.length hl3
  refine V.r [.k (pp ((G1 0).b) 0),.ld 0 0 false (fun _ => [iv a_Sign]),.k (pp ((G1 1).b) 0),.ld 1 0 false (fun _ => [iv b_Sign]),.ar (a_Sign * b_Sign) n1 hn1 (by rw [hn1]; exact hsm.1) (by rw [hn1]; exact hsm.2),.k (pp ((G1 0).b) 1),.ld 0 1 false (fun _ => [a_Digitss.v]),.k (pp ((G1 1).b) 1),.ld 1 1 false (fun _ => [b_Digitss.v]),.ct g0 9 123 false [] [] [(kf false (.f 0) a_Digits (fun _ => a_Digitss)).a, (kf false (.f 1) b_Digits (fun _ => b_Digitss)).a] (fun _ G => mul_ctv a_Digits a_Digitss b_Digits b_Digitss hRR.1.dg hRR.2.dg (by omega) (by omega) l2 hl2),.ctT g0 10 99 [(kf true (.g 9 0) l2 (fun G => (G 9).ss 0)).a] (fun _ G => signed_ctv n1 l2 ((G 9).ss 0) (by subst_vars; exact Bg.dig_Dg _) n2 hn2 l3 hl3),.ctT g0 11 96 [(kf true (.g 10 0) l3 (fun G => (G 10).ss 0)).a] (fun _ G => checkedT_ct n2 l3 ((G 10).ss 0)),.v fun G => ag (DBig.mk n2 ⟨l3, (G 11).ss 0⟩),.k (iv 0),.st 2 (fun G => .blk ((G1 2).b) (ca (DBig.mk n2 ⟨l3, (G 11).ss 0⟩)) 28),.k (iv 0)] fun _ _ G4 kw4 => ?_
  intro S_ s_
  obtain ⟨⟨kl4, -⟩, ⟨kl5, -⟩, ⟨kl6, -⟩, -⟩ : Lq l2 (((G4 9).ss 0).v) ∧ Lq l3 (((G4 10).ss 0).v) ∧ Lq l3 (((G4 11).ss 0).v) ∧ True := kn kw4 (by kernel_rfl)
  clear kw4
  have e1 : l3 = Bg.oD (Bg.RtB a_Sign a_Digits ∧ Bg.RtB b_Sign b_Digits) (Bg.zv a_Sign a_Digits * Bg.zv b_Sign b_Digits) := by
    rw [hl3, hl2]
    rw [Bg.oD_y hRR]; exact Bg.mulD hRR.1 hRR.2
  subst e1
  have e0 : n2 = Bg.oS (Bg.RtB a_Sign a_Digits ∧ Bg.RtB b_Sign b_Digits) (Bg.zv a_Sign a_Digits * Bg.zv b_Sign b_Digits) := by
    rw [hn2, hl2, hn1]
    rw [Bg.oS_y hRR]; exact Bg.mulS hRR.1 hRR.2
  have e2 : (0 : Int) = if (Bg.RtB a_Sign a_Digits ∧ Bg.RtB b_Sign b_Digits) then (0 : Int) else 1 := (if_pos hRR).symm
  exact V.ret [2, 0] [(G4 11).ss 0] [fun _ => {}] [] [4] [] (.tuple #[ag (DBig.mk n2 ⟨(Bg.oD (Bg.RtB a_Sign a_Digits ∧ Bg.RtB b_Sign b_Digits) (Bg.zv a_Sign a_Digits * Bg.zv b_Sign b_Digits)), (G4 11).ss 0⟩), iv 0]) (fun _ _ => by kernel_rfl) (fun _ _ => (Eq.trans (by kernel_rfl) (cong2 (fun (x0 : Int) (x2 : Int) => (.tuple #[.agg #[iv x0, ((G4 11).ss 0).v], iv x2] : Value)) e0 e2)).trans (by kernel_rfl)) (fun _ _ => trivial)
theorem Mul_ctv (a_Sign : Int) (a_Digits : List Int) (a_Digitss : SV) (b_Sign : Int) (b_Digits : List Int) (b_Digitss : SV) (hla : a_Digits.length ≤ 274877906944) (hlb : b_Digits.length ≤ 274877906944) (rv0 : Int) (erv0 : rv0 = Bg.oS (Bg.RtB a_Sign a_Digits ∧ Bg.RtB b_Sign b_Digits) (Bg.zv a_Sign a_Digits * Bg.zv b_Sign b_Digits)) (rv1 : List Int) (erv1 : rv1 = Bg.oD (Bg.RtB a_Sign a_Digits ∧ Bg.RtB b_Sign b_Digits) (Bg.zv a_Sign a_Digits * Bg.zv b_Sign b_Digits)) (rv2 : Int) (erv2 : rv2 = if (Bg.RtB a_Sign a_Digits ∧ Bg.RtB b_Sign b_Digits) then (0 : Int) else 1) :
    Ct Try.prog 95 #[ag (DBig.mk a_Sign ⟨a_Digits, a_Digitss⟩), ag (DBig.mk b_Sign ⟨b_Digits, b_Digitss⟩)] [fs true a_Digits a_Digitss, fs true b_Digits b_Digitss] [] (fun g => .tuple #[ag (DBig.mk rv0 ⟨rv1, (g.ss 0)⟩), iv rv2]) (fun g => [fs true rv1 (g.ss 0)]) (fun g => []) (fun g => []) := by
  subst erv0 erv1 erv2; exact Mul_ct a_Sign a_Digits a_Digitss b_Sign b_Digits b_Digitss hla hlb

open Go Go.Proofs
set_option maxRecDepth 10000 in
theorem Gcd_ct (a_Sign : Int) (a_Digits : List Int) (a_Digitss : SV) (b_Sign : Int) (b_Digits : List Int) (b_Digitss : SV) (hla : a_Digits.length ≤ 274877906944) (hlb : b_Digits.length ≤ 274877906944) :
    Ct Try.prog 61 #[ag (DBig.mk a_Sign ⟨a_Digits, a_Digitss⟩), ag (DBig.mk b_Sign ⟨b_Digits, b_Digitss⟩)] [fs true a_Digits a_Digitss, fs true b_Digits b_Digitss] [] (fun g => .tuple #[ag (DBig.mk (Bg.oS (Bg.RtB a_Sign a_Digits ∧ Bg.RtB b_Sign b_Digits) ((Nat.gcd (Bg.nv a_Digits) (Bg.nv b_Digits) : Int))) ⟨Bg.oD (Bg.RtB a_Sign a_Digits ∧ Bg.RtB b_Sign b_Digits) ((Nat.gcd (Bg.nv a_Digits) (Bg.nv b_Digits) : Int)), (g.ss 0)⟩), iv (if (Bg.RtB a_Sign a_Digits ∧ Bg.RtB b_Sign b_Digits) then (0 : Int) else 1)]) (fun g => [fs true (Bg.oD (Bg.RtB a_Sign a_Digits ∧ Bg.RtB b_Sign b_Digits) ((Nat.gcd (Bg.nv a_Digits) (Bg.nv b_Digits) : Int))) (g.ss 0)]) (fun g => []) (fun g => []) := by
  refine V.fn mo Try.func61 44 3 (by kernel_rfl) fun w H ε k0 => ?_
  obtain ⟨⟨kl1, -⟩, ⟨kl2, -⟩, -⟩ : Lq a_Digits a_Digitss.v ∧ Lq b_Digits b_Digitss.v ∧ True := kn k0 (by kernel_rfl)
  clear k0
  refine V.g [.nb 0 0 (fun b => pp b 0) 28 (fun _ => ca (DBig.mk a_Sign ⟨a_Digits, a_Digitss⟩)),.nb 1 1 (fun b => pp b 0) 28 (fun _ => ca (DBig.mk b_Sign ⟨b_Digits, b_Digitss⟩)),.nb 2 2 (fun b => pp b 0) 28 (fun _ => ca (DBig.mk 0 ⟨[], {}⟩)),.k (iv 0)] fun _ _ G1 => ?_
  intro S_ s_
  refine nm ((!(decide (Bg.RtB a_Sign a_Digits))) || (!(decide (Bg.RtB b_Sign b_Digits))) : Bool) fun p1 hp1 => ?_
  refine V.g [.ld 0 0 true (fun _ => Dat.cells (DBig.mk a_Sign ⟨a_Digits, a_Digitss⟩)),.cp g0 1 60 [(kf false (.f 0) a_Digits (fun _ => a_Digitss)).a] (fun _ G => bright_ct a_Sign a_Digits a_Digitss),.k (bv (!(decide (Bg.RtB a_Sign a_Digits)))),.k (bv (!(decide (Bg.RtB a_Sign a_Digits)))),.ld 1 0 true (fun _ => Dat.cells (DBig.mk b_Sign ⟨b_Digits, b_Digitss⟩)),.cp (gF (b := !(decide (Bg.RtB a_Sign a_Digits))) (iNF iDT)) 5 60 [(kf false (.f 1) b_Digits (fun _ => b_Digitss)).a] (fun hg G => bright_ct b_Sign b_Digits b_Digitss),.k (bv (!(decide (Bg.RtB b_Sign b_Digits)))),.orn g0 false (!(decide (Bg.RtB a_Sign a_Digits))) (!(decide (Bg.RtB b_Sign b_Digits))) p1 hp1] fun _ _ G2 => ?_
  intro S_ s_
  refine V.cond (b := p1) (iN hp1 (iOT (iNT iDF) (iNT iDF))) (iN hp1 (iOF (iNF iDT) (iNF iDT))) (by kernel_rfl) (fun q1 => ?_) (fun q2 => ?_)
  · have hNR : ¬ (Bg.RtB a_Sign a_Digits ∧ Bg.RtB b_Sign b_Digits) := by rintro ⟨h1, h2⟩; rcases q1 with h | h; exact h h1; exact h h2
    refine nm (([] : List Int) : List Int) fun l1 hl1 => ?_
    have hl1n := congrArg List.length hl1
    refine V.r [.k (ag (DBig.mk 0 ⟨[], {}⟩)),.ctT g0 1 96 [(knil (α := Int)).a] (fun _ G => checkedF_ctv (0 : Int) ([] : List Int) ({}) l1 hl1),.v fun G => ag (DBig.mk 0 ⟨l1, (G 1).ss 0⟩),.k (iv 1),.st 2 (fun G => .blk ((G1 2).b) (ca (DBig.mk 0 ⟨l1, (G 1).ss 0⟩)) 28),.k (iv 1)] fun _ _ G3 kw3 => ?_
    intro S_ s_
    obtain ⟨⟨kl3, -⟩, -⟩ : Lq l1 (((G3 1).ss 0).v) ∧ True := kn kw3 (by kernel_rfl)
    clear kw3
    have e1 : l1 = Bg.oD (Bg.RtB a_Sign a_Digits ∧ Bg.RtB b_Sign b_Digits) ((Nat.gcd (Bg.nv a_Digits) (Bg.nv b_Digits) : Int)) := by
      rw [hl1]
      exact (Bg.oD_n hNR _).symm
    subst e1
    have e0 : (0 : Int) = Bg.oS (Bg.RtB a_Sign a_Digits ∧ Bg.RtB b_Sign b_Digits) ((Nat.gcd (Bg.nv a_Digits) (Bg.nv b_Digits) : Int)) := (Bg.oS_n hNR _).symm
    have e2 : (1 : Int) = if (Bg.RtB a_Sign a_Digits ∧ Bg.RtB b_Sign b_Digits) then (0 : Int) else 1 := (if_neg hNR).symm
    exact V.ret [2, 0] [(G3 1).ss 0] [fun _ => {}] [] [2] [] (.tuple #[ag (DBig.mk 0 ⟨(Bg.oD (Bg.RtB a_Sign a_Digits ∧ Bg.RtB b_Sign b_Digits) ((Nat.gcd (Bg.nv a_Digits) (Bg.nv b_Digits) : Int))), (G3 1).ss 0⟩), iv 1]) (fun _ _ => by kernel_rfl) (fun _ _ => (Eq.trans (by kernel_rfl) (cong2 (fun (x0 : Int) (x2 : Int) => (.tuple #[.agg #[iv x0, ((G3 1).ss 0).v], iv x2] : Value)) e0 e2)).trans (by kernel_rfl)) (fun _ _ => trivial)
  have hRR : (Bg.RtB a_Sign a_Digits ∧ Bg.RtB b_Sign b_Digits) := by first | exact q2 | exact ⟨Decidable.not_not.1 (q2).1, Decidable.not_not.1 (q2).2⟩
  have hsm := Bg.sml hRR.1 hRR.2
  refine V.r [.k (pp ((G1 0).b) 1),.ld 0 1 false (fun _ => [a_Digitss.v]),.ct g0 2 97 false [] [] [(kf false (.f 0) a_Digits (fun _ => a_Digitss)).a] (fun _ G => clonef_ct a_Digits a_Digitss (by omega)),.k (pp ((G1 1).b) 1),.ld 1 1 false (fun _ => [b_Digitss.v]),.v fun G => ((G 2).ss 0).v,.k (b_Digitss.v)] fun _ _ G4 kw4 => ?_
  intro S_ s_
  obtain ⟨⟨kl4, -⟩, -⟩ : Lq a_Digits (((G4 2).ss 0).v) ∧ True := kn kw4 (by kernel_rfl)
  clear kw4
  refine V.loop (γ := List Int × SV × List Int × SV) (fun ⟨x, xs, y, ys⟩ => ⟨[(4, pp ((G1 2).b) 0), (6, xs.v), (7, ys.v)], [fs false x xs, fs false y ys, fs false a_Digits a_Digitss, fs false b_Digits b_Digitss], [.blk ((G1 0).b) (ca (DBig.mk a_Sign ⟨a_Digits, a_Digitss⟩)) 28, .blk ((G1 1).b) (ca (DBig.mk b_Sign ⟨b_Digits, b_Digitss⟩)) 28, .blk ((G1 2).b) (ca (DBig.mk 0 ⟨[], {}⟩)) 28]⟩) (fun ⟨x, xs, y, ys⟩ => (Bg.Dg x) ∧ (Bg.Nz x) ∧ (Bg.Dg y) ∧ (Bg.Nz y) ∧ (Nat.gcd (Bg.nv x) (Bg.nv y) = Nat.gcd (Bg.nv a_Digits) (Bg.nv b_Digits)) ∧ (x.length ≤ 274877906944) ∧ (y.length ≤ 274877906944)) (fun ⟨x, xs, y, ys⟩ => Bg.nv y) (a_Digits, (G4 2).ss 0, b_Digits, b_Digitss) (by kernel_rfl) [2, 1, 0, 1] (by kernel_rfl) ?_ ?_
  · refine ⟨?_, ?_, ?_, ?_, ?_, ?_, ?_⟩
    · show Bg.Dg a_Digits
      exact hRR.1.dg
    · show Bg.Nz a_Digits
      exact hRR.1.nz
    · show Bg.Dg b_Digits
      exact hRR.2.dg
    · show Bg.Nz b_Digits
      exact hRR.2.nz
    · show Nat.gcd (Bg.nv a_Digits) (Bg.nv b_Digits) = Nat.gcd (Bg.nv a_Digits) (Bg.nv b_Digits)
      rfl
    · show a_Digits.length ≤ 274877906944
      omega
    show b_Digits.length ≤ 274877906944
    omega
  rintro ⟨x, xs, y, ys⟩ hF1 kw5 Z1 hZ1
  have hF1 : (Bg.Dg x) ∧ (Bg.Nz x) ∧ (Bg.Dg y) ∧ (Bg.Nz y) ∧ (Nat.gcd (Bg.nv x) (Bg.nv y) = Nat.gcd (Bg.nv a_Digits) (Bg.nv b_Digits)) ∧ (x.length ≤ 274877906944) ∧ (y.length ≤ 274877906944) := hF1
  obtain ⟨hf1, hf2, hf3, hf4, hf5, hf6, hf7⟩ := hF1
  obtain ⟨⟨kl5, -⟩, ⟨kl6, -⟩, -, -, -⟩ : Lq x xs.v ∧ Lq y ys.v ∧ Lq a_Digits a_Digitss.v ∧ Lq b_Digits b_Digitss.v ∧ True := kn kw5 (by kernel_rfl)
  clear kw5
  refine V.g [.k (ys.v),.ln (kf false (.f 1) y (fun _ => ys)),.k (bv (decide (0 < (y.length : Int))))] fun _ _ G5 => ?_
  intro S_ s_
  refine V.cond (b := decide (0 < (y.length : Int))) iDT iDF (by kernel_rfl) (fun q3 => ?_) (fun q4 => ?_)
  · have hyn : y ≠ [] := fun e => by have := congrArg List.length e; simp only [List.length_nil] at this; omega
    have hyp := Bg.nv_ne hf3 hf4 hyn
    have hmd := Nat.mod_lt (Bg.nv x) (Nat.pos_of_ne_zero hyp)
    refine nm (Bg.dig (Bg.nv x / Bg.nv y) : List Int) fun l2 hl2 => ?_
    have hl2n := congrArg List.length hl2
    refine nm (Bg.dig (Bg.nv x % Bg.nv y) : List Int) fun l3 hl3 => ?_
    have hl3n := congrArg List.length hl3
    refine V.r [.k (xs.v),.k (ys.v),.ct g0 2 98 false [] [] [(kf false (.f 0) x (fun _ => xs)).a, (kf false (.f 1) y (fun _ => ys)).a] (fun _ G => div_ctv x xs y ys hf1 hf3 hf2 hf4 hyn (by omega) (by omega) l2 hl2 l3 hl3),.v fun G => .tuple #[((G 2).ss 0).v, ((G 2).ss 1).v],.v fun G => ((G 2).ss 0).v,.v fun G => ((G 2).ss 1).v,.v fun G => ((G 2).ss 0).v,.v fun G => ((G 2).ss 1).v] fun _ _ G6 kw7 => ?_
    intro S_ s_
    obtain ⟨⟨kl7, -⟩, ⟨kl8, -⟩, -⟩ : Lq l2 (((G6 2).ss 0).v) ∧ Lq l3 (((G6 2).ss 1).v) ∧ True := kn kw7 (by kernel_rfl)
    clear kw7
    refine V.g [.k (ys.v),.k (((G6 2).ss 1).v),.k (ys.v),.k (((G6 2).ss 1).v)] fun _ _ G7 => ?_
    intro S_ s_
    refine V.rnd hZ1 (y, ys, l3, (G6 2).ss 1) [1, 5, 2, 3] (by kernel_rfl) ?_ ?_
    · refine ⟨?_, ?_, ?_, ?_, ?_, ?_, ?_⟩
      · show Bg.Dg y
        exact hf3
      · show Bg.Nz y
        exact hf4
      · show Bg.Dg l3
        rw [hl3]
        exact Bg.dig_Dg _
      · show Bg.Nz l3
        rw [hl3]
        exact Bg.dig_Nz _
      · show Nat.gcd (Bg.nv y) (Bg.nv l3) = Nat.gcd (Bg.nv a_Digits) (Bg.nv b_Digits)
        rw [hl3]
        rw [Bg.nv_dig]; exact Bg.gcd_step hf5
      · show y.length ≤ 274877906944
        omega
      show l3.length ≤ 274877906944
      rw [hl3]
      exact Nat.le_trans (Bg.dig_len_mono' (Nat.le_of_lt hmd)) (Nat.le_trans (Bg.dig_le hf3) hf7)
    show Bg.nv l3 < Bg.nv y
    rw [hl3]
    rw [Bg.nv_dig]; exact hmd
  have hxd := hf1
  have hgx := hf5
  have hy0 : y = [] := List.eq_nil_of_length_eq_zero (by omega)
  rw [hy0, show Bg.nv [] = 0 from rfl, Nat.gcd_zero_right] at hgx
  have hgS := Bg.gcdS (Nat.gcd (Bg.nv a_Digits) (Bg.nv b_Digits)); have hgD := Bg.gcdD (Nat.gcd (Bg.nv a_Digits) (Bg.nv b_Digits))
  rw [← hgx, Bg.nv_dig] at hgS hgD
  refine nm (Bg.sg0 (Bg.nv x) (1 : Int) : Int) fun n1 hn1 => ?_
  refine nm (Bg.dig (Bg.nv x) : List Int) fun l4 hl4 => ?_
  have hl4n := congrArg List.length hl4
  refine V.r [.k (xs.v),.ct g0 1 97 false [] [] [(kf false (.f 0) x (fun _ => xs)).a] (fun _ G => clonef_ct x xs (by omega)),.ctT g0 2 99 [(kf true (.g 1 0) x (fun G => (G 1).ss 0)).a] (fun _ G => signed_ctv (1 : Int) x ((G 1).ss 0) (by first | assumption | exact hxd) n1 hn1 l4 hl4),.ctT g0 3 96 [(kf true (.g 2 0) l4 (fun G => (G 2).ss 0)).a] (fun _ G => checkedT_ct n1 l4 ((G 2).ss 0)),.v fun G => ag (DBig.mk n1 ⟨l4, (G 3).ss 0⟩),.k (iv 0),.st 2 (fun G => .blk ((G1 2).b) (ca (DBig.mk n1 ⟨l4, (G 3).ss 0⟩)) 28),.k (iv 0)] fun _ _ G8 kw9 => ?_
  intro S_ s_
  obtain ⟨⟨kl9, -⟩, ⟨kl10, -⟩, ⟨kl11, -⟩, -⟩ : Lq x (((G8 1).ss 0).v) ∧ Lq l4 (((G8 2).ss 0).v) ∧ Lq l4 (((G8 3).ss 0).v) ∧ True := kn kw9 (by kernel_rfl)
  clear kw9
  have e1 : l4 = Bg.oD (Bg.RtB a_Sign a_Digits ∧ Bg.RtB b_Sign b_Digits) ((Nat.gcd (Bg.nv a_Digits) (Bg.nv b_Digits) : Int)) := by
    rw [hl4]
    rw [Bg.oD_y hRR]; rw [← hgx]; exact hgD
  subst e1
  have e0 : n1 = Bg.oS (Bg.RtB a_Sign a_Digits ∧ Bg.RtB b_Sign b_Digits) ((Nat.gcd (Bg.nv a_Digits) (Bg.nv b_Digits) : Int)) := by
    rw [hn1]
    rw [Bg.oS_y hRR]; rw [← hgx]; exact hgS
  have e2 : (0 : Int) = if (Bg.RtB a_Sign a_Digits ∧ Bg.RtB b_Sign b_Digits) then (0 : Int) else 1 := (if_pos hRR).symm
  exact V.ret [2, 0] [(G8 3).ss 0] [fun _ => {}] [] [6] [] (.tuple #[ag (DBig.mk n1 ⟨(Bg.oD (Bg.RtB a_Sign a_Digits ∧ Bg.RtB b_Sign b_Digits) ((Nat.gcd (Bg.nv a_Digits) (Bg.nv b_Digits) : Int))), (G8 3).ss 0⟩), iv 0]) (fun _ _ => by kernel_rfl) (fun _ _ => (Eq.trans (by kernel_rfl) (cong2 (fun (x0 : Int) (x2 : Int) => (.tuple #[.agg #[iv x0, ((G8 3).ss 0).v], iv x2] : Value)) e0 e2)).trans (by kernel_rfl)) (fun _ _ => trivial)
theorem Gcd_ctv (a_Sign : Int) (a_Digits : List Int) (a_Digitss : SV) (b_Sign : Int) (b_Digits : List Int) (b_Digitss : SV) (hla : a_Digits.length ≤ 274877906944) (hlb : b_Digits.length ≤ 274877906944) (rv0 : Int) (erv0 : rv0 = Bg.oS (Bg.RtB a_Sign a_Digits ∧ Bg.RtB b_Sign b_Digits) ((Nat.gcd (Bg.nv a_Digits) (Bg.nv b_Digits) : Int))) (rv1 : List Int) (erv1 : rv1 = Bg.oD (Bg.RtB a_Sign a_Digits ∧ Bg.RtB b_Sign b_Digits) ((Nat.gcd (Bg.nv a_Digits) (Bg.nv b_Digits) : Int))) (rv2 : Int) (erv2 : rv2 = if (Bg.RtB a_Sign a_Digits ∧ Bg.RtB b_Sign b_Digits) then (0 : Int) else 1) :
    Ct Try.prog 61 #[ag (DBig.mk a_Sign ⟨a_Digits, a_Digitss⟩), ag (DBig.mk b_Sign ⟨b_Digits, b_Digitss⟩)] [fs true a_Digits a_Digitss, fs true b_Digits b_Digitss] [] (fun g => .tuple #[ag (DBig.mk rv0 ⟨rv1, (g.ss 0)⟩), iv rv2]) (fun g => [fs true rv1 (g.ss 0)]) (fun g => []) (fun g => []) := by
  subst erv0 erv1 erv2; exact Gcd_ct a_Sign a_Digits a_Digitss b_Sign b_Digits b_Digitss hla hlb

namespace Bg
section
variable {s t : Int} {l m : List Int}
theorem dqS (h : RtB s l) (k : RtB t m) (ht : nv m ≠ 0) (hs : s * t < 0) (h0 : nv l % nv m ≠ 0) : (if nv (dig (nv (dig (nv l / nv m)) + nv [1])) = 0 then 0 else -1) = sgn (flo (zv s l) (zv t m)) := by
  rw [nv_dig, nv_dig, nv_one, if_neg (show ¬ (nv l / nv m + (1 : Int).toNat = 0) from Nat.succ_ne_zero _)]; exact (div_diff h k ht hs h0).2.2.1
theorem dqD (h : RtB s l) (k : RtB t m) (ht : nv m ≠ 0) (hs : s * t < 0) (h0 : nv l % nv m ≠ 0) : dig (nv (dig (nv (dig (nv l / nv m)) + nv [1]))) = dig (flo (zv s l) (zv t m)).natAbs := by
  rw [nv_dig, nv_dig, nv_one, (div_diff h k ht hs h0).1]; rfl
theorem drS (h : RtB s l) (k : RtB t m) (ht : nv m ≠ 0) (hs : s * t < 0) (h0 : nv l % nv m ≠ 0) : (if nv (dig (nv m - nv (dig (nv l % nv m)))) = 0 then 0 else t) = sgn (fmo (zv s l) (zv t m)) := by
  have := Nat.mod_lt (nv l) (Nat.pos_of_ne_zero ht)
  rw [nv_dig, nv_dig, if_neg (by omega)]; exact (div_diff h k ht hs h0).2.2.2
theorem drD (h : RtB s l) (k : RtB t m) (ht : nv m ≠ 0) (hs : s * t < 0) (h0 : nv l % nv m ≠ 0) : dig (nv (dig (nv m - nv (dig (nv l % nv m))))) = dig (fmo (zv s l) (zv t m)).natAbs := by
  rw [nv_dig, nv_dig, (div_diff h k ht hs h0).2.1]
end
end Bg

open Go Go.Proofs
set_option maxRecDepth 10000 in
theorem Div_ct (a_Sign : Int) (a_Digits : List Int) (a_Digitss : SV) (b_Sign : Int) (b_Digits : List Int) (b_Digitss : SV) (hla : a_Digits.length ≤ 274877906944) (hlb : b_Digits.length ≤ 274877906944) :
    Ct Try.prog 94 #[ag (DBig.mk a_Sign ⟨a_Digits, a_Digitss⟩), ag (DBig.mk b_Sign ⟨b_Digits, b_Digitss⟩)] [fs true a_Digits a_Digitss, fs true b_Digits b_Digitss] [] (fun g => .tuple #[ag (DBig.mk (Bg.oS ((Bg.RtB a_Sign a_Digits ∧ Bg.RtB b_Sign b_Digits) ∧ b_Sign ≠ 0) (Bg.flo (Bg.zv a_Sign a_Digits) (Bg.zv b_Sign b_Digits))) ⟨Bg.oD ((Bg.RtB a_Sign a_Digits ∧ Bg.RtB b_Sign b_Digits) ∧ b_Sign ≠ 0) (Bg.flo (Bg.zv a_Sign a_Digits) (Bg.zv b_Sign b_Digits)), (g.ss 0)⟩), ag (DBig.mk (Bg.oS ((Bg.RtB a_Sign a_Digits ∧ Bg.RtB b_Sign b_Digits) ∧ b_Sign ≠ 0) (Bg.fmo (Bg.zv a_Sign a_Digits) (Bg.zv b_Sign b_Digits))) ⟨Bg.oD ((Bg.RtB a_Sign a_Digits ∧ Bg.RtB b_Sign b_Digits) ∧ b_Sign ≠ 0) (Bg.fmo (Bg.zv a_Sign a_Digits) (Bg.zv b_Sign b_Digits)), (g.ss 1)⟩), iv (if ¬ (Bg.RtB a_Sign a_Digits ∧ Bg.RtB b_Sign b_Digits) then (1 : Int) else if b_Sign = 0 then 15 else 0)]) (fun g => [fs true (Bg.oD ((Bg.RtB a_Sign a_Digits ∧ Bg.RtB b_Sign b_Digits) ∧ b_Sign ≠ 0) (Bg.flo (Bg.zv a_Sign a_Digits) (Bg.zv b_Sign b_Digits))) (g.ss 0), fs true (Bg.oD ((Bg.RtB a_Sign a_Digits ∧ Bg.RtB b_Sign b_Digits) ∧ b_Sign ≠ 0) (Bg.fmo (Bg.zv a_Sign a_Digits) (Bg.zv b_Sign b_Digits))) (g.ss 1)]) (fun g => []) (fun g => []) := by
  refine V.fn mo Try.func94 67 4 (by kernel_rfl) fun w H ε k0 => ?_
  obtain ⟨⟨kl1, -⟩, ⟨kl2, -⟩, -⟩ : Lq a_Digits a_Digitss.v ∧ Lq b_Digits b_Digitss.v ∧ True := kn k0 (by kernel_rfl)
  clear k0
  refine V.g [.nb 0 0 (fun b => pp b 0) 28 (fun _ => ca (DBig.mk a_Sign ⟨a_Digits, a_Digitss⟩)),.nb 1 1 (fun b => pp b 0) 28 (fun _ => ca (DBig.mk b_Sign ⟨b_Digits, b_Digitss⟩)),.nb 2 2 (fun b => pp b 0) 28 (fun _ => ca (DBig.mk 0 ⟨[], {}⟩)),.nb 3 3 (fun b => pp b 0) 28 (fun _ => ca (DBig.mk 0 ⟨[], {}⟩)),.k (iv 0)] fun _ _ G1 => ?_
  intro S_ s_
  refine nm ((!(decide (Bg.RtB a_Sign a_Digits))) || (!(decide (Bg.RtB b_Sign b_Digits))) : Bool) fun p1 hp1 => ?_
  refine V.g [.ld 0 0 true (fun _ => Dat.cells (DBig.mk a_Sign ⟨a_Digits, a_Digitss⟩)),.cp g0 1 60 [(kf false (.f 0) a_Digits (fun _ => a_Digitss)).a] (fun _ G => bright_ct a_Sign a_Digits a_Digitss),.k (bv (!(decide (Bg.RtB a_Sign a_Digits)))),.k (bv (!(decide (Bg.RtB a_Sign a_Digits)))),.ld 1 0 true (fun _ => Dat.cells (DBig.mk b_Sign ⟨b_Digits, b_Digitss⟩)),.cp (gF (b := !(decide (Bg.RtB a_Sign a_Digits))) (iNF iDT)) 5 60 [(kf false (.f 1) b_Digits (fun _ => b_Digitss)).a] (fun hg G => bright_ct b_Sign b_Digits b_Digitss),.k (bv (!(decide (Bg.RtB b_Sign b_Digits)))),.orn g0 false (!(decide (Bg.RtB a_Sign a_Digits))) (!(decide (Bg.RtB b_Sign b_Digits))) p1 hp1,.k (bv p1)] fun _ _ G2 => ?_
  intro S_ s_
  refine V.cond (b := p1) (iN hp1 (iOT (iNT iDF) (iNT iDF))) (iN hp1 (iOF (iNF iDT) (iNF iDT))) (by kernel_rfl) (fun q1 => ?_) (fun q2 => ?_)
  · have hNR : ¬ (Bg.RtB a_Sign a_Digits ∧ Bg.RtB b_Sign b_Digits) := by rintro ⟨h1, h2⟩; rcases q1 with h | h; exact h h1; exact h h2
    refine V.g [.k (ag (DBig.mk 0 ⟨[], {}⟩)),.k (ag (DBig.mk 0 ⟨[], {}⟩)),.st 2 (fun _ => .blk ((G1 2).b) (ca (DBig.mk 0 ⟨[], {}⟩)) 28),.st 3 (fun _ => .blk ((G1 3).b) (ca (DBig.mk 0 ⟨[], {}⟩)) 28),.k (iv 1)] fun _ _ G3 => ?_
    intro S_ s_
    refine V.nilF (α := Int) ?_
    refine V.nilF (α := Int) ?_
    have e1 : ([] : List Int) = Bg.oD ((Bg.RtB a_Sign a_Digits ∧ Bg.RtB b_Sign b_Digits) ∧ b_Sign ≠ 0) (Bg.flo (Bg.zv a_Sign a_Digits) (Bg.zv b_Sign b_Digits)) := (Bg.oD_n (fun h => hNR h.1) _).symm
    rw [← e1]
    have e3 : ([] : List Int) = Bg.oD ((Bg.RtB a_Sign a_Digits ∧ Bg.RtB b_Sign b_Digits) ∧ b_Sign ≠ 0) (Bg.fmo (Bg.zv a_Sign a_Digits) (Bg.zv b_Sign b_Digits)) := (Bg.oD_n (fun h => hNR h.1) _).symm
    rw [← e3]
    have e0 : (0 : Int) = Bg.oS ((Bg.RtB a_Sign a_Digits ∧ Bg.RtB b_Sign b_Digits) ∧ b_Sign ≠ 0) (Bg.flo (Bg.zv a_Sign a_Digits) (Bg.zv b_Sign b_Digits)) := (Bg.oS_n (fun h => hNR h.1) _).symm
    have e2 : (0 : Int) = Bg.oS ((Bg.RtB a_Sign a_Digits ∧ Bg.RtB b_Sign b_Digits) ∧ b_Sign ≠ 0) (Bg.fmo (Bg.zv a_Sign a_Digits) (Bg.zv b_Sign b_Digits)) := (Bg.oS_n (fun h => hNR h.1) _).symm
    have e4 : (1 : Int) = if ¬ (Bg.RtB a_Sign a_Digits ∧ Bg.RtB b_Sign b_Digits) then (1 : Int) else if b_Sign = 0 then 15 else 0 := (if_pos hNR).symm
    exact V.ret [2, 3, 0] [{}, {}] [fun _ => {}, fun _ => {}] [] [2, 3] [] (.tuple #[ag (DBig.mk 0 ⟨([] : List Int), {}⟩), ag (DBig.mk 0 ⟨([] : List Int), {}⟩), iv 1]) (fun _ _ => by kernel_rfl) (fun _ _ => (Eq.trans (by kernel_rfl) (cong3 (fun (x0 : Int) (x2 : Int) (x4 : Int) => (.tuple #[.agg #[iv x0, SV.v ({})], .agg #[iv x2, SV.v ({})], iv x4] : Value)) e0 e2 e4)).trans (by kernel_rfl)) (fun _ _ => trivial)
  have hRR : (Bg.RtB a_Sign a_Digits ∧ Bg.RtB b_Sign b_Digits) := by first | exact q2 | exact ⟨Decidable.not_not.1 (q2).1, Decidable.not_not.1 (q2).2⟩
  have hsm := Bg.sml hRR.1 hRR.2
  refine V.g [.k (pp ((G1 1).b) 0),.ld 1 0 false (fun _ => [iv b_Sign]),.k (bv (decide (b_Sign = 0))),.k (bv (decide (b_Sign = 0)))] fun _ _ G4 => ?_
  intro S_ s_
  refine V.cond (b := decide (b_Sign = 0)) iDT iDF (by kernel_rfl) (fun q3 => ?_) (fun q4 => ?_)
  · have hz0 : b_Sign = 0 := q3
    refine V.g [.k (ag (DBig.mk 0 ⟨[], {}⟩)),.k (ag (DBig.mk 0 ⟨[], {}⟩)),.st 2 (fun _ => .blk ((G1 2).b) (ca (DBig.mk 0 ⟨[], {}⟩)) 28),.st 3 (fun _ => .blk ((G1 3).b) (ca (DBig.mk 0 ⟨[], {}⟩)) 28),.k (iv 15)] fun _ _ G5 => ?_
    intro S_ s_
    refine V.nilF (α := Int) ?_
    refine V.nilF (α := Int) ?_
    have e1 : ([] : List Int) = Bg.oD ((Bg.RtB a_Sign a_Digits ∧ Bg.RtB b_Sign b_Digits) ∧ b_Sign ≠ 0) (Bg.flo (Bg.zv a_Sign a_Digits) (Bg.zv b_Sign b_Digits)) := (Bg.oD_n (fun h => h.2 hz0) _).symm
    rw [← e1]
    have e3 : ([] : List Int) = Bg.oD ((Bg.RtB a_Sign a_Digits ∧ Bg.RtB b_Sign b_Digits) ∧ b_Sign ≠ 0) (Bg.fmo (Bg.zv a_Sign a_Digits) (Bg.zv b_Sign b_Digits)) := (Bg.oD_n (fun h => h.2 hz0) _).symm
    rw [← e3]
    have e0 : (0 : Int) = Bg.oS ((Bg.RtB a_Sign a_Digits ∧ Bg.RtB b_Sign b_Digits) ∧ b_Sign ≠ 0) (Bg.flo (Bg.zv a_Sign a_Digits) (Bg.zv b_Sign b_Digits)) := (Bg.oS_n (fun h => h.2 hz0) _).symm
    have e2 : (0 : Int) = Bg.oS ((Bg.RtB a_Sign a_Digits ∧ Bg.RtB b_Sign b_Digits) ∧ b_Sign ≠ 0) (Bg.fmo (Bg.zv a_Sign a_Digits) (Bg.zv b_Sign b_Digits)) := (Bg.oS_n (fun h => h.2 hz0) _).symm
    have e4 : (15 : Int) = if ¬ (Bg.RtB a_Sign a_Digits ∧ Bg.RtB b_Sign b_Digits) then (1 : Int) else if b_Sign = 0 then 15 else 0 := by rw [if_neg (fun h => h hRR), if_pos hz0]
    exact V.ret [2, 3, 0] [{}, {}] [fun _ => {}, fun _ => {}] [] [2, 3] [] (.tuple #[ag (DBig.mk 0 ⟨([] : List Int), {}⟩), ag (DBig.mk 0 ⟨([] : List Int), {}⟩), iv 15]) (fun _ _ => by kernel_rfl) (fun _ _ => (Eq.trans (by kernel_rfl) (cong3 (fun (x0 : Int) (x2 : Int) (x4 : Int) => (.tuple #[.agg #[iv x0, SV.v ({})], .agg #[iv x2, SV.v ({})], iv x4] : Value)) e0 e2 e4)).trans (by kernel_rfl)) (fun _ _ => trivial)
  have hz0 : ¬ b_Sign = 0 := q4
  have hPD : ((Bg.RtB a_Sign a_Digits ∧ Bg.RtB b_Sign b_Digits) ∧ b_Sign ≠ 0) := ⟨hRR, hz0⟩
  have hnz := Bg.nv_pos hRR.2 hz0
  have hml := Nat.mod_lt (Bg.nv a_Digits) (Nat.pos_of_ne_zero hnz.1)
  have hmle : Bg.nv (Bg.dig (Bg.nv a_Digits % Bg.nv b_Digits)) ≤ Bg.nv b_Digits := by rw [Bg.nv_dig]; omega
  have hll1 := Bg.dig_len_mono' (Nat.div_le_self (Bg.nv a_Digits) (Bg.nv b_Digits)); have hll2 := Bg.dig_len_mono' (Nat.mod_le (Bg.nv a_Digits) (Bg.nv b_Digits)); have hll3 := Bg.dig_le hRR.1.dg
  refine nm (Bg.dig (Bg.nv a_Digits / Bg.nv b_Digits) : List Int) fun l1 hl1 => ?_
  have hl1n := congrArg List.length hl1
  refine nm (Bg.dig (Bg.nv a_Digits % Bg.nv b_Digits) : List Int) fun l2 hl2 => ?_
  have hl2n := congrArg List.length hl2
  refine V.r [.k (pp ((G1 0).b) 1),.ld 0 1 false (fun _ => [a_Digitss.v]),.k (pp ((G1 1).b) 1),.ld 1 1 false (fun _ => [b_Digitss.v]),.ct g0 4 98 false [] [] [(kf false (.f 0) a_Digits (fun _ => a_Digitss)).a, (kf false (.f 1) b_Digits (fun _ => b_Digitss)).a] (fun _ G => div_ctv a_Digits a_Digitss b_Digits b_Digitss hRR.1.dg hRR.2.dg hRR.1.nz hRR.2.nz hnz.2 (by omega) (by omega) l1 hl1 l2 hl2),.v fun G => .tuple #[((G 4).ss 0).v, ((G 4).ss 1).v],.v fun G => ((G 4).ss 0).v,.v fun G => ((G 4).ss 1).v,.v fun G => ((G 4).ss 0).v,.v fun G => ((G 4).ss 1).v] fun _ _ G6 kw6 => ?_
  intro S_ s_
  obtain ⟨⟨kl3, -⟩, ⟨kl4, -⟩, -⟩ : Lq l1 (((G6 4).ss 0).v) ∧ Lq l2 (((G6 4).ss 1).v) ∧ True := kn kw6 (by kernel_rfl)
  clear kw6
  refine nm (a_Sign * b_Sign : Int) fun n1 hn1 => ?_
  refine nm ((decide (n1 < 0)) && (decide (0 < (l2.length : Int))) : Bool) fun p2 hp2 => ?_
  refine V.g [.k (pp ((G1 0).b) 0),.ld 0 0 false (fun _ => [iv a_Sign]),.k (pp ((G1 1).b) 0),.ld 1 0 false (fun _ => [iv b_Sign]),.ar (a_Sign * b_Sign) n1 hn1 (by rw [hn1]; exact hsm.1) (by rw [hn1]; exact hsm.2),.k (bv (decide (n1 < 0))),.k (bv (decide (n1 < 0))),.k (((G6 4).ss 1).v),.ln (kf true (.f 3) l2 (fun _ => (G6 4).ss 1)),.k (bv (decide (0 < (l2.length : Int)))),.andn g0 false (decide (n1 < 0)) (decide (0 < (l2.length : Int))) p2 hp2] fun _ _ G7 => ?_
  intro S_ s_
  refine V.cond (b := p2) (iN hp2 (iAT iDT iDT)) (iN hp2 (iAF iDF iDF)) (by kernel_rfl) (fun q5 => ?_) (fun q6 => ?_)
  · have hng : a_Sign * b_Sign < 0 := by have := q5; omega
    have hr0 : Bg.nv a_Digits % Bg.nv b_Digits ≠ 0 := fun e => by have := q5; subst_vars; rw [e, Bg.dig_zero] at this; simp at this
    refine nm (Bg.dig (Bg.nv l1 + Bg.nv ([1] : List Int)) : List Int) fun l3 hl3 => ?_
    have hl3n := congrArg List.length hl3
    refine nm (Bg.sg0 (Bg.nv l3) (-1 : Int) : Int) fun n2 hn2 => ?_
    refine nm (Bg.dig (Bg.nv l3) : List Int) fun l4 hl4 => ?_
    have hl4n := congrArg List.length hl4
    refine nm (Bg.dig (Bg.nv b_Digits - Bg.nv l2) : List Int) fun l5 hl5 => ?_
    have hl5n := congrArg List.length hl5
    refine nm (Bg.sg0 (Bg.nv l5) b_Sign : Int) fun n3 hn3 => ?_
    refine nm (Bg.dig (Bg.nv l5) : List Int) fun l6 hl6 => ?_
    have hl6n := congrArg List.length hl6
    refine V.r [.k (((G6 4).ss 0).v),.nr 1 true 3 ([1] : List Int) [] (fun _ _ _ _ _ => trivial) (fun _ => #[iv 1]),.ct g0 2 109 false [] [] [(kf true (.f 2) l1 (fun _ => (G6 4).ss 0)).a, (kf true (.g 1 0) ([1] : List Int) (fun G => ⟨atB (G 1).b, 1, 1⟩)).a] (fun _ G => add_ctv l1 ((G6 4).ss 0) ([1] : List Int) ⟨atB (G 1).b, 1, 1⟩ (by subst_vars; exact Bg.dig_Dg _) (Bg.Dg.one (by omega)) (by omega) (by simp) l3 hl3),.ctT g0 3 99 [(kf true (.g 2 0) l3 (fun G => (G 2).ss 0)).a] (fun _ G => signed_ctv (-1 : Int) l3 ((G 2).ss 0) (by subst_vars; exact Bg.dig_Dg _) n2 hn2 l4 hl4),.k (pp ((G1 1).b) 0),.ld 1 0 false (fun _ => [iv b_Sign]),.k (pp ((G1 1).b) 1),.ld 1 1 false (fun _ => [b_Digitss.v]),.k (((G6 4).ss 1).v),.ct g0 9 110 false [] [] [(kf false (.f 1) b_Digits (fun _ => b_Digitss)).a, (kf true (.f 3) l2 (fun _ => (G6 4).ss 1)).a] (fun _ G => sub_ctv b_Digits b_Digitss l2 ((G6 4).ss 1) hRR.2.dg (by subst_vars; exact Bg.dig_Dg _) (by omega) (by omega) (by subst_vars; exact Bg.dig_Nz _) (by subst_vars; exact hmle) l5 hl5),.ctT g0 10 99 [(kf true (.g 9 0) l5 (fun G => (G 9).ss 0)).a] (fun _ G => signed_ctv b_Sign l5 ((G 9).ss 0) (by subst_vars; exact Bg.dig_Dg _) n3 hn3 l6 hl6),.st 2 (fun G => .blk ((G1 2).b) (ca (DBig.mk n2 ⟨l4, (G 3).ss 0⟩)) 28),.st 3 (fun G => .blk ((G1 3).b) (ca (DBig.mk n3 ⟨l6, (G 10).ss 0⟩)) 28),.k (iv 0)] fun _ _ G8 kw8 => ?_
    intro S_ s_
    obtain ⟨⟨kl5, -⟩, ⟨kl6, -⟩, ⟨kl7, -⟩, ⟨kl8, -⟩, ⟨kl9, -⟩, -⟩ : Lq ([1] : List Int) (SV.v ⟨atB (G8 1).b, 1, 1⟩) ∧ Lq l3 (((G8 2).ss 0).v) ∧ Lq l4 (((G8 3).ss 0).v) ∧ Lq l5 (((G8 9).ss 0).v) ∧ Lq l6 (((G8 10).ss 0).v) ∧ True := kn kw8 (by kernel_rfl)
    clear kw8
    have e1 : l4 = Bg.oD ((Bg.RtB a_Sign a_Digits ∧ Bg.RtB b_Sign b_Digits) ∧ b_Sign ≠ 0) (Bg.flo (Bg.zv a_Sign a_Digits) (Bg.zv b_Sign b_Digits)) := by
      rw [hl4, hl3, hl1]
      rw [Bg.oD_y hPD]; exact Bg.dqD hRR.1 hRR.2 hnz.1 hng hr0
    subst e1
    have e3 : l6 = Bg.oD ((Bg.RtB a_Sign a_Digits ∧ Bg.RtB b_Sign b_Digits) ∧ b_Sign ≠ 0) (Bg.fmo (Bg.zv a_Sign a_Digits) (Bg.zv b_Sign b_Digits)) := by
      rw [hl6, hl5, hl2]
      rw [Bg.oD_y hPD]; exact Bg.drD hRR.1 hRR.2 hnz.1 hng hr0
    subst e3
    have e0 : n2 = Bg.oS ((Bg.RtB a_Sign a_Digits ∧ Bg.RtB b_Sign b_Digits) ∧ b_Sign ≠ 0) (Bg.flo (Bg.zv a_Sign a_Digits) (Bg.zv b_Sign b_Digits)) := by
      rw [hn2, hl3, hl1]
      rw [Bg.oS_y hPD]; exact Bg.dqS hRR.1 hRR.2 hnz.1 hng hr0
    have e2 : n3 = Bg.oS ((Bg.RtB a_Sign a_Digits ∧ Bg.RtB b_Sign b_Digits) ∧ b_Sign ≠ 0) (Bg.fmo (Bg.zv a_Sign a_Digits) (Bg.zv b_Sign b_Digits)) := by
      rw [hn3, hl5, hl2]
      rw [Bg.oS_y hPD]; exact Bg.drS hRR.1 hRR.2 hnz.1 hng hr0
    have e4 : (0 : Int) = if ¬ (Bg.RtB a_Sign a_Digits ∧ Bg.RtB b_Sign b_Digits) then (1 : Int) else if b_Sign = 0 then 15 else 0 := by rw [if_neg (fun h => h hRR), if_neg hz0]
    exact V.ret [2, 3, 0] [(G8 3).ss 0, (G8 10).ss 0] [fun _ => {}, fun _ => {}] [] [6, 8] [] (.tuple #[ag (DBig.mk n2 ⟨(Bg.oD ((Bg.RtB a_Sign a_Digits ∧ Bg.RtB b_Sign b_Digits) ∧ b_Sign ≠ 0) (Bg.flo (Bg.zv a_Sign a_Digits) (Bg.zv b_Sign b_Digits))), (G8 3).ss 0⟩), ag (DBig.mk n3 ⟨(Bg.oD ((Bg.RtB a_Sign a_Digits ∧ Bg.RtB b_Sign b_Digits) ∧ b_Sign ≠ 0) (Bg.fmo (Bg.zv a_Sign a_Digits) (Bg.zv b_Sign b_Digits))), (G8 10).ss 0⟩), iv 0]) (fun _ _ => by kernel_rfl) (fun _ _ => (Eq.trans (by kernel_rfl) (cong3 (fun (x0 : Int) (x2 : Int) (x4 : Int) => (.tuple #[.agg #[iv x0, ((G8 3).ss 0).v], .agg #[iv x2, ((G8 10).ss 0).v], iv x4] : Value)) e0 e2 e4)).trans (by kernel_rfl)) (fun _ _ => trivial)
  have hnn : 0 ≤ a_Sign * b_Sign ∨ Bg.nv a_Digits % Bg.nv b_Digits = 0 := by have hqq := q6; rcases hqq with h | h; left; omega; right; exact Bg.len_dig0.1 (by omega)
  refine nm (Bg.sg0 (Bg.nv l1) n1 : Int) fun n4 hn4 => ?_
  refine nm (Bg.dig (Bg.nv l1) : List Int) fun l7 hl7 => ?_
  have hl7n := congrArg List.length hl7
  refine nm (Bg.sg0 (Bg.nv l2) a_Sign : Int) fun n5 hn5 => ?_
  refine nm (Bg.dig (Bg.nv l2) : List Int) fun l8 hl8 => ?_
  have hl8n := congrArg List.length hl8
  refine V.r [.k (pp ((G1 0).b) 0),.ld 0 0 false (fun _ => [iv a_Sign]),.k (pp ((G1 1).b) 0),.ld 1 0 false (fun _ => [iv b_Sign]),.ar (a_Sign * b_Sign) n1 hn1 (by rw [hn1]; exact hsm.1) (by rw [hn1]; exact hsm.2),.k (((G6 4).ss 0).v),.ctT g0 6 99 [(kf true (.f 2) l1 (fun _ => (G6 4).ss 0)).a] (fun _ G => signed_ctv n1 l1 ((G6 4).ss 0) (by subst_vars; exact Bg.dig_Dg _) n4 hn4 l7 hl7),.k (pp ((G1 0).b) 0),.ld 0 0 false (fun _ => [iv a_Sign]),.k (((G6 4).ss 1).v),.ctT g0 10 99 [(kf true (.f 3) l2 (fun _ => (G6 4).ss 1)).a] (fun _ G => signed_ctv a_Sign l2 ((G6 4).ss 1) (by subst_vars; exact Bg.dig_Dg _) n5 hn5 l8 hl8),.st 2 (fun G => .blk ((G1 2).b) (ca (DBig.mk n4 ⟨l7, (G 6).ss 0⟩)) 28),.st 3 (fun G => .blk ((G1 3).b) (ca (DBig.mk n5 ⟨l8, (G 10).ss 0⟩)) 28),.k (iv 0)] fun _ _ G9 kw9 => ?_
  intro S_ s_
  obtain ⟨⟨kl10, -⟩, ⟨kl11, -⟩, -⟩ : Lq l7 (((G9 6).ss 0).v) ∧ Lq l8 (((G9 10).ss 0).v) ∧ True := kn kw9 (by kernel_rfl)
  clear kw9
  have e1 : l7 = Bg.oD ((Bg.RtB a_Sign a_Digits ∧ Bg.RtB b_Sign b_Digits) ∧ b_Sign ≠ 0) (Bg.flo (Bg.zv a_Sign a_Digits) (Bg.zv b_Sign b_Digits)) := by
    rw [hl7, hl1]
    rw [Bg.oD_y hPD]; exact Bg.qD hRR.1 hRR.2 hnz.1 hnn
  subst e1
  have e3 : l8 = Bg.oD ((Bg.RtB a_Sign a_Digits ∧ Bg.RtB b_Sign b_Digits) ∧ b_Sign ≠ 0) (Bg.fmo (Bg.zv a_Sign a_Digits) (Bg.zv b_Sign b_Digits)) := by
    rw [hl8, hl2]
    rw [Bg.oD_y hPD]; exact Bg.rD hRR.1 hRR.2 hnz.1 hnn
  subst e3
  have e0 : n4 = Bg.oS ((Bg.RtB a_Sign a_Digits ∧ Bg.RtB b_Sign b_Digits) ∧ b_Sign ≠ 0) (Bg.flo (Bg.zv a_Sign a_Digits) (Bg.zv b_Sign b_Digits)) := by
    rw [hn4, hn1, hl1]
    rw [Bg.oS_y hPD]; exact Bg.qS hRR.1 hRR.2 hnz.1 hnn
  have e2 : n5 = Bg.oS ((Bg.RtB a_Sign a_Digits ∧ Bg.RtB b_Sign b_Digits) ∧ b_Sign ≠ 0) (Bg.fmo (Bg.zv a_Sign a_Digits) (Bg.zv b_Sign b_Digits)) := by
    rw [hn5, hl2]
    rw [Bg.oS_y hPD]; exact Bg.rS hRR.1 hRR.2 hnz.1 hnn
  have e4 : (0 : Int) = if ¬ (Bg.RtB a_Sign a_Digits ∧ Bg.RtB b_Sign b_Digits) then (1 : Int) else if b_Sign = 0 then 15 else 0 := by rw [if_neg (fun h => h hRR), if_neg hz0]
  exact V.ret [2, 3, 0] [(G9 6).ss 0, (G9 10).ss 0] [fun _ => {}, fun _ => {}] [] [4, 5] [] (.tuple #[ag (DBig.mk n4 ⟨(Bg.oD ((Bg.RtB a_Sign a_Digits ∧ Bg.RtB b_Sign b_Digits) ∧ b_Sign ≠ 0) (Bg.flo (Bg.zv a_Sign a_Digits) (Bg.zv b_Sign b_Digits))), (G9 6).ss 0⟩), ag (DBig.mk n5 ⟨(Bg.oD ((Bg.RtB a_Sign a_Digits ∧ Bg.RtB b_Sign b_Digits) ∧ b_Sign ≠ 0) (Bg.fmo (Bg.zv a_Sign a_Digits) (Bg.zv b_Sign b_Digits))), (G9 10).ss 0⟩), iv 0]) (fun _ _ => by kernel_rfl) (fun _ _ => (Eq.trans (by kernel_rfl) (cong3 (fun (x0 : Int) (x2 : Int) (x4 : Int) => (.tuple #[.agg #[iv x0, ((G9 6).ss 0).v], .agg #[iv x2, ((G9 10).ss 0).v], iv x4] : Value)) e0 e2 e4)).trans (by kernel_rfl)) (fun _ _ => trivial)
theorem Div_ctv (a_Sign : Int) (a_Digits : List Int) (a_Digitss : SV) (b_Sign : Int) (b_Digits : List Int) (b_Digitss : SV) (hla : a_Digits.length ≤ 274877906944) (hlb : b_Digits.length ≤ 274877906944) (rv0 : Int) (erv0 : rv0 = Bg.oS ((Bg.RtB a_Sign a_Digits ∧ Bg.RtB b_Sign b_Digits) ∧ b_Sign ≠ 0) (Bg.flo (Bg.zv a_Sign a_Digits) (Bg.zv b_Sign b_Digits))) (rv1 : List Int) (erv1 : rv1 = Bg.oD ((Bg.RtB a_Sign a_Digits ∧ Bg.RtB b_Sign b_Digits) ∧ b_Sign ≠ 0) (Bg.flo (Bg.zv a_Sign a_Digits) (Bg.zv b_Sign b_Digits))) (rv2 : Int) (erv2 : rv2 = Bg.oS ((Bg.RtB a_Sign a_Digits ∧ Bg.RtB b_Sign b_Digits) ∧ b_Sign ≠ 0) (Bg.fmo (Bg.zv a_Sign a_Digits) (Bg.zv b_Sign b_Digits))) (rv3 : List Int) (erv3 : rv3 = Bg.oD ((Bg.RtB a_Sign a_Digits ∧ Bg.RtB b_Sign b_Digits) ∧ b_Sign ≠ 0) (Bg.fmo (Bg.zv a_Sign a_Digits) (Bg.zv b_Sign b_Digits))) (rv4 : Int) (erv4 : rv4 = if ¬ (Bg.RtB a_Sign a_Digits ∧ Bg.RtB b_Sign b_Digits) then (1 : Int) else if b_Sign = 0 then 15 else 0) :
    Ct Try.prog 94 #[ag (DBig.mk a_Sign ⟨a_Digits, a_Digitss⟩), ag (DBig.mk b_Sign ⟨b_Digits, b_Digitss⟩)] [fs true a_Digits a_Digitss, fs true b_Digits b_Digitss] [] (fun g => .tuple #[ag (DBig.mk rv0 ⟨rv1, (g.ss 0)⟩), ag (DBig.mk rv2 ⟨rv3, (g.ss 1)⟩), iv rv4]) (fun g => [fs true rv1 (g.ss 0), fs true rv3 (g.ss 1)]) (fun g => []) (fun g => []) := by
  subst erv0 erv1 erv2 erv3 erv4; exact Div_ct a_Sign a_Digits a_Digitss b_Sign b_Digits b_Digitss hla hlb

namespace Fr
open Bg
def FrB (ps : Int) (pd : List Int) (qs : Int) (qd : List Int) : Prop := RtB ps pd ∧ RtB qs qd ∧ qs = 1 ∧ Nat.gcd (nv pd) (nv qd) = 1
instance (ps : Int) (pd : List Int) (qs : Int) (qd : List Int) : Decidable (FrB ps pd qs qd) := by unfold FrB; infer_instance
def fq (ps : Int) (pd : List Int) (qd : List Int) : Rat := mkRat (zv ps pd) (nv qd)
def rS (p : Prop) [Decidable p] (r : Rat) : Int := if p then sgn r.num else 0
def rD (p : Prop) [Decidable p] (r : Rat) : List Int := if p then dig r.num.natAbs else []
def rT (p : Prop) [Decidable p] : Int := if p then 1 else 0
def rE (p : Prop) [Decidable p] (r : Rat) : List Int := if p then dig r.den else []
section
variable {p : Prop} [Decidable p]
theorem rS_y (h : p) (r : Rat) : rS p r = sgn r.num := if_pos h
theorem rD_y (h : p) (r : Rat) : rD p r = dig r.num.natAbs := if_pos h
theorem rT_y (h : p) : rT p = 1 := if_pos h
theorem rE_y (h : p) (r : Rat) : rE p r = dig r.den := if_pos h
theorem rS_n (h : ¬ p) (r : Rat) : rS p r = 0 := if_neg h
theorem rD_n (h : ¬ p) (r : Rat) : rD p r = [] := if_neg h
theorem rT_n (h : ¬ p) : rT p = 0 := if_neg h
theorem rE_n (h : ¬ p) (r : Rat) : rE p r = [] := if_neg h
end
section
variable {ps qs : Int} {pd qd : List Int}
theorem FrB.q0 (h : FrB ps pd qs qd) : nv qd ≠ 0 := by
  obtain ⟨h1, h2, h3, h4⟩ := h
  rcases h2.cases with ⟨_, e⟩ | ⟨e, _⟩ | ⟨e, _⟩ <;> omega
theorem FrB.q1 (h : FrB ps pd qs qd) : zv qs qd = (nv qd : Int) := by
  obtain ⟨_, _, h3, _⟩ := h
  subst h3; unfold zv; omega
theorem FrB.is (h : FrB ps pd qs qd) : (fq ps pd qd).num = zv ps pd ∧ (fq ps pd qd).den = nv qd := by
  have hq := h.q0
  obtain ⟨h1, h2, h3, h4⟩ := h
  have hc : (zv ps pd).natAbs.Coprime (nv qd) := by rw [h1.abs]; exact h4
  have e : fq ps pd qd = ⟨zv ps pd, nv qd, hq, hc⟩ := (Rat.mk_eq_mkRat _ _ hq hc).symm
  rw [e]; exact ⟨rfl, rfl⟩
theorem FrB.num (h : FrB ps pd qs qd) : (fq ps pd qd).num = zv ps pd := h.is.1
theorem FrB.den (h : FrB ps pd qs qd) : (fq ps pd qd).den = nv qd := h.is.2
theorem FrB.eqs (h : FrB ps pd qs qd) : ps = sgn (fq ps pd qd).num ∧ pd = dig (fq ps pd qd).num.natAbs ∧ qs = 1 ∧ qd = dig (fq ps pd qd).den := by
  rw [h.num, h.den]
  exact ⟨h.1.sg.symm, h.1.eqd, h.2.2.1, h.2.1.eq⟩
theorem FrB.of (r : Rat) : FrB (sgn r.num) (dig r.num.natAbs) 1 (dig r.den) :=
  ⟨RtB.of _, RtB.of1 r.den_nz, rfl, by rw [nv_dig, nv_dig]; exact r.reduced⟩
theorem fq_of (r : Rat) : fq (sgn r.num) (dig r.num.natAbs) (dig r.den) = r := by
  unfold fq; rw [zv_of, nv_dig]; exact Rat.mkRat_self r
theorem FrB.inj {ps' qs' : Int} {pd' qd' : List Int} (h : FrB ps pd qs qd) (k : FrB ps' pd' qs' qd') (e : fq ps pd qd = fq ps' pd' qd') : ps = ps' ∧ pd = pd' ∧ qs = qs' ∧ qd = qd' := by
  obtain ⟨a1, a2, a3, a4⟩ := h.eqs
  obtain ⟨b1, b2, b3, b4⟩ := k.eqs
  rw [e] at a1 a2 a4
  exact ⟨a1.trans b1.symm, a2.trans b2.symm, a3.trans b3.symm, a4.trans b4.symm⟩
theorem FrB.r {p : Prop} [Decidable p] (h : p) (r : Rat) : FrB (rS p r) (rD p r) (rT p) (rE p r) := by
  rw [rS_y h, rD_y h, rT_y h, rE_y h]; exact FrB.of r
theorem fq_r {p : Prop} [Decidable p] (h : p) (r : Rat) : fq (rS p r) (rD p r) (rE p r) = r := by
  rw [rS_y h, rD_y h, rE_y h]; exact fq_of r
theorem FrB.no : ¬ FrB 0 [] 0 [] := fun h => by have := h.2.2.1; omega
end
def Hb (r : Rat) (k : Nat) : Prop := r.num.natAbs < 1048576 ^ k ∧ r.den < 1048576 ^ k
theorem Hb.len {r : Rat} {k : Nat} (h : Hb r k) : (dig r.num.natAbs).length ≤ k ∧ (dig r.den).length ≤ k := ⟨dig_lt h.1, dig_lt h.2⟩
theorem FrB.hb {ps qs : Int} {pd qd : List Int} (h : FrB ps pd qs qd) {k : Nat} (h1 : pd.length ≤ k) (h2 : qd.length ≤ k) : Hb (fq ps pd qd) k := by
  unfold Hb; rw [h.num, h.den, h.1.abs]
  exact ⟨Nat.lt_of_lt_of_le (nv_lt h.1.dg) (Nat.pow_le_pow_right (by omega) h1), Nat.lt_of_lt_of_le (nv_lt h.2.1.dg) (Nat.pow_le_pow_right (by omega) h2)⟩
theorem Hb.mono {r : Rat} {k m : Nat} (h : Hb r k) (e : k ≤ m) : Hb r m :=
  ⟨Nat.lt_of_lt_of_le h.1 (Nat.pow_le_pow_right (by omega) e), Nat.lt_of_lt_of_le h.2 (Nat.pow_le_pow_right (by omega) e)⟩
theorem plt {a b A B : Nat} (h : a < A) (k : b < B) : a * b < A * B := by
  have h1 : a * b ≤ a * B := Nat.mul_le_mul_left a (Nat.le_of_lt k)
  have h2 : a * B < A * B := Nat.mul_lt_mul_of_pos_right h (by omega)
  omega
theorem Hb.pos {r : Rat} {k : Nat} (h : Hb r k) : 0 < k := by
  rcases Nat.eq_zero_or_pos k with rfl | e
  · have h2 : r.den < 1 := h.2
    have := r.den_nz; omega
  · exact e
theorem Hb.mk {n : Int} {d k : Nat} (hk : 0 < k) (h : n.natAbs < 1048576 ^ k) (e : d < 1048576 ^ k) : Hb (mkRat n d) k := by
  have hp := Nat.pow_pos (n := k) (show 0 < 1048576 by omega)
  unfold Hb
  rw [Rat.num_mkRat, Rat.den_mkRat]
  by_cases h0 : d = 0
  · rw [if_pos h0, if_pos h0]
    cases k with
    | zero => omega
    | succ k => refine ⟨hp, ?_⟩; rw [pow_succ']; have := Nat.pow_pos (n := k) (show 0 < 1048576 by omega); omega
  · rw [if_neg h0, if_neg h0]
    refine ⟨Nat.lt_of_le_of_lt ?_ h, Nat.lt_of_le_of_lt (Nat.div_le_self _ _) e⟩
    exact Int.natAbs_ediv_le_natAbs _ _
theorem Hb.divI {n d : Int} {k : Nat} (hk : 0 < k) (h : n.natAbs < 1048576 ^ k) (e : d.natAbs < 1048576 ^ k) : Hb (Rat.divInt n d) k := by
  rcases Int.lt_or_le d 0 with hd | hd
  · have : Rat.divInt n d = mkRat (-n) d.natAbs := by
      rw [← Rat.divInt_ofNat, ← Rat.neg_divInt_neg, show -d = (d.natAbs : Int) by omega]
    rw [this]; exact Hb.mk hk (by rw [Int.natAbs_neg]; exact h) e
  · have : Rat.divInt n d = mkRat n d.natAbs := by rw [← Rat.divInt_ofNat, show d = (d.natAbs : Int) by omega]; rfl
    rw [this]; exact Hb.mk hk h e
theorem Hb.mul {a b : Rat} {i j : Nat} (h : Hb a i) (k : Hb b j) : Hb (a * b) (i + j) := by
  rw [Rat.mul_def']
  have := h.pos
  refine Hb.mk (by omega) ?_ ?_ <;> rw [Nat.pow_add]
  · rw [Int.natAbs_mul]; exact plt h.1 k.1
  · exact plt h.2 k.2
theorem div_is (a b : Rat) : a / b = Rat.divInt (a.num * b.den) (a.den * b.num) := by
  rw [Rat.div_def, Rat.inv_def]
  conv => lhs; rw [← Rat.num_divInt_den a]
  exact Rat.divInt_mul_divInt _ _
theorem Hb.div {a b : Rat} {i j : Nat} (h : Hb a i) (k : Hb b j) : Hb (a / b) (i + j) := by
  rw [div_is]
  have := h.pos
  refine Hb.divI (by omega) ?_ ?_ <;> rw [Nat.pow_add, Int.natAbs_mul, Int.natAbs_natCast]
  · exact plt h.1 k.2
  · exact plt h.2 k.1
theorem Hb.neg {a : Rat} {i : Nat} (h : Hb a i) : Hb (-a) i := by
  unfold Hb; rw [Rat.neg_num, Rat.neg_den, Int.natAbs_neg]; exact h
theorem Hb.add {a b : Rat} {i j : Nat} (h : Hb a i) (k : Hb b j) : Hb (a + b) (i + j + 1) := by
  rw [Rat.add_def']
  have h1 := plt h.1 k.2; have h2 := plt k.1 h.2; have h3 := plt h.2 k.2
  rw [← Nat.pow_add] at h1 h3
  rw [← Nat.pow_add, Nat.add_comm j i] at h2
  have hp : 1048576 ^ (i + j + 1) = 1048576 * 1048576 ^ (i + j) := pow_succ' _
  refine Hb.mk (by omega) ?_ (by omega)
  have h4 := Int.natAbs_add_le (a.num * (b.den : Int)) (b.num * (a.den : Int))
  rw [Int.natAbs_mul, Int.natAbs_mul, Int.natAbs_natCast, Int.natAbs_natCast] at h4
  omega
theorem Hb.sub {a b : Rat} {i j : Nat} (h : Hb a i) (k : Hb b j) : Hb (a - b) (i + j + 1) := by
  rw [Rat.sub_eq_add_neg]; exact h.add k.neg
theorem Hb.int {n : Int} (h : -9223372036854775808 ≤ n ∧ n ≤ 9223372036854775807) : Hb (n : Rat) 4 := by
  unfold Hb; rw [Rat.num_intCast, Rat.den_intCast]
  have : (1048576 : Nat) ^ 4 = 1208925819614629174706176 := by decide
  omega
def cmpQ (a b : Rat) : Int := if a < b then -1 else if a = b then 0 else 1
theorem cmpQ_is (a b : Rat) : cmpI (a.num * b.den) (b.num * a.den) = cmpQ a b := by
  unfold cmpI cmpQ
  by_cases h : a < b
  · rw [if_pos h, if_pos ((Rat.lt_iff a b).1 h)]
  · rw [if_neg h, if_neg fun k => h ((Rat.lt_iff a b).2 k)]
    by_cases e : a = b
    · rw [if_pos e, if_pos (Rat.eq_iff_mul_eq_mul.1 e)]
    · rw [if_neg e, if_neg fun k => e (Rat.eq_iff_mul_eq_mul.2 k)]
theorem red {n d : Int} (hd : 0 < d) : (Rat.divInt n d).num = n / (Nat.gcd n.natAbs d.natAbs : Int) ∧ ((Rat.divInt n d).den : Int) = d / (Nat.gcd n.natAbs d.natAbs : Int) := by
  have e : Rat.divInt n d = mkRat n d.natAbs := by rw [← Rat.divInt_ofNat, show d = (d.natAbs : Int) by omega]; rfl
  rw [e, Rat.num_mkRat, Rat.den_mkRat, if_neg (by omega), if_neg (by omega), Nat.gcd_comm d.natAbs]
  refine ⟨rfl, ?_⟩
  rw [Int.natCast_ediv, show ((d.natAbs : Nat) : Int) = d by omega]
theorem flo_pos {a b : Int} (h : 0 < b) : flo a b = a / b := if_pos h
end Fr

namespace Fr
open Bg
structure Bz (s : Int) (l : List Int) (z : Int) : Prop where
  rt : RtB s l
  v : zv s l = z
section
variable {s t u x y : Int} {l m n : List Int}
theorem RtB.z (h : RtB s l) : Bz s l (zv s l) := ⟨h, rfl⟩
theorem Bz.of {p : Prop} [Decidable p] (h : p) (hs : s = oS p x) (hl : l = oD p x) : Bz s l x := by
  rw [oS_y h] at hs; rw [oD_y h] at hl; subst hs hl
  exact ⟨RtB.of x, zv_of x⟩
theorem Bz.nat (h : Bz s l x) : nv l = x.natAbs := by rw [← h.v, h.rt.abs]
theorem Bz.eqs (h : Bz s l x) : s = sgn x ∧ l = dig x.natAbs := by rw [← h.v]; exact ⟨h.rt.sg.symm, h.rt.eqd⟩
theorem Bz.inj (h : Bz s l x) (k : Bz t m x) : s = t ∧ l = m := ⟨h.eqs.1.trans k.eqs.1.symm, h.eqs.2.trans k.eqs.2.symm⟩
theorem Bz.lt (h : Bz s l x) : x.natAbs < 1048576 ^ l.length := by rw [← h.nat]; exact nv_lt h.rt.dg
theorem Bz.len (h : Bz s l x) {k : Nat} (e : x.natAbs < 1048576 ^ k) : l.length ≤ k := by rw [h.eqs.2]; exact dig_lt e
theorem Bz.pos (h : Bz s l x) (e : 0 < s) : 0 < x := by
  rcases h.rt.cases with ⟨_, e'⟩ | ⟨a, e'⟩ | ⟨_, e'⟩
  · omega
  · have := h.v; unfold zv at this; subst e'; omega
  · omega
theorem Bz.neg0 (h : Bz s l x) (e : s < 0) : x < 0 := by
  rcases h.rt.cases with ⟨_, e'⟩ | ⟨a, e'⟩ | ⟨a, e'⟩
  · omega
  · omega
  · have := h.v; unfold zv at this; subst e'; omega
theorem Bz.ne (h : Bz s l x) : s ≠ 0 ↔ x ≠ 0 := by
  rcases h.rt.cases with ⟨a, e'⟩ | ⟨a, e'⟩ | ⟨a, e'⟩ <;> have := h.v <;> unfold zv at this <;> subst e' <;> omega
theorem Bz.mul (a : Bz s l x) (b : Bz t m y) (hs : u = oS (RtB s l ∧ RtB t m) (zv s l * zv t m)) (hl : n = oD (RtB s l ∧ RtB t m) (zv s l * zv t m)) : Bz u n (x * y) ∧ n.length ≤ l.length + m.length := by
  have h := Bz.of ⟨a.rt, b.rt⟩ hs hl
  rw [a.v, b.v] at h
  refine ⟨h, h.len ?_⟩
  rw [Int.natAbs_mul, Nat.pow_add]; exact plt a.lt b.lt
theorem Bz.add (a : Bz s l x) (b : Bz t m y) (hs : u = oS (RtB s l ∧ RtB t m) (zv s l + zv t m)) (hl : n = oD (RtB s l ∧ RtB t m) (zv s l + zv t m)) : Bz u n (x + y) ∧ n.length ≤ l.length + m.length + 1 := by
  have h := Bz.of ⟨a.rt, b.rt⟩ hs hl
  rw [a.v, b.v] at h
  refine ⟨h, h.len ?_⟩
  have h1 := Nat.lt_of_lt_of_le a.lt (Nat.pow_le_pow_right (n := 1048576) (by omega) (Nat.le_add_right l.length m.length))
  have h2 := Nat.lt_of_lt_of_le b.lt (Nat.pow_le_pow_right (n := 1048576) (by omega) (Nat.le_add_left m.length l.length))
  rw [pow_succ']
  have := Int.natAbs_add_le x y
  omega
theorem Bz.neg (a : Bz s l x) (hs : u = oS (RtB s l) (-zv s l)) (hl : n = oD (RtB s l) (-zv s l)) : Bz u n (-x) ∧ n.length = l.length := by
  have h := Bz.of a.rt hs hl
  rw [a.v] at h
  refine ⟨h, ?_⟩
  rw [h.eqs.2, a.eqs.2, Int.natAbs_neg]
theorem Bz.int {k : Int} (hs : u = sgn k) (hl : n = dig k.natAbs) : Bz u n k := by subst hs hl; exact ⟨RtB.of k, zv_of k⟩
theorem Bz.int_len {k : Int} (h : Bz u n k) (hk : -9223372036854775808 ≤ k ∧ k ≤ 9223372036854775807) : n.length ≤ 4 := by
  refine h.len ?_
  have : (1048576 : Nat) ^ 4 = 1208925819614629174706176 := by decide
  omega
theorem Bz.gcd (a : Bz s l x) (b : Bz t m y) (hs : u = oS (RtB s l ∧ RtB t m) ((Nat.gcd (nv l) (nv m) : Nat) : Int)) (hl : n = oD (RtB s l ∧ RtB t m) ((Nat.gcd (nv l) (nv m) : Nat) : Int)) : Bz u n ((Nat.gcd x.natAbs y.natAbs : Nat) : Int) := by
  have h := Bz.of ⟨a.rt, b.rt⟩ hs hl
  rw [a.nat, b.nat] at h; exact h
theorem Bz.div (a : Bz s l x) (b : Bz t m y) (hy : 0 < y) (hs : u = oS ((RtB s l ∧ RtB t m) ∧ t ≠ 0) (flo (zv s l) (zv t m))) (hl : n = oD ((RtB s l ∧ RtB t m) ∧ t ≠ 0) (flo (zv s l) (zv t m))) : Bz u n (x / y) := by
  have h := Bz.of ⟨⟨a.rt, b.rt⟩, b.ne.2 (by omega)⟩ hs hl
  rw [a.v, b.v, flo_pos hy] at h; exact h
theorem Bz.gcd_len (a : Bz s l x) (b : Bz t m y) (hy : 0 < y) (h : Bz u n ((Nat.gcd x.natAbs y.natAbs : Nat) : Int)) : n.length ≤ m.length := by
  refine h.len (Nat.lt_of_le_of_lt ?_ b.lt)
  rw [Int.natAbs_natCast]; exact Nat.le_of_dvd (by omega) (Nat.gcd_dvd_right _ _)
theorem Bz.inI (h : Bz s l x) : Bg.inI s l ↔ -9223372036854775808 ≤ x ∧ x ≤ 9223372036854775807 := by
  unfold Bg.inI; rw [h.v]; exact ⟨fun k => k.2, fun k => ⟨h.rt, k⟩⟩
theorem Bz.intV (h : Bz s l x) (k : -9223372036854775808 ≤ x ∧ x ≤ 9223372036854775807) : Bg.intV s l = x := by
  rw [intV_y (h.inI.2 k), h.v]
theorem one_is (h : Bz s l x) : Bg.intV s l = 1 ↔ x = 1 := by
  unfold Bg.intV
  by_cases k : Bg.inI s l
  · rw [if_pos k, h.v]
  · rw [if_neg k]
    exact ⟨fun e => by omega, fun e => (k (h.inI.2 (by omega))).elim⟩
end
structure Fz (ps : Int) (pd : List Int) (qs : Int) (qd : List Int) (r : Rat) : Prop where
  rt : FrB ps pd qs qd
  v : fq ps pd qd = r
section
variable {ps qs : Int} {pd qd : List Int} {r r' : Rat}
theorem FrB.z (h : FrB ps pd qs qd) : Fz ps pd qs qd (fq ps pd qd) := ⟨h, rfl⟩
theorem Fz.of {p : Prop} [Decidable p] (h : p) (e1 : ps = rS p r) (e2 : pd = rD p r) (e3 : qs = rT p) (e4 : qd = rE p r) : Fz ps pd qs qd r := by
  subst e1 e2 e3 e4; exact ⟨FrB.r h r, fq_r h r⟩
theorem Fz.p (h : Fz ps pd qs qd r) : Bz ps pd r.num := ⟨h.rt.1, by rw [← h.v, h.rt.num]⟩
theorem Fz.q (h : Fz ps pd qs qd r) : Bz qs qd (r.den : Int) := ⟨h.rt.2.1, by rw [← h.v, h.rt.den, h.rt.q1]⟩
theorem Fz.eqs (h : Fz ps pd qs qd r) : ps = sgn r.num ∧ pd = dig r.num.natAbs ∧ qs = 1 ∧ qd = dig r.den := by rw [← h.v]; exact h.rt.eqs
theorem Fz.ret {p : Prop} [Decidable p] (h : Fz ps pd qs qd r) (hp : p) (e : r = r') : ps = rS p r' ∧ pd = rD p r' ∧ qs = rT p ∧ qd = rE p r' := by
  rw [rS_y hp, rD_y hp, rT_y hp, rE_y hp, ← e]; exact h.eqs
theorem Fz.no {p : Prop} [Decidable p] (hp : ¬ p) (r' : Rat) : 0 = rS p r' ∧ [] = rD p r' ∧ 0 = rT p ∧ [] = rE p r' := by
  rw [rS_n hp, rD_n hp, rT_n hp, rE_n hp]; exact ⟨rfl, rfl, rfl, rfl⟩
theorem Fz.inj {ps' qs' : Int} {pd' qd' : List Int} (h : Fz ps pd qs qd r) (k : Fz ps' pd' qs' qd' r) : ps = ps' ∧ pd = pd' ∧ qs = qs' ∧ qd = qd' := h.rt.inj k.rt (h.v.trans k.v.symm)
theorem Fz.iff {ps' qs' : Int} {pd' qd' : List Int} (h : Fz ps pd qs qd r) (k : Fz ps' pd' qs' qd' r') : (ps = ps' ∧ pd = pd' ∧ qs = qs' ∧ qd = qd') ↔ r = r' := by
  refine ⟨fun e => ?_, fun e => by subst e; exact h.inj k⟩
  obtain ⟨rfl, rfl, rfl, rfl⟩ := e
  rw [← h.v, ← k.v]
theorem Fz.hb (h : Fz ps pd qs qd r) {k : Nat} (h1 : pd.length ≤ k) (h2 : qd.length ≤ k) : Hb r k := by rw [← h.v]; exact h.rt.hb h1 h2
theorem Fz.len (h : Fz ps pd qs qd r) {k : Nat} (e : Hb r k) : pd.length ≤ k ∧ qd.length ≤ k := ⟨h.p.len e.1, h.q.len (by rw [Int.natAbs_natCast]; exact e.2)⟩
theorem Fz.den (h : Fz ps pd qs qd r) : (r.den : Int) ≠ 0 := by have := r.den_nz; omega
end
section
variable {s t x y ps qs : Int} {l m pd qd : List Int}
theorem new_fin {gs sa sb : Int} {gd ad bd : List Int} (a : Bz s l x) (b : Bz t m y) (hy : 0 < y) (g : Bz gs gd ((Nat.gcd x.natAbs y.natAbs : Nat) : Int)) (ha : Bz sa ad (x / (Nat.gcd x.natAbs y.natAbs : Nat))) (hb : Bz sb bd (y / (Nat.gcd x.natAbs y.natAbs : Nat))) : Fz sa ad sb bd (Rat.divInt x y) := by
  obtain ⟨e1, e2⟩ := red (n := x) hy
  rw [← e1] at ha; rw [← e2] at hb
  obtain ⟨h1, h2⟩ := ha.eqs
  obtain ⟨h3, h4⟩ := hb.eqs
  have hd : sgn ((Rat.divInt x y).den : Int) = 1 := by
    have := (Rat.divInt x y).den_nz
    unfold sgn; rw [if_neg (by omega), if_neg (by omega)]
  rw [hd] at h3; rw [Int.natAbs_natCast] at h4
  subst h1 h2 h3 h4
  exact ⟨FrB.of _, fq_of _⟩
theorem new_is (a : Bz s l x) (b : Bz t m y) (hy : y ≠ 0) (e1 : ps = rS ((RtB s l ∧ RtB t m) ∧ t ≠ 0) (Rat.divInt (zv s l) (zv t m))) (e2 : pd = rD ((RtB s l ∧ RtB t m) ∧ t ≠ 0) (Rat.divInt (zv s l) (zv t m)))
    (e3 : qs = rT ((RtB s l ∧ RtB t m) ∧ t ≠ 0)) (e4 : qd = rE ((RtB s l ∧ RtB t m) ∧ t ≠ 0) (Rat.divInt (zv s l) (zv t m))) : Fz ps pd qs qd (Rat.divInt x y) := by
  have h := Fz.of ⟨⟨a.rt, b.rt⟩, b.ne.2 hy⟩ e1 e2 e3 e4
  rw [a.v, b.v] at h; exact h
end
theorem gcd_pos {x y gs : Int} {gd : List Int} (g : Bz gs gd ((Nat.gcd x.natAbs y.natAbs : Nat) : Int)) (hy : 0 < y) : 0 < ((Nat.gcd x.natAbs y.natAbs : Nat) : Int) :=
  Int.natCast_pos.2 (Nat.gcd_pos_of_pos_right _ (by omega))
theorem of_all {s t p q ps qs e : Int} {l m pd qd : List Int} (a : Bz s l p) (b : Bz t m q) (e1 : ps = rS ((RtB s l ∧ RtB t m) ∧ t ≠ 0) (Rat.divInt (zv s l) (zv t m))) (e2 : pd = rD ((RtB s l ∧ RtB t m) ∧ t ≠ 0) (Rat.divInt (zv s l) (zv t m)))
    (e3 : qs = rT ((RtB s l ∧ RtB t m) ∧ t ≠ 0)) (e4 : qd = rE ((RtB s l ∧ RtB t m) ∧ t ≠ 0) (Rat.divInt (zv s l) (zv t m))) (e5 : e = if ¬ (RtB s l ∧ RtB t m) then 1 else if t = 0 then 15 else 0) :
    ps = rS (q ≠ 0) (Rat.divInt p q) ∧ pd = rD (q ≠ 0) (Rat.divInt p q) ∧ qs = rT (q ≠ 0) ∧ qd = rE (q ≠ 0) (Rat.divInt p q) ∧ e = if q = 0 then 15 else 0 := by
  have h0 := b.ne
  rw [if_neg (fun h => h ⟨a.rt, b.rt⟩)] at e5
  by_cases hq : q = 0
  · have ht : t = 0 := Classical.byContradiction fun k => h0.1 k hq
    rw [rS_n (fun h => h.2 ht)] at e1; rw [rD_n (fun h => h.2 ht)] at e2; rw [rT_n (fun h => h.2 ht)] at e3; rw [rE_n (fun h => h.2 ht)] at e4
    rw [if_pos ht] at e5
    rw [rS_n (fun h => h hq), rD_n (fun h => h hq), rT_n (fun h => h hq), rE_n (fun h => h hq), if_pos hq]
    exact ⟨e1, e2, e3, e4, e5⟩
  · have ht : ¬ t = 0 := h0.2 hq
    obtain ⟨a1, a2, a3, a4⟩ := (new_is a b hq e1 e2 e3 e4).ret (p := q ≠ 0) (r' := Rat.divInt p q) hq rfl
    rw [if_neg ht] at e5; rw [if_neg hq]
    exact ⟨a1, a2, a3, a4, e5⟩
theorem divInt1 (n : Int) : Rat.divInt n 1 = (n : Rat) := Rat.num_divInt_den (n : Rat)
theorem add_is (a b : Rat) : Rat.divInt (a.num * b.den + b.num * a.den) (a.den * b.den) = a + b := by
  rw [Rat.add_def', ← Rat.divInt_ofNat, Int.natCast_mul]
theorem mul_is (a b : Rat) : Rat.divInt (a.num * b.num) (a.den * b.den) = a * b := by
  rw [Rat.mul_def', ← Rat.divInt_ofNat, Int.natCast_mul]
theorem FrB.neg {ps qs : Int} {pd qd : List Int} {u : Int} {n : List Int} {r : Rat} (h : Fz ps pd qs qd r) (hs : u = oS (RtB ps pd) (-zv ps pd)) (hl : n = oD (RtB ps pd) (-zv ps pd)) : Fz u n qs qd (-r) := by
  have k := h.p.neg hs hl
  have e1 := k.1.eqs
  have e2 := h.eqs
  obtain ⟨rfl, rfl⟩ := e1
  obtain ⟨_, _, rfl, rfl⟩ := e2
  exact ⟨FrB.of (-r), fq_of (-r)⟩
theorem sgn_num {r : Rat} : (sgn r.num < 0 ↔ r < 0) ∧ (sgn r.num = 0 ↔ r = 0) ∧ (0 < sgn r.num ↔ 0 < r) := by
  have h1 : r < 0 ↔ r.num < 0 := by rw [Rat.lt_iff]; simp
  have h2 : r = 0 ↔ r.num = 0 := Rat.num_eq_zero.symm
  have h3 : 0 < r ↔ 0 < r.num := by rw [Rat.lt_iff]; simp
  rw [h1, h2, h3]; unfold sgn
  refine ⟨?_, ?_, ?_⟩ <;> split <;> (try split) <;> omega
end Fr
end Kb
