/- Texts for the claim, put together: the calculus of regions, its rules, and contracts of the functions that the law reaches. -/
import Derived.Test.YtpnbgdgjgndicaaZuwf
import Derived.Test.YtpnbgdgjgndicaaZu123a
import Derived.Test.YtpnbgdgjgndicaaZu23a
import Derived.Test.YtpnbgdgjgndicaaZu2a
set_option linter.unusedVariables false
set_option linter.unusedSectionVars false
set_option linter.unusedSimpArgs false
namespace Kb
open Go Go.Proofs
set_option maxRecDepth 10000 in
set_option maxHeartbeats 4000000 in
theorem udims_ct (d0 d1 d2 d3 d4 d5 : Int) (s : ByteArray) (which : Int) (hw : 0 ≤ which ∧ which ≤ 255) :
    Cp Try.prog 3 #[.agg #[iv d0, iv d1, iv d2, iv d3, iv d4, iv d5], tv s, .int .u8 which] [] (bv true) := by
  refine V.fn mo Try.func3 151 8 (by kernel_rfl) fun w H ε k0 => ?_
  clear k0
  refine V.g [.nb 0 0 (fun b => pp b 0) 23 (fun _ => #[iv d0, iv d1, iv d2, iv d3, iv d4, iv d5]),.kb false] fun _ _ G1 => ?_
  intro S_ s_
  refine V.g [.cp g0 0 11 [] (fun _ G => sane9_ct ),.kb true] fun _ _ G2 => ?_
  intro S_ s_
  refine V.g [.k (tv s),.k (iv (s.size : Int)),.k (bv (decide (38 < (s.size : Int))))] fun _ _ G3 => ?_
  intro S_ s_
  refine V.cond (b := decide (38 < (s.size : Int))) iDT iDF (by kernel_rfl) (fun q1 => ?_) (fun q2 => ?_)
  · refine V.g [.kb true,.kb true] fun _ _ G4 => ?_
    intro S_ s_
    exact V.ret [0] [] [] [] [] [] (bv true) (fun _ _ => by kernel_rfl) (fun _ _ => by kernel_rfl) (fun _ _ => trivial)
  refine V.g [.ld 0 0 true (fun _ => [iv d0, iv d1, iv d2, iv d3, iv d4, iv d5]),.cp g0 1 12 [] (fun _ G => dright_ct d0 d1 d2 d3 d4 d5)] fun _ _ G5 => ?_
  intro S_ s_
  refine V.cond (b := decide (Dm.Rt [d0, d1, d2, d3, d4, d5])) iDT iDF (by kernel_rfl) (fun q3 => ?_) (fun q4 => ?_)
  · have hR : Dm.Rt [d0, d1, d2, d3, d4, d5] := q3
    refine nm (Dm.text [d0, d1, d2, d3, d4, d5] : ByteArray) fun t1 ht1 => ?_
    refine nm (Un.dv ((Un.read t1).1) 0 : Int) fun n1 hn1 => ?_
    refine nm (Un.dv ((Un.read t1).1) 1 : Int) fun n2 hn2 => ?_
    refine nm (Un.dv ((Un.read t1).1) 2 : Int) fun n3 hn3 => ?_
    refine nm (Un.dv ((Un.read t1).1) 3 : Int) fun n4 hn4 => ?_
    refine nm (Un.dv ((Un.read t1).1) 4 : Int) fun n5 hn5 => ?_
    refine nm (Un.dv ((Un.read t1).1) 5 : Int) fun n6 hn6 => ?_
    refine nm (Fr.rS (((Un.read t1).1).isSome = true) (Un.fv ((Un.read t1).1)) : Int) fun n7 hn7 => ?_
    refine nm (Fr.rD (((Un.read t1).1).isSome = true) (Un.fv ((Un.read t1).1)) : List Int) fun l1 hl1 => ?_
    have hl1n := congrArg List.length hl1
    refine nm (Fr.rT (((Un.read t1).1).isSome = true) : Int) fun n8 hn8 => ?_
    refine nm (Fr.rE (((Un.read t1).1).isSome = true) (Un.fv ((Un.read t1).1)) : List Int) fun l2 hl2 => ?_
    have hl2n := congrArg List.length hl2
    refine nm ((Un.read t1).2 : Int) fun n9 hn9 => ?_
    have hrt : Un.read t1 = (some ([d0, d1, d2, d3, d4, d5], 1), 0) := by rw [ht1]; exact Un.read_text hR rfl
    have hts : t1.size ≤ 37 := by rw [ht1]; exact Un.text_40 hR rfl
    have e5 : n9 = 0 := by rw [hn9, hrt]
    have e5_0 : n1 = d0 := by rw [hn1, hrt]; rfl
    have e5_1 : n2 = d1 := by rw [hn2, hrt]; rfl
    have e5_2 : n3 = d2 := by rw [hn3, hrt]; rfl
    have e5_3 : n4 = d3 := by rw [hn4, hrt]; rfl
    have e5_4 : n5 = d4 := by rw [hn5, hrt]; rfl
    have e5_5 : n6 = d5 := by rw [hn6, hrt]; rfl
    have z5 := Fr.Fz.of (show (Un.read t1).1.isSome = true by rw [hrt]; rfl) hn7 hl1 hn8 hl2
    rw [show Un.fv (Un.read t1).1 = 1 by rw [hrt]; rfl] at z5
    refine V.r [.ld 0 0 true (fun _ => [iv d0, iv d1, iv d2, iv d3, iv d4, iv d5]),.cp g0 1 14 [] (fun _ G => text_ctv d0 d1 d2 d3 d4 d5 t1 ht1),.ct g0 2 13 false [] [] [] (fun _ G => uread_ctv t1 (by omega) n1 hn1 n2 hn2 n3 hn3 n4 hn4 n5 hn5 n6 hn6 n7 hn7 l1 hl1 n8 hn8 l2 hl2 n9 hn9),.v fun G => .tuple #[.agg #[iv n1, iv n2, iv n3, iv n4, iv n5, iv n6, iv n7, ((G 2).ss 0).v, iv n8, ((G 2).ss 1).v], iv n9],.v fun G => .agg #[iv n1, iv n2, iv n3, iv n4, iv n5, iv n6, iv n7, ((G 2).ss 0).v, iv n8, ((G 2).ss 1).v],.k (iv n9),.nb 6 1 (fun b => pp b 0) 32 (fun _ => #[iv 0, iv 0, iv 0, iv 0, iv 0, iv 0, iv 0, .slice none 0 0, iv 0, .slice none 0 0]),.st 1 (fun G => .blk ((G 6).b) #[iv n1, iv n2, iv n3, iv n4, iv n5, iv n6, iv n7, ((G 2).ss 0).v, iv n8, ((G 2).ss 1).v] 32),.k (iv n9)] fun _ _ G6 kw6 => ?_
    intro S_ s_
    obtain ⟨⟨kl1, -⟩, ⟨kl2, -⟩, -⟩ : Lq l1 (((G6 2).ss 0).v) ∧ Lq l2 (((G6 2).ss 1).v) ∧ True := kn kw6 (by kernel_rfl)
    clear kw6
    refine nm ((!(decide (n9 = 0))) || (!(decide (n1 = d0 ∧ n2 = d1 ∧ n3 = d2 ∧ n4 = d3 ∧ n5 = d4 ∧ n6 = d5))) : Bool) fun p1 hp1 => ?_
    refine nm (Bg.sgn (1 : Int) : Int) fun n10 hn10 => ?_
    refine nm (Bg.dig (1 : Int).natAbs : List Int) fun l3 hl3 => ?_
    have hl3n := congrArg List.length hl3
    refine nm (Bg.dig 1 : List Int) fun l4 hl4 => ?_
    have hl4n := congrArg List.length hl4
    have z6 : Fr.Fz n10 l3 1 l4 (1 : Rat) := by subst_vars; exact Un.intz 1
    have hs6 := Fr.Fz.inj z5 z6
    refine V.g [.k (iv n9),.k (bv (!(decide (n9 = 0)))),.k (bv (!(decide (n9 = 0)))),.k (pp ((G6 6).b) 0),.ld 1 0 true (fun _ => [iv n1, iv n2, iv n3, iv n4, iv n5, iv n6]),.ld 0 0 true (fun _ => [iv d0, iv d1, iv d2, iv d3, iv d4, iv d5]),.aeq true 23 #[iv n1, iv n2, iv n3, iv n4, iv n5, iv n6] #[iv d0, iv d1, iv d2, iv d3, iv d4, iv d5] _ fun w => dim_equal w n1 n2 n3 n4 n5 n6 d0 d1 d2 d3 d4 d5,.orn g0 false (!(decide (n9 = 0))) (!(decide (n1 = d0 ∧ n2 = d1 ∧ n3 = d2 ∧ n4 = d3 ∧ n5 = d4 ∧ n6 = d5))) p1 hp1,.k (bv p1),.k (pp ((G6 6).b) 6),.ld 1 6 true (fun _ => Dat.cells (DFrac.mk (DBig.mk n7 ⟨l1, (G6 2).ss 0⟩) (DBig.mk n8 ⟨l2, (G6 2).ss 1⟩))),.ct (gF (b := p1) (iN hp1 (iOF (iNF iDT) (iNF iDT)))) 11 16 false [] [] [] (fun hg G => r5int_ctv (1 : Int) (by omega) n10 hn10 l3 hl3 l4 hl4),.cp (gF (b := p1) (iN hp1 (iOF (iNF iDT) (iNF iDT)))) 12 15 [(kf true (.f 0) l1 (fun _ => (G6 2).ss 0)).a, (kf true (.f 1) l2 (fun _ => (G6 2).ss 1)).a, (kf true (.g 11 0) l3 (fun G => (G 11).ss 0)).a, (kf true (.g 11 1) l4 (fun G => (G 11).ss 1)).a] (fun hg G => same5t_ct n7 l1 ((G6 2).ss 0) n8 l2 ((G6 2).ss 1) n10 l3 ((G 11).ss 0) (1 : Int) l4 ((G 11).ss 1) hs6),.kb false,.or g0 false p1 false] fun _ _ G7 => ?_
    intro S_ s_
    refine V.cond (b := p1 || false) (iOT (iN hp1 (iOT (iNT iDF) (iNT iDF))) iFT) (iOF (iN hp1 (iOF (iNF iDT) (iNF iDT))) iFF) (by kernel_rfl) (fun q5 => ?_) (fun q6 => ?_)
    · exfalso; have hqq := q5; rcases hqq with (h | h) | h
      · exact h e5
      · exact h ⟨e5_0, e5_1, e5_2, e5_3, e5_4, e5_5⟩
      exact h.elim
    refine nm (Un.dv (Un.sym s) 0 : Int) fun n11 hn11 => ?_
    refine nm (Un.dv (Un.sym s) 1 : Int) fun n12 hn12 => ?_
    refine nm (Un.dv (Un.sym s) 2 : Int) fun n13 hn13 => ?_
    refine nm (Un.dv (Un.sym s) 3 : Int) fun n14 hn14 => ?_
    refine nm (Un.dv (Un.sym s) 4 : Int) fun n15 hn15 => ?_
    refine nm (Un.dv (Un.sym s) 5 : Int) fun n16 hn16 => ?_
    refine nm (Fr.rS ((Un.sym s).isSome = true) (Un.fv (Un.sym s)) : Int) fun n17 hn17 => ?_
    refine nm (Fr.rD ((Un.sym s).isSome = true) (Un.fv (Un.sym s)) : List Int) fun l5 hl5 => ?_
    have hl5n := congrArg List.length hl5
    refine nm (Fr.rT ((Un.sym s).isSome = true) : Int) fun n18 hn18 => ?_
    refine nm (Fr.rE ((Un.sym s).isSome = true) (Un.fv (Un.sym s)) : List Int) fun l6 hl6 => ?_
    have hl6n := congrArg List.length hl6
    refine V.r [.k (tv s),.ct g0 1 17 false [] [] [] (fun _ G => sym9_ctv s n11 hn11 n12 hn12 n13 hn13 n14 hn14 n15 hn15 n16 hn16 n17 hn17 l5 hl5 n18 hn18 l6 hl6),.v fun G => .tuple #[.agg #[iv n11, iv n12, iv n13, iv n14, iv n15, iv n16, iv n17, ((G 1).ss 0).v, iv n18, ((G 1).ss 1).v], bv ((Un.sym s).isSome)],.v fun G => .agg #[iv n11, iv n12, iv n13, iv n14, iv n15, iv n16, iv n17, ((G 1).ss 0).v, iv n18, ((G 1).ss 1).v],.k (bv ((Un.sym s).isSome)),.nb 5 2 (fun b => pp b 0) 32 (fun _ => #[iv 0, iv 0, iv 0, iv 0, iv 0, iv 0, iv 0, .slice none 0 0, iv 0, .slice none 0 0]),.st 2 (fun G => .blk ((G 5).b) #[iv n11, iv n12, iv n13, iv n14, iv n15, iv n16, iv n17, ((G 1).ss 0).v, iv n18, ((G 1).ss 1).v] 32),.k (bv ((Un.sym s).isSome))] fun _ _ G8 kw8 => ?_
    intro S_ s_
    obtain ⟨⟨kl3, -⟩, ⟨kl4, -⟩, -⟩ : Lq l5 (((G8 1).ss 0).v) ∧ Lq l6 (((G8 1).ss 1).v) ∧ True := kn kw8 (by kernel_rfl)
    clear kw8
    refine V.g [.k (bv ((Un.sym s).isSome)),.k (bv (!((Un.sym s).isSome)))] fun _ _ G9 => ?_
    intro S_ s_
    refine V.cond (b := !((Un.sym s).isSome)) (iNT Iff.rfl) (iNF Iff.rfl) (by kernel_rfl) (fun q7 => ?_) (fun q8 => ?_)
    · refine V.g [.kb true,.kb true] fun _ _ G10 => ?_
      intro S_ s_
      exact V.ret [0] [] [] [] [] [] (bv true) (fun _ _ => by kernel_rfl) (fun _ _ => by kernel_rfl) (fun _ _ => trivial)
    have hok : (Un.sym s).isSome = true := by have hqq := q8; first | exact hqq | simpa using hqq
    have hmem : (s, ((Un.sym s).getD ([], 0))) ∈ Un.sl := Un.look_mem (Un.some_of hok)
    have hrs := Un.read_sym _ hmem
    have hrs1 : (Un.read s).1 = Un.sym s := by rw [show Un.read s = _ from hrs]; exact (Un.some_of hok).symm
    have hrs2 : (Un.read s).2 = 0 := by rw [show Un.read s = _ from hrs]
    refine nm (which % 4 : Int) fun n19 hn19 => ?_
    refine V.g [.k (.int .u8 which),.arg g0 which which rfl (fun _ => by omega),.rem g0 which 4 n19 hn19 (fun _ => by omega),.k (iv n19)] fun _ _ G11 => ?_
    intro S_ s_
    refine V.g [.nl 0 3 true 9 ([⟨#[107]⟩, ⟨#[77]⟩, ⟨#[71]⟩, ⟨#[109]⟩] : List ByteArray) [] (fun _ _ _ _ _ => trivial) (fun _ => #[tv ⟨#[107]⟩, tv ⟨#[77]⟩, tv ⟨#[71]⟩, tv ⟨#[109]⟩]),.v fun G => SV.v ⟨atB (G 0).b, 4, 4⟩] fun _ _ G12 => ?_
    intro S_ s_
    refine nm (Bg.sgn (1000 : Int) : Int) fun n20 hn20 => ?_
    refine nm (Bg.dig (1000 : Int).natAbs : List Int) fun l7 hl7 => ?_
    have hl7n := congrArg List.length hl7
    refine nm (Bg.sgn (1000000 : Int) : Int) fun n21 hn21 => ?_
    refine nm (Bg.dig (1000000 : Int).natAbs : List Int) fun l8 hl8 => ?_
    have hl8n := congrArg List.length hl8
    refine nm (Bg.sgn (1000000000 : Int) : Int) fun n22 hn22 => ?_
    refine nm (Bg.dig (1000000000 : Int).natAbs : List Int) fun l9 hl9 => ?_
    have hl9n := congrArg List.length hl9
    have z13_0 : Fr.Fz n20 l7 1 l4 (1000 : Rat) := by subst_vars; exact Un.intz 1000
    have z13_1 : Fr.Fz n21 l8 1 l4 (1000000 : Rat) := by subst_vars; exact Un.intz 1000000
    have z13_2 : Fr.Fz n22 l9 1 l4 (1000000000 : Rat) := by subst_vars; exact Un.intz 1000000000
    refine V.r [.ct g0 0 16 false [] [] [] (fun _ G => r5int_ctv (1000 : Int) (by omega) n20 hn20 l7 hl7 l4 hl4),.ct g0 1 16 false [] [] [] (fun _ G => r5int_ctv (1000000 : Int) (by omega) n21 hn21 l8 hl8 l4 hl4),.ct g0 2 16 false [] [] [] (fun _ G => r5int_ctv (1000000000 : Int) (by omega) n22 hn22 l9 hl9 l4 hl4),.k (pp ((G8 5).b) 6),.ld 2 6 true (fun _ => Dat.cells (DFrac.mk (DBig.mk n17 ⟨l5, (G8 1).ss 0⟩) (DBig.mk n18 ⟨l6, (G8 1).ss 1⟩))),.nlG 5 4 true 30 (fun G => ([DFrac.mk (DBig.mk n20 ⟨l7, (G 0).ss 0⟩) (DBig.mk 1 ⟨l4, (G 0).ss 1⟩), DFrac.mk (DBig.mk n21 ⟨l8, (G 1).ss 0⟩) (DBig.mk 1 ⟨l4, (G 1).ss 1⟩), DFrac.mk (DBig.mk n22 ⟨l9, (G 2).ss 0⟩) (DBig.mk 1 ⟨l4, (G 2).ss 1⟩), DFrac.mk (DBig.mk n17 ⟨l5, (G8 1).ss 0⟩) (DBig.mk n18 ⟨l6, (G8 1).ss 1⟩)] : List DFrac)) 4 (fun _ => rfl) [(kf true (.g 0 0) l7 (fun G => (G 0).ss 0)).a, (kf true (.g 0 1) l4 (fun G => (G 0).ss 1)).a, (kf true (.g 1 0) l8 (fun G => (G 1).ss 0)).a, (kf true (.g 1 1) l4 (fun G => (G 1).ss 1)).a, (kf true (.g 2 0) l9 (fun G => (G 2).ss 0)).a, (kf true (.g 2 1) l4 (fun G => (G 2).ss 1)).a, (kf true (.f 2) l5 (fun _ => (G8 1).ss 0)).a, (kf true (.f 3) l6 (fun _ => (G8 1).ss 1)).a] (fun _ _ h => (List.forall_mem_cons.2 ⟨(And.intro h.1 h.2.1), (List.forall_mem_cons.2 ⟨(And.intro h.2.2.1 h.2.2.2.1), (List.forall_mem_cons.2 ⟨(And.intro h.2.2.2.2.1 h.2.2.2.2.2.1), (List.forall_mem_cons.2 ⟨(And.intro h.2.2.2.2.2.2.1 h.2.2.2.2.2.2.2.1), (List.forall_mem_nil _)⟩)⟩)⟩)⟩)) (fun G => #[iv n20, ((G 0).ss 0).v, iv 1, ((G 0).ss 1).v, iv n21, ((G 1).ss 0).v, iv 1, ((G 1).ss 1).v, iv n22, ((G 2).ss 0).v, iv 1, ((G 2).ss 1).v, iv n17, ((G8 1).ss 0).v, iv n18, ((G8 1).ss 1).v]),.v fun G => SV.v ⟨atB (G 5).b, 4, 4⟩] fun _ _ G13 kw13 => ?_
    intro S_ s_
    obtain ⟨⟨kl5, -⟩, ⟨kl6, -⟩, ⟨kl7, -⟩, ⟨kl8, -⟩, ⟨kl9, -⟩, ⟨kl10, -⟩, -⟩ : Lq l7 (((G13 0).ss 0).v) ∧ Lq l4 (((G13 0).ss 1).v) ∧ Lq l8 (((G13 1).ss 0).v) ∧ Lq l4 (((G13 1).ss 1).v) ∧ Lq l9 (((G13 2).ss 0).v) ∧ Lq l4 (((G13 2).ss 1).v) ∧ Lq ([⟨#[107]⟩, ⟨#[77]⟩, ⟨#[71]⟩, ⟨#[109]⟩] : List ByteArray) (SV.v ⟨atB (G12 0).b, 4, 4⟩) ∧ Lq ([DFrac.mk (DBig.mk n20 ⟨l7, (G13 0).ss 0⟩) (DBig.mk 1 ⟨l4, (G13 0).ss 1⟩), DFrac.mk (DBig.mk n21 ⟨l8, (G13 1).ss 0⟩) (DBig.mk 1 ⟨l4, (G13 1).ss 1⟩), DFrac.mk (DBig.mk n22 ⟨l9, (G13 2).ss 0⟩) (DBig.mk 1 ⟨l4, (G13 2).ss 1⟩), DFrac.mk (DBig.mk n17 ⟨l5, (G8 1).ss 0⟩) (DBig.mk n18 ⟨l6, (G8 1).ss 1⟩)] : List DFrac) (SV.v ⟨atB (G13 5).b, 4, 4⟩) ∧ True := kn kw13 (by kernel_rfl)
    clear kw13
    refine nm (([DFrac.mk (DBig.mk n20 ⟨l7, (G13 0).ss 0⟩) (DBig.mk 1 ⟨l4, (G13 0).ss 1⟩), DFrac.mk (DBig.mk n21 ⟨l8, (G13 1).ss 0⟩) (DBig.mk 1 ⟨l4, (G13 1).ss 1⟩), DFrac.mk (DBig.mk n22 ⟨l9, (G13 2).ss 0⟩) (DBig.mk 1 ⟨l4, (G13 2).ss 1⟩), DFrac.mk (DBig.mk n17 ⟨l5, (G8 1).ss 0⟩) (DBig.mk n18 ⟨l6, (G8 1).ss 1⟩)] : List DFrac) : List DFrac) fun l10 hl10 => ?_
    refine V.alt (fun (zz : List DFrac) => (⟨[(1, tv s), (7, bv true), (10, pp ((G8 5).b) 0), (12, iv n19), (13, SV.v ⟨atB (G12 0).b, 4, 4⟩), (14, SV.v ⟨atB (G13 5).b, 4, 4⟩)], [fs true l1 ((G6 2).ss 0), fs true l2 ((G6 2).ss 1), fs true l5 ((G8 1).ss 0), fs true l6 ((G8 1).ss 1), fs true l7 ((G13 0).ss 0), fs true l4 ((G13 0).ss 1), fs true l8 ((G13 1).ss 0), fs true l4 ((G13 1).ss 1), fs true l9 ((G13 2).ss 0), fs true l4 ((G13 2).ss 1)], [.blk ((G1 0).b) #[iv d0, iv d1, iv d2, iv d3, iv d4, iv d5] 23, .blk ((G6 6).b) #[iv n1, iv n2, iv n3, iv n4, iv n5, iv n6, iv n7, ((G6 2).ss 0).v, iv n8, ((G6 2).ss 1).v] 32, .blk ((G8 5).b) #[iv n11, iv n12, iv n13, iv n14, iv n15, iv n16, iv n17, ((G8 1).ss 0).v, iv n18, ((G8 1).ss 1).v] 32, os true 9 ([⟨#[107]⟩, ⟨#[77]⟩, ⟨#[71]⟩, ⟨#[109]⟩] : List ByteArray) ⟨atB (G12 0).b, 4, 4⟩, os true 30 zz ⟨atB (G13 5).b, 4, 4⟩, .no, .no, .no]⟩ : St)) hl10.symm [0, 1, 2, 3, 4, 5, 6, 7, 8, 9] (by kernel_rfl) ?_
    refine nm (Fr.rS ((1000 : Int) ≠ 0) (Rat.divInt (1 : Int) (1000 : Int)) : Int) fun n23 hn23 => ?_
    refine nm (Fr.rD ((1000 : Int) ≠ 0) (Rat.divInt (1 : Int) (1000 : Int)) : List Int) fun l11 hl11 => ?_
    have hl11n := congrArg List.length hl11
    refine nm (Fr.rT ((1000 : Int) ≠ 0) : Int) fun n24 hn24 => ?_
    refine nm (Fr.rE ((1000 : Int) ≠ 0) (Rat.divInt (1 : Int) (1000 : Int)) : List Int) fun l12 hl12 => ?_
    have hl12n := congrArg List.length hl12
    refine nm (if (1000 : Int) = 0 then (15 : Int) else 0 : Int) fun n25 hn25 => ?_
    refine nm (l10.getD (3 : Int).toNat default : DFrac) fun x1 hx1 => ?_
    have z13_3 := Fr.Fz.of (show (1000 : Int) ≠ 0 by decide) hn23 hl11 hn24 hl12
    refine V.r [.k (SV.v ⟨atB (G13 5).b, 4, 4⟩),.ct g0 1 18 false [] [] [] (fun _ G => r5of_ctv (1 : Int) (1000 : Int) (by omega) (by omega) n23 hn23 l11 hl11 n24 hn24 l12 hl12 n25 hn25),.v fun G => .tuple #[ag (DFrac.mk (DBig.mk n23 ⟨l11, (G 1).ss 0⟩) (DBig.mk n24 ⟨l12, (G 1).ss 1⟩)), iv n25],.v fun G => ag (DFrac.mk (DBig.mk n23 ⟨l11, (G 1).ss 0⟩) (DBig.mk n24 ⟨l12, (G 1).ss 1⟩)),.k (iv n25),.ix g0 (ko true 30 4 l10 (fun _ => ⟨atB (G13 5).b, 4, 4⟩)) 3 (fun _ => ⟨by omega, by rw [hl10]; simp only [List.length_cons, List.length_nil]; omega⟩),.seG g0 6 4 30 true l10 (fun _ => ⟨atB (G13 5).b, 4, 4⟩) (3 : Int) none x1 (fun G => (DFrac.mk (DBig.mk n23 ⟨l11, (G 1).ss 0⟩) (DBig.mk n24 ⟨l12, (G 1).ss 1⟩) : DFrac)) hx1 true (fun _ => ⟨by omega, by rw [hl10]; simp only [List.length_cons, List.length_nil]; omega⟩) (fun _ => rfl) [(kf true (.g 1 0) l11 (fun G => (G 1).ss 0)).a, (kf true (.g 1 1) l12 (fun G => (G 1).ss 1)).a] (fun _ _ ho h => (And.intro h.1 h.2.1))] fun _ _ G14 kw14 => ?_
    intro S_ s_
    obtain ⟨⟨kl11, -⟩, ⟨kl12, -⟩, -⟩ : Lq l11 (((G14 1).ss 0).v) ∧ Lq l12 (((G14 1).ss 1).v) ∧ Lq ([⟨#[107]⟩, ⟨#[77]⟩, ⟨#[71]⟩, ⟨#[109]⟩] : List ByteArray) (SV.v ⟨atB (G12 0).b, 4, 4⟩) ∧ Lq (l10.set (3 : Int).toNat (DFrac.mk (DBig.mk n23 ⟨l11, (G14 1).ss 0⟩) (DBig.mk n24 ⟨l12, (G14 1).ss 1⟩))) (SV.v ⟨atB (G13 5).b, 4, 4⟩) ∧ True := kn kw14 (by kernel_rfl)
    clear kw14
    refine nm (l10.set (3 : Int).toNat (DFrac.mk (DBig.mk n23 ⟨l11, (G14 1).ss 0⟩) (DBig.mk n24 ⟨l12, (G14 1).ss 1⟩)) : List DFrac) fun l13 hl13 => ?_
    refine V.alt (fun (zz : List DFrac) => (⟨[(1, tv s), (7, bv true), (10, pp ((G8 5).b) 0), (12, iv n19), (13, SV.v ⟨atB (G12 0).b, 4, 4⟩), (14, SV.v ⟨atB (G13 5).b, 4, 4⟩)], [fs true l1 ((G6 2).ss 0), fs true l2 ((G6 2).ss 1), fs true l5 ((G8 1).ss 0), fs true l6 ((G8 1).ss 1), fs true l7 ((G13 0).ss 0), fs true l4 ((G13 0).ss 1), fs true l8 ((G13 1).ss 0), fs true l4 ((G13 1).ss 1), fs true l9 ((G13 2).ss 0), fs true l4 ((G13 2).ss 1), fs true l11 ((G14 1).ss 0), fs true l12 ((G14 1).ss 1)], [.blk ((G1 0).b) #[iv d0, iv d1, iv d2, iv d3, iv d4, iv d5] 23, .blk ((G6 6).b) #[iv n1, iv n2, iv n3, iv n4, iv n5, iv n6, iv n7, ((G6 2).ss 0).v, iv n8, ((G6 2).ss 1).v] 32, .blk ((G8 5).b) #[iv n11, iv n12, iv n13, iv n14, iv n15, iv n16, iv n17, ((G8 1).ss 0).v, iv n18, ((G8 1).ss 1).v] 32, os true 9 ([⟨#[107]⟩, ⟨#[77]⟩, ⟨#[71]⟩, ⟨#[109]⟩] : List ByteArray) ⟨atB (G12 0).b, 4, 4⟩, os true 30 zz ⟨atB (G13 5).b, 4, 4⟩, .no, .no, .no]⟩ : St)) hl13.symm [0, 1, 2, 3, 4, 5, 6, 7, 8, 9, 10, 11] (by kernel_rfl) ?_
    have hnl : l13.length = 4 := by rw [hl13, hl10]; rfl
    refine nm (Un.dv ((Un.read s).1) 0 : Int) fun n26 hn26 => ?_
    refine nm (Un.dv ((Un.read s).1) 1 : Int) fun n27 hn27 => ?_
    refine nm (Un.dv ((Un.read s).1) 2 : Int) fun n28 hn28 => ?_
    refine nm (Un.dv ((Un.read s).1) 3 : Int) fun n29 hn29 => ?_
    refine nm (Un.dv ((Un.read s).1) 4 : Int) fun n30 hn30 => ?_
    refine nm (Un.dv ((Un.read s).1) 5 : Int) fun n31 hn31 => ?_
    refine nm (Fr.rS (((Un.read s).1).isSome = true) (Un.fv ((Un.read s).1)) : Int) fun n32 hn32 => ?_
    refine nm (Fr.rD (((Un.read s).1).isSome = true) (Un.fv ((Un.read s).1)) : List Int) fun l14 hl14 => ?_
    have hl14n := congrArg List.length hl14
    refine nm (Fr.rT (((Un.read s).1).isSome = true) : Int) fun n33 hn33 => ?_
    refine nm (Fr.rE (((Un.read s).1).isSome = true) (Un.fv ((Un.read s).1)) : List Int) fun l15 hl15 => ?_
    have hl15n := congrArg List.length hl15
    refine nm ((Un.read s).2 : Int) fun n34 hn34 => ?_
    have e15 : n34 = 0 := by rw [hn34]; exact hrs2
    have hS9 : (n11 = n26 ∧ n12 = n27 ∧ n13 = n28 ∧ n14 = n29 ∧ n15 = n30 ∧ n16 = n31) ∧ n17 = n32 ∧ l5 = l14 ∧ n18 = n33 ∧ l6 = l15 := by rw [hn26, hn27, hn28, hn29, hn30, hn31, hn32, hl14, hn33, hl15, hn11, hn12, hn13, hn14, hn15, hn16, hn17, hl5, hn18, hl6, hrs1]; exact ⟨⟨rfl, rfl, rfl, rfl, rfl, rfl⟩, rfl, rfl, rfl, rfl⟩
    have zb := Fr.Fz.of (show (Un.read s).1.isSome = true by rw [hrs1]; exact hok) hn32 hl14 hn33 hl15
    rw [hrs1] at zb
    have hbk := (Un.sym_ok (Un.some_of hok)).2.2.2
    have hbl := zb.len hbk; have hbl1 := hbl.1; have hbl2 := hbl.2
    refine V.r [.k (tv s),.ct g0 1 13 false [] [] [] (fun _ G => uread_ctv s (by omega) n26 hn26 n27 hn27 n28 hn28 n29 hn29 n30 hn30 n31 hn31 n32 hn32 l14 hl14 n33 hn33 l15 hl15 n34 hn34),.v fun G => .tuple #[.agg #[iv n26, iv n27, iv n28, iv n29, iv n30, iv n31, iv n32, ((G 1).ss 0).v, iv n33, ((G 1).ss 1).v], iv n34],.v fun G => .agg #[iv n26, iv n27, iv n28, iv n29, iv n30, iv n31, iv n32, ((G 1).ss 0).v, iv n33, ((G 1).ss 1).v],.k (iv n34),.nb 5 5 (fun b => pp b 0) 32 (fun _ => #[iv 0, iv 0, iv 0, iv 0, iv 0, iv 0, iv 0, .slice none 0 0, iv 0, .slice none 0 0]),.st 5 (fun G => .blk ((G 5).b) #[iv n26, iv n27, iv n28, iv n29, iv n30, iv n31, iv n32, ((G 1).ss 0).v, iv n33, ((G 1).ss 1).v] 32),.k (iv n34)] fun _ _ G15 kw15 => ?_
    intro S_ s_
    obtain ⟨⟨kl13, -⟩, ⟨kl14, -⟩, -⟩ : Lq l14 (((G15 1).ss 0).v) ∧ Lq l15 (((G15 1).ss 1).v) ∧ Lq ([⟨#[107]⟩, ⟨#[77]⟩, ⟨#[71]⟩, ⟨#[109]⟩] : List ByteArray) (SV.v ⟨atB (G12 0).b, 4, 4⟩) ∧ Lq l13 (SV.v ⟨atB (G13 5).b, 4, 4⟩) ∧ True := kn kw15 (by kernel_rfl)
    clear kw15
    rcases (by omega : n19 = 0 ∨ n19 = 1 ∨ n19 = 2 ∨ n19 = 3) with hcs1 | hcs2 | hcs3 | hcs4
    · refine V.alt (fun (zz : Int) => (⟨[(1, tv s), (7, bv true), (10, pp ((G8 5).b) 0), (12, iv zz), (13, SV.v ⟨atB (G12 0).b, 4, 4⟩), (14, SV.v ⟨atB (G13 5).b, 4, 4⟩), (15, pp ((G15 5).b) 0), (16, iv n34)], [fs true l1 ((G6 2).ss 0), fs true l2 ((G6 2).ss 1), fs true l5 ((G8 1).ss 0), fs true l6 ((G8 1).ss 1), fs true l7 ((G13 0).ss 0), fs true l4 ((G13 0).ss 1), fs true l8 ((G13 1).ss 0), fs true l4 ((G13 1).ss 1), fs true l9 ((G13 2).ss 0), fs true l4 ((G13 2).ss 1), fs true l11 ((G14 1).ss 0), fs true l12 ((G14 1).ss 1), fs true l14 ((G15 1).ss 0), fs true l15 ((G15 1).ss 1)], [.blk ((G1 0).b) #[iv d0, iv d1, iv d2, iv d3, iv d4, iv d5] 23, .blk ((G6 6).b) #[iv n1, iv n2, iv n3, iv n4, iv n5, iv n6, iv n7, ((G6 2).ss 0).v, iv n8, ((G6 2).ss 1).v] 32, .blk ((G8 5).b) #[iv n11, iv n12, iv n13, iv n14, iv n15, iv n16, iv n17, ((G8 1).ss 0).v, iv n18, ((G8 1).ss 1).v] 32, os true 9 ([⟨#[107]⟩, ⟨#[77]⟩, ⟨#[71]⟩, ⟨#[109]⟩] : List ByteArray) ⟨atB (G12 0).b, 4, 4⟩, os true 30 l13 ⟨atB (G13 5).b, 4, 4⟩, .blk ((G15 5).b) #[iv n26, iv n27, iv n28, iv n29, iv n30, iv n31, iv n32, ((G15 1).ss 0).v, iv n33, ((G15 1).ss 1).v] 32, .no, .no]⟩ : St)) hcs1 [0, 1, 2, 3, 4, 5, 6, 7, 8, 9, 10, 11, 12, 13] (by kernel_rfl) ?_
      refine nm (([⟨#[107]⟩, ⟨#[77]⟩, ⟨#[71]⟩, ⟨#[109]⟩] : List ByteArray).getD (0 : Int).toNat default : ByteArray) fun x2 hx2 => ?_
      refine nm (x2 ++ s : ByteArray) fun t2 ht2 => ?_
      have ht2n : t2.size = x2.size + s.size := by rw [ht2, ByteArray.size_append]
      refine nm (Un.dv ((Un.read t2).1) 0 : Int) fun n35 hn35 => ?_
      refine nm (Un.dv ((Un.read t2).1) 1 : Int) fun n36 hn36 => ?_
      refine nm (Un.dv ((Un.read t2).1) 2 : Int) fun n37 hn37 => ?_
      refine nm (Un.dv ((Un.read t2).1) 3 : Int) fun n38 hn38 => ?_
      refine nm (Un.dv ((Un.read t2).1) 4 : Int) fun n39 hn39 => ?_
      refine nm (Un.dv ((Un.read t2).1) 5 : Int) fun n40 hn40 => ?_
      refine nm (Fr.rS (((Un.read t2).1).isSome = true) (Un.fv ((Un.read t2).1)) : Int) fun n41 hn41 => ?_
      refine nm (Fr.rD (((Un.read t2).1).isSome = true) (Un.fv ((Un.read t2).1)) : List Int) fun l16 hl16 => ?_
      have hl16n := congrArg List.length hl16
      refine nm (Fr.rT (((Un.read t2).1).isSome = true) : Int) fun n42 hn42 => ?_
      refine nm (Fr.rE (((Un.read t2).1).isSome = true) (Un.fv ((Un.read t2).1)) : List Int) fun l17 hl17 => ?_
      have hl17n := congrArg List.length hl17
      refine nm ((Un.read t2).2 : Int) fun n43 hn43 => ?_
      have hxp : x2 = ⟨#[107]⟩ := by rw [hx2]; rfl
      have hxpn : x2.size = 1 := by rw [hxp]; rfl
      have hrp := Un.read_pfx _ hmem ((⟨#[107]⟩, 1000)) (by unfold Un.pxs; simp)
      have htt : t2 = ⟨#[107]⟩ ++ s := by rw [ht2, hxp]
      have hrq : Un.read t2 = if Un.pf s then (some (((Un.sym s).getD ([], 0)).1, Un.fv (Un.sym s) * 1000), 0) else (none, 11) := by rw [htt]; exact hrp
      refine V.r [.k (SV.v ⟨atB (G12 0).b, 4, 4⟩),.k (iv 0),.ix g0 (ko true 9 3 ([⟨#[107]⟩, ⟨#[77]⟩, ⟨#[71]⟩, ⟨#[109]⟩] : List ByteArray) (fun _ => ⟨atB (G12 0).b, 4, 4⟩)) 0 (fun _ => ⟨by omega, by simp only [List.length_cons, List.length_nil, List.length_set]; omega⟩),.le g0 (ko true 9 3 ([⟨#[107]⟩, ⟨#[77]⟩, ⟨#[71]⟩, ⟨#[109]⟩] : List ByteArray) (fun _ => ⟨atB (G12 0).b, 4, 4⟩)) (0 : Int) none false x2 hx2 (fun _ => ⟨by omega, by simp only [List.length_cons, List.length_nil, List.length_set]; omega⟩) false (fun _ => [tv x2]),.k (tv s),.sad g0 x2 s t2 ht2 (fun _ => by omega),.ct g0 6 13 false [] [] [] (fun _ G => uread_ctv t2 (by omega) n35 hn35 n36 hn36 n37 hn37 n38 hn38 n39 hn39 n40 hn40 n41 hn41 l16 hl16 n42 hn42 l17 hl17 n43 hn43),.v fun G => .tuple #[.agg #[iv n35, iv n36, iv n37, iv n38, iv n39, iv n40, iv n41, ((G 6).ss 0).v, iv n42, ((G 6).ss 1).v], iv n43],.v fun G => .agg #[iv n35, iv n36, iv n37, iv n38, iv n39, iv n40, iv n41, ((G 6).ss 0).v, iv n42, ((G 6).ss 1).v],.k (iv n43),.nb 10 6 (fun b => pp b 0) 32 (fun _ => #[iv 0, iv 0, iv 0, iv 0, iv 0, iv 0, iv 0, .slice none 0 0, iv 0, .slice none 0 0]),.st 6 (fun G => .blk ((G 10).b) #[iv n35, iv n36, iv n37, iv n38, iv n39, iv n40, iv n41, ((G 6).ss 0).v, iv n42, ((G 6).ss 1).v] 32),.k (iv n43)] fun _ _ G16 kw16 => ?_
      intro S_ s_
      obtain ⟨⟨kl15, -⟩, ⟨kl16, -⟩, -⟩ : Lq l16 (((G16 6).ss 0).v) ∧ Lq l17 (((G16 6).ss 1).v) ∧ Lq ([⟨#[107]⟩, ⟨#[77]⟩, ⟨#[71]⟩, ⟨#[109]⟩] : List ByteArray) (SV.v ⟨atB (G12 0).b, 4, 4⟩) ∧ Lq l13 (SV.v ⟨atB (G13 5).b, 4, 4⟩) ∧ True := kn kw16 (by kernel_rfl)
      clear kw16
      refine V.g [.k (iv n34),.k (bv (!(decide (n34 = 0)))),.k (bv (!(decide (n34 = 0)))),.ld 2 0 true (fun _ => [iv n11, iv n12, iv n13, iv n14, iv n15, iv n16, iv n17, ((G8 1).ss 0).v, iv n18, ((G8 1).ss 1).v]),.ld 5 0 true (fun _ => [iv n26, iv n27, iv n28, iv n29, iv n30, iv n31, iv n32, ((G15 1).ss 0).v, iv n33, ((G15 1).ss 1).v]),.cp (gF (b := !(decide (n34 = 0))) (iNF iDT)) 5 19 [(kf true (.f 2) l5 (fun _ => (G8 1).ss 0)).a, (kf true (.f 3) l6 (fun _ => (G8 1).ss 1)).a, (kf true (.f 12) l14 (fun _ => (G15 1).ss 0)).a, (kf true (.f 13) l15 (fun _ => (G15 1).ss 1)).a] (fun hg G => same9t_ct n11 n12 n13 n14 n15 n16 n17 l5 ((G8 1).ss 0) n18 l6 ((G8 1).ss 1) n26 n27 n28 n29 n30 n31 n32 l14 ((G15 1).ss 0) n33 l15 ((G15 1).ss 1) hS9),.kb false,.or g0 false (!(decide (n34 = 0))) false] fun _ _ G17 => ?_
      intro S_ s_
      refine V.cond (b := (!(decide (n34 = 0))) || false) (iOT (iNT iDF) iFT) (iOF (iNF iDT) iFF) (by kernel_rfl) (fun q9 => ?_) (fun q10 => ?_)
      · exfalso; have hqq := q9; rcases hqq with h | h
        · exact h e15
        exact h.elim
      refine nm ((!(decide (s = ⟨#[103]⟩))) && (!(decide (s = ⟨#[109]⟩))) : Bool) fun p2 hp2 => ?_
      refine nm ((p2 && (!(decide (s = ⟨#[108]⟩)))) && (!(decide (s = ⟨#[115]⟩))) : Bool) fun p3 hp3 => ?_
      refine nm ((p3 && (!(decide (s = ⟨#[74]⟩)))) && (!(decide (s = ⟨#[87, 104]⟩))) : Bool) fun p4 hp4 => ?_
      refine V.g [.k (tv s),.sne s ⟨#[103]⟩,.k (bv (!(decide (s = ⟨#[103]⟩)))),.k (tv s),.sne s ⟨#[109]⟩,.andn g0 false (!(decide (s = ⟨#[103]⟩))) (!(decide (s = ⟨#[109]⟩))) p2 hp2,.k (bv p2),.k (tv s),.sne s ⟨#[108]⟩,.and g0 false p2 (!(decide (s = ⟨#[108]⟩))),.k (bv (p2 && (!(decide (s = ⟨#[108]⟩))))),.k (tv s),.sne s ⟨#[115]⟩,.andn g0 false (p2 && (!(decide (s = ⟨#[108]⟩)))) (!(decide (s = ⟨#[115]⟩))) p3 hp3,.k (bv p3),.k (tv s),.sne s ⟨#[74]⟩,.and g0 false p3 (!(decide (s = ⟨#[74]⟩))),.k (bv (p3 && (!(decide (s = ⟨#[74]⟩))))),.k (tv s),.sne s ⟨#[87, 104]⟩,.andn g0 false (p3 && (!(decide (s = ⟨#[74]⟩)))) (!(decide (s = ⟨#[87, 104]⟩))) p4 hp4] fun _ _ G18 => ?_
      intro S_ s_
      refine V.cond (b := p4) (iN hp4 (iAT (iAT (iN hp3 (iAT (iAT (iN hp2 (iAT (iNT iDF) (iNT iDF))) (iNT iDF)) (iNT iDF))) (iNT iDF)) (iNT iDF))) (iN hp4 (iAF (iAF (iN hp3 (iAF (iAF (iN hp2 (iAF (iNF iDT) (iNF iDT))) (iNF iDT)) (iNF iDT))) (iNF iDT)) (iNF iDT))) (by kernel_rfl) (fun q11 => ?_) (fun q12 => ?_)
      · have hnp : ¬ Un.pf s := by have hqq := q11; obtain ⟨⟨⟨⟨⟨h1, h2⟩, h3⟩, h4⟩, h5⟩, h6⟩ := hqq; rintro (((((h | h) | h) | h) | h) | h); exact h1 h; exact h2 h; exact h3 h; exact h4 h; exact h5 h; exact h6 h
        rw [if_neg hnp] at hrq
        refine V.g [.kb true,.kb true,.k (iv n43),.k (bv (decide (n43 = 11))),.k (bv (decide (n43 = 11))),.k (bv (decide (n43 = 11)))] fun _ _ G19 => ?_
        intro S_ s_
        have e0 : (decide (n43 = 11)) = true := by
          refine iDT.2 ?_
          have e20 : n43 = 11 := by rw [hn43, hrq]
          first | exact e20 | exact ⟨trivial, e20⟩
        exact V.ret [0] [] [] [] [] [] (bv (decide (n43 = 11))) (fun _ _ => by kernel_rfl) (fun _ _ => (Eq.trans (by kernel_rfl) (cong1 (fun (x0 : Bool) => (bv x0 : Value)) e0)).trans (by kernel_rfl)) (fun _ _ => trivial)
      have hpf : Un.pf s := by have hqq := q12; exact hqq
      rw [if_pos hpf] at hrq
      refine nm (l13.getD (0 : Int).toNat default : DFrac) fun x3 hx3 => ?_
      refine nm (Fr.rS (Fr.FrB n32 l14 n33 l15 ∧ Fr.FrB x3.P.Sign x3.P.Digits.l x3.Q.Sign x3.Q.Digits.l) ((Fr.fq n32 l14 l15) * (Fr.fq x3.P.Sign x3.P.Digits.l x3.Q.Digits.l)) : Int) fun n44 hn44 => ?_
      refine nm (Fr.rD (Fr.FrB n32 l14 n33 l15 ∧ Fr.FrB x3.P.Sign x3.P.Digits.l x3.Q.Sign x3.Q.Digits.l) ((Fr.fq n32 l14 l15) * (Fr.fq x3.P.Sign x3.P.Digits.l x3.Q.Digits.l)) : List Int) fun l18 hl18 => ?_
      have hl18n := congrArg List.length hl18
      refine nm (Fr.rT (Fr.FrB n32 l14 n33 l15 ∧ Fr.FrB x3.P.Sign x3.P.Digits.l x3.Q.Sign x3.Q.Digits.l) : Int) fun n45 hn45 => ?_
      refine nm (Fr.rE (Fr.FrB n32 l14 n33 l15 ∧ Fr.FrB x3.P.Sign x3.P.Digits.l x3.Q.Sign x3.Q.Digits.l) ((Fr.fq n32 l14 l15) * (Fr.fq x3.P.Sign x3.P.Digits.l x3.Q.Digits.l)) : List Int) fun l19 hl19 => ?_
      have hl19n := congrArg List.length hl19
      refine nm (if ¬ (Fr.FrB n32 l14 n33 l15 ∧ Fr.FrB x3.P.Sign x3.P.Digits.l x3.Q.Sign x3.Q.Digits.l) then (1 : Int) else 0 : Int) fun n46 hn46 => ?_
      have zt : Fr.Fz x3.P.Sign x3.P.Digits.l x3.Q.Sign x3.Q.Digits.l (1000) := by rw [hx3, hl13, hl10]; exact z13_0
      have htl := zt.len (k := 4) (by decide +kernel); have htl1 := htl.1; have htl2 := htl.2
      have zw := Fr.Fz.of (And.intro zb.rt zt.rt) hn44 hl18 hn45 hl19
      rw [zb.v, zt.v] at zw
      refine V.r [.k (pp ((G15 5).b) 6),.ld 5 6 true (fun _ => Dat.cells (DFrac.mk (DBig.mk n32 ⟨l14, (G15 1).ss 0⟩) (DBig.mk n33 ⟨l15, (G15 1).ss 1⟩))),.k (SV.v ⟨atB (G13 5).b, 4, 4⟩),.k (iv 0),.ix g0 (ko true 30 4 l13 (fun _ => ⟨atB (G13 5).b, 4, 4⟩)) 0 (fun _ => ⟨by omega, by omega⟩),.le g0 (ko true 30 4 l13 (fun _ => ⟨atB (G13 5).b, 4, 4⟩)) (0 : Int) none true x3 hx3 (fun _ => ⟨by omega, by omega⟩) true (fun _ => Dat.cells x3),.ct g0 6 20 false [] [] [(kf true (.f 12) l14 (fun _ => (G15 1).ss 0)).a, (kf true (.f 13) l15 (fun _ => (G15 1).ss 1)).a, (kx true (.g 5 0) x3 x3.P.Digits.l (fun _ => x3.P.Digits.s) (fun _ H (h : Dat.good H (x3 : DFrac)) => h.1)).a, (kx true (.g 5 0) x3 x3.Q.Digits.l (fun _ => x3.Q.Digits.s) (fun _ H (h : Dat.good H (x3 : DFrac)) => h.2)).a] (fun _ G => fmul_ctv n32 l14 ((G15 1).ss 0) n33 l15 ((G15 1).ss 1) x3.P.Sign x3.P.Digits.l x3.P.Digits.s x3.Q.Sign x3.Q.Digits.l x3.Q.Digits.s (by omega) (by omega) (by omega) (by omega) n44 hn44 l18 hl18 n45 hn45 l19 hl19 n46 hn46),.v fun G => .tuple #[ag (DFrac.mk (DBig.mk n44 ⟨l18, (G 6).ss 0⟩) (DBig.mk n45 ⟨l19, (G 6).ss 1⟩)), iv n46],.v fun G => ag (DFrac.mk (DBig.mk n44 ⟨l18, (G 6).ss 0⟩) (DBig.mk n45 ⟨l19, (G 6).ss 1⟩)),.k (iv n46),.nb 10 7 (fun b => pp b 0) 30 (fun _ => ca (DFrac.mk (DBig.mk 0 ⟨[], {}⟩) (DBig.mk 0 ⟨[], {}⟩))),.st 7 (fun G => .blk ((G 10).b) (ca (DFrac.mk (DBig.mk n44 ⟨l18, (G 6).ss 0⟩) (DBig.mk n45 ⟨l19, (G 6).ss 1⟩))) 30),.k (iv n46)] fun _ _ G20 kw20 => ?_
      intro S_ s_
      obtain ⟨⟨⟨kl17, -⟩, ⟨kl18, -⟩⟩, ⟨kl19, -⟩, ⟨kl20, -⟩, -⟩ : (Lq x3.P.Digits.l x3.P.Digits.s.v ∧ Lq x3.Q.Digits.l x3.Q.Digits.s.v) ∧ Lq l18 (((G20 6).ss 0).v) ∧ Lq l19 (((G20 6).ss 1).v) ∧ Lq ([⟨#[107]⟩, ⟨#[77]⟩, ⟨#[71]⟩, ⟨#[109]⟩] : List ByteArray) (SV.v ⟨atB (G12 0).b, 4, 4⟩) ∧ Lq l13 (SV.v ⟨atB (G13 5).b, 4, 4⟩) ∧ True := kn kw20 (by kernel_rfl)
      clear kw20
      refine nm ((decide (n43 = 0)) && (decide (n35 = n26 ∧ n36 = n27 ∧ n37 = n28 ∧ n38 = n29 ∧ n39 = n30 ∧ n40 = n31)) : Bool) fun p5 hp5 => ?_
      have e22 : n43 = 0 := by rw [hn43, hrq]
      have e22_0 : n35 = n26 := by rw [hn35, hn26, hrq, hrs1]; rfl
      have e22_1 : n36 = n27 := by rw [hn36, hn27, hrq, hrs1]; rfl
      have e22_2 : n37 = n28 := by rw [hn37, hn28, hrq, hrs1]; rfl
      have e22_3 : n38 = n29 := by rw [hn38, hn29, hrq, hrs1]; rfl
      have e22_4 : n39 = n30 := by rw [hn39, hn30, hrq, hrs1]; rfl
      have e22_5 : n40 = n31 := by rw [hn40, hn31, hrq, hrs1]; rfl
      have z22 := Fr.Fz.of (show (Un.read t2).1.isSome = true by rw [hrq]; rfl) hn41 hl16 hn42 hl17
      rw [show Un.fv (Un.read t2).1 = Un.fv (Un.sym s) * 1000 by rw [hrq]; rfl] at z22
      have hs22 := Fr.Fz.inj z22 zw
      refine V.g [.kb true,.kb true,.k (iv n43),.k (bv (decide (n43 = 0))),.k (bv (decide (n43 = 0))),.k (bv (decide (n43 = 0))),.k (pp ((G16 10).b) 0),.ld 6 0 true (fun _ => [iv n35, iv n36, iv n37, iv n38, iv n39, iv n40]),.k (pp ((G15 5).b) 0),.ld 5 0 true (fun _ => [iv n26, iv n27, iv n28, iv n29, iv n30, iv n31]),.aeq false 23 #[iv n35, iv n36, iv n37, iv n38, iv n39, iv n40] #[iv n26, iv n27, iv n28, iv n29, iv n30, iv n31] _ fun w => dim_equal w n35 n36 n37 n38 n39 n40 n26 n27 n28 n29 n30 n31,.andn g0 false (decide (n43 = 0)) (decide (n35 = n26 ∧ n36 = n27 ∧ n37 = n28 ∧ n38 = n29 ∧ n39 = n30 ∧ n40 = n31)) p5 hp5,.k (bv p5),.k (pp ((G16 10).b) 6),.ld 6 6 true (fun _ => Dat.cells (DFrac.mk (DBig.mk n41 ⟨l16, (G16 6).ss 0⟩) (DBig.mk n42 ⟨l17, (G16 6).ss 1⟩))),.ld 7 0 true (fun _ => Dat.cells (DFrac.mk (DBig.mk n44 ⟨l18, (G20 6).ss 0⟩) (DBig.mk n45 ⟨l19, (G20 6).ss 1⟩))),.cp (gT (b := p5) (iN hp5 (iAT iDT iDT))) 16 15 [(kf true (.f 14) l16 (fun _ => (G16 6).ss 0)).a, (kf true (.f 15) l17 (fun _ => (G16 6).ss 1)).a, (kf true (.f 17) l18 (fun _ => (G20 6).ss 0)).a, (kf true (.f 18) l19 (fun _ => (G20 6).ss 1)).a] (fun hg G => same5t_ct n41 l16 ((G16 6).ss 0) n42 l17 ((G16 6).ss 1) n44 l18 ((G20 6).ss 0) n45 l19 ((G20 6).ss 1) hs22),.and g0 false p5 true,.k (bv (p5 && true))] fun _ _ G21 => ?_
      intro S_ s_
      have e0 : (p5 && true) = true := by
        refine (iAT (iN hp5 (iAT iDT iDT)) iTT).2 ?_
        have e6 := And.intro e22 (And.intro e22_0 (And.intro e22_1 (And.intro e22_2 (And.intro e22_3 (And.intro e22_4 e22_5)))))
        first | exact ⟨e6, trivial⟩ | exact e6
      exact V.ret [0] [] [] [] [] [] (bv (p5 && true)) (fun _ _ => by kernel_rfl) (fun _ _ => (Eq.trans (by kernel_rfl) (cong1 (fun (x0 : Bool) => (bv x0 : Value)) e0)).trans (by kernel_rfl)) (fun _ _ => trivial)
    · refine V.alt (fun (zz : Int) => (⟨[(1, tv s), (7, bv true), (10, pp ((G8 5).b) 0), (12, iv zz), (13, SV.v ⟨atB (G12 0).b, 4, 4⟩), (14, SV.v ⟨atB (G13 5).b, 4, 4⟩), (15, pp ((G15 5).b) 0), (16, iv n34)], [fs true l1 ((G6 2).ss 0), fs true l2 ((G6 2).ss 1), fs true l5 ((G8 1).ss 0), fs true l6 ((G8 1).ss 1), fs true l7 ((G13 0).ss 0), fs true l4 ((G13 0).ss 1), fs true l8 ((G13 1).ss 0), fs true l4 ((G13 1).ss 1), fs true l9 ((G13 2).ss 0), fs true l4 ((G13 2).ss 1), fs true l11 ((G14 1).ss 0), fs true l12 ((G14 1).ss 1), fs true l14 ((G15 1).ss 0), fs true l15 ((G15 1).ss 1)], [.blk ((G1 0).b) #[iv d0, iv d1, iv d2, iv d3, iv d4, iv d5] 23, .blk ((G6 6).b) #[iv n1, iv n2, iv n3, iv n4, iv n5, iv n6, iv n7, ((G6 2).ss 0).v, iv n8, ((G6 2).ss 1).v] 32, .blk ((G8 5).b) #[iv n11, iv n12, iv n13, iv n14, iv n15, iv n16, iv n17, ((G8 1).ss 0).v, iv n18, ((G8 1).ss 1).v] 32, os true 9 ([⟨#[107]⟩, ⟨#[77]⟩, ⟨#[71]⟩, ⟨#[109]⟩] : List ByteArray) ⟨atB (G12 0).b, 4, 4⟩, os true 30 l13 ⟨atB (G13 5).b, 4, 4⟩, .blk ((G15 5).b) #[iv n26, iv n27, iv n28, iv n29, iv n30, iv n31, iv n32, ((G15 1).ss 0).v, iv n33, ((G15 1).ss 1).v] 32, .no, .no]⟩ : St)) hcs2 [0, 1, 2, 3, 4, 5, 6, 7, 8, 9, 10, 11, 12, 13] (by kernel_rfl) ?_
      refine nm (([⟨#[107]⟩, ⟨#[77]⟩, ⟨#[71]⟩, ⟨#[109]⟩] : List ByteArray).getD (1 : Int).toNat default : ByteArray) fun x4 hx4 => ?_
      refine nm (x4 ++ s : ByteArray) fun t3 ht3 => ?_
      have ht3n : t3.size = x4.size + s.size := by rw [ht3, ByteArray.size_append]
      refine nm (Un.dv ((Un.read t3).1) 0 : Int) fun n47 hn47 => ?_
      refine nm (Un.dv ((Un.read t3).1) 1 : Int) fun n48 hn48 => ?_
      refine nm (Un.dv ((Un.read t3).1) 2 : Int) fun n49 hn49 => ?_
      refine nm (Un.dv ((Un.read t3).1) 3 : Int) fun n50 hn50 => ?_
      refine nm (Un.dv ((Un.read t3).1) 4 : Int) fun n51 hn51 => ?_
      refine nm (Un.dv ((Un.read t3).1) 5 : Int) fun n52 hn52 => ?_
      refine nm (Fr.rS (((Un.read t3).1).isSome = true) (Un.fv ((Un.read t3).1)) : Int) fun n53 hn53 => ?_
      refine nm (Fr.rD (((Un.read t3).1).isSome = true) (Un.fv ((Un.read t3).1)) : List Int) fun l20 hl20 => ?_
      have hl20n := congrArg List.length hl20
      refine nm (Fr.rT (((Un.read t3).1).isSome = true) : Int) fun n54 hn54 => ?_
      refine nm (Fr.rE (((Un.read t3).1).isSome = true) (Un.fv ((Un.read t3).1)) : List Int) fun l21 hl21 => ?_
      have hl21n := congrArg List.length hl21
      refine nm ((Un.read t3).2 : Int) fun n55 hn55 => ?_
      have hxp : x4 = ⟨#[77]⟩ := by rw [hx4]; rfl
      have hxpn : x4.size = 1 := by rw [hxp]; rfl
      have hrp := Un.read_pfx _ hmem ((⟨#[77]⟩, 1000000)) (by unfold Un.pxs; simp)
      have htt : t3 = ⟨#[77]⟩ ++ s := by rw [ht3, hxp]
      have hrq : Un.read t3 = if Un.pf s then (some (((Un.sym s).getD ([], 0)).1, Un.fv (Un.sym s) * 1000000), 0) else (none, 11) := by rw [htt]; exact hrp
      refine V.r [.k (SV.v ⟨atB (G12 0).b, 4, 4⟩),.k (iv 1),.ix g0 (ko true 9 3 ([⟨#[107]⟩, ⟨#[77]⟩, ⟨#[71]⟩, ⟨#[109]⟩] : List ByteArray) (fun _ => ⟨atB (G12 0).b, 4, 4⟩)) 1 (fun _ => ⟨by omega, by simp only [List.length_cons, List.length_nil, List.length_set]; omega⟩),.le g0 (ko true 9 3 ([⟨#[107]⟩, ⟨#[77]⟩, ⟨#[71]⟩, ⟨#[109]⟩] : List ByteArray) (fun _ => ⟨atB (G12 0).b, 4, 4⟩)) (1 : Int) none false x4 hx4 (fun _ => ⟨by omega, by simp only [List.length_cons, List.length_nil, List.length_set]; omega⟩) false (fun _ => [tv x4]),.k (tv s),.sad g0 x4 s t3 ht3 (fun _ => by omega),.ct g0 6 13 false [] [] [] (fun _ G => uread_ctv t3 (by omega) n47 hn47 n48 hn48 n49 hn49 n50 hn50 n51 hn51 n52 hn52 n53 hn53 l20 hl20 n54 hn54 l21 hl21 n55 hn55),.v fun G => .tuple #[.agg #[iv n47, iv n48, iv n49, iv n50, iv n51, iv n52, iv n53, ((G 6).ss 0).v, iv n54, ((G 6).ss 1).v], iv n55],.v fun G => .agg #[iv n47, iv n48, iv n49, iv n50, iv n51, iv n52, iv n53, ((G 6).ss 0).v, iv n54, ((G 6).ss 1).v],.k (iv n55),.nb 10 6 (fun b => pp b 0) 32 (fun _ => #[iv 0, iv 0, iv 0, iv 0, iv 0, iv 0, iv 0, .slice none 0 0, iv 0, .slice none 0 0]),.st 6 (fun G => .blk ((G 10).b) #[iv n47, iv n48, iv n49, iv n50, iv n51, iv n52, iv n53, ((G 6).ss 0).v, iv n54, ((G 6).ss 1).v] 32),.k (iv n55)] fun _ _ G22 kw22 => ?_
      intro S_ s_
      obtain ⟨⟨kl21, -⟩, ⟨kl22, -⟩, -⟩ : Lq l20 (((G22 6).ss 0).v) ∧ Lq l21 (((G22 6).ss 1).v) ∧ Lq ([⟨#[107]⟩, ⟨#[77]⟩, ⟨#[71]⟩, ⟨#[109]⟩] : List ByteArray) (SV.v ⟨atB (G12 0).b, 4, 4⟩) ∧ Lq l13 (SV.v ⟨atB (G13 5).b, 4, 4⟩) ∧ True := kn kw22 (by kernel_rfl)
      clear kw22
      refine V.g [.k (iv n34),.k (bv (!(decide (n34 = 0)))),.k (bv (!(decide (n34 = 0)))),.ld 2 0 true (fun _ => [iv n11, iv n12, iv n13, iv n14, iv n15, iv n16, iv n17, ((G8 1).ss 0).v, iv n18, ((G8 1).ss 1).v]),.ld 5 0 true (fun _ => [iv n26, iv n27, iv n28, iv n29, iv n30, iv n31, iv n32, ((G15 1).ss 0).v, iv n33, ((G15 1).ss 1).v]),.cp (gF (b := !(decide (n34 = 0))) (iNF iDT)) 5 19 [(kf true (.f 2) l5 (fun _ => (G8 1).ss 0)).a, (kf true (.f 3) l6 (fun _ => (G8 1).ss 1)).a, (kf true (.f 12) l14 (fun _ => (G15 1).ss 0)).a, (kf true (.f 13) l15 (fun _ => (G15 1).ss 1)).a] (fun hg G => same9t_ct n11 n12 n13 n14 n15 n16 n17 l5 ((G8 1).ss 0) n18 l6 ((G8 1).ss 1) n26 n27 n28 n29 n30 n31 n32 l14 ((G15 1).ss 0) n33 l15 ((G15 1).ss 1) hS9),.kb false,.or g0 false (!(decide (n34 = 0))) false] fun _ _ G23 => ?_
      intro S_ s_
      refine V.cond (b := (!(decide (n34 = 0))) || false) (iOT (iNT iDF) iFT) (iOF (iNF iDT) iFF) (by kernel_rfl) (fun q13 => ?_) (fun q14 => ?_)
      · exfalso; have hqq := q13; rcases hqq with h | h
        · exact h e15
        exact h.elim
      refine nm ((!(decide (s = ⟨#[103]⟩))) && (!(decide (s = ⟨#[109]⟩))) : Bool) fun p6 hp6 => ?_
      refine nm ((p6 && (!(decide (s = ⟨#[108]⟩)))) && (!(decide (s = ⟨#[115]⟩))) : Bool) fun p7 hp7 => ?_
      refine nm ((p7 && (!(decide (s = ⟨#[74]⟩)))) && (!(decide (s = ⟨#[87, 104]⟩))) : Bool) fun p8 hp8 => ?_
      refine V.g [.k (tv s),.sne s ⟨#[103]⟩,.k (bv (!(decide (s = ⟨#[103]⟩)))),.k (tv s),.sne s ⟨#[109]⟩,.andn g0 false (!(decide (s = ⟨#[103]⟩))) (!(decide (s = ⟨#[109]⟩))) p6 hp6,.k (bv p6),.k (tv s),.sne s ⟨#[108]⟩,.and g0 false p6 (!(decide (s = ⟨#[108]⟩))),.k (bv (p6 && (!(decide (s = ⟨#[108]⟩))))),.k (tv s),.sne s ⟨#[115]⟩,.andn g0 false (p6 && (!(decide (s = ⟨#[108]⟩)))) (!(decide (s = ⟨#[115]⟩))) p7 hp7,.k (bv p7),.k (tv s),.sne s ⟨#[74]⟩,.and g0 false p7 (!(decide (s = ⟨#[74]⟩))),.k (bv (p7 && (!(decide (s = ⟨#[74]⟩))))),.k (tv s),.sne s ⟨#[87, 104]⟩,.andn g0 false (p7 && (!(decide (s = ⟨#[74]⟩)))) (!(decide (s = ⟨#[87, 104]⟩))) p8 hp8] fun _ _ G24 => ?_
      intro S_ s_
      refine V.cond (b := p8) (iN hp8 (iAT (iAT (iN hp7 (iAT (iAT (iN hp6 (iAT (iNT iDF) (iNT iDF))) (iNT iDF)) (iNT iDF))) (iNT iDF)) (iNT iDF))) (iN hp8 (iAF (iAF (iN hp7 (iAF (iAF (iN hp6 (iAF (iNF iDT) (iNF iDT))) (iNF iDT)) (iNF iDT))) (iNF iDT)) (iNF iDT))) (by kernel_rfl) (fun q15 => ?_) (fun q16 => ?_)
      · have hnp : ¬ Un.pf s := by have hqq := q15; obtain ⟨⟨⟨⟨⟨h1, h2⟩, h3⟩, h4⟩, h5⟩, h6⟩ := hqq; rintro (((((h | h) | h) | h) | h) | h); exact h1 h; exact h2 h; exact h3 h; exact h4 h; exact h5 h; exact h6 h
        rw [if_neg hnp] at hrq
        refine V.g [.kb true,.kb true,.k (iv n55),.k (bv (decide (n55 = 11))),.k (bv (decide (n55 = 11))),.k (bv (decide (n55 = 11)))] fun _ _ G25 => ?_
        intro S_ s_
        have e0 : (decide (n55 = 11)) = true := by
          refine iDT.2 ?_
          have e20 : n55 = 11 := by rw [hn55, hrq]
          first | exact e20 | exact ⟨trivial, e20⟩
        exact V.ret [0] [] [] [] [] [] (bv (decide (n55 = 11))) (fun _ _ => by kernel_rfl) (fun _ _ => (Eq.trans (by kernel_rfl) (cong1 (fun (x0 : Bool) => (bv x0 : Value)) e0)).trans (by kernel_rfl)) (fun _ _ => trivial)
      have hpf : Un.pf s := by have hqq := q16; exact hqq
      rw [if_pos hpf] at hrq
      refine nm (l13.getD (1 : Int).toNat default : DFrac) fun x5 hx5 => ?_
      refine nm (Fr.rS (Fr.FrB n32 l14 n33 l15 ∧ Fr.FrB x5.P.Sign x5.P.Digits.l x5.Q.Sign x5.Q.Digits.l) ((Fr.fq n32 l14 l15) * (Fr.fq x5.P.Sign x5.P.Digits.l x5.Q.Digits.l)) : Int) fun n56 hn56 => ?_
      refine nm (Fr.rD (Fr.FrB n32 l14 n33 l15 ∧ Fr.FrB x5.P.Sign x5.P.Digits.l x5.Q.Sign x5.Q.Digits.l) ((Fr.fq n32 l14 l15) * (Fr.fq x5.P.Sign x5.P.Digits.l x5.Q.Digits.l)) : List Int) fun l22 hl22 => ?_
      have hl22n := congrArg List.length hl22
      refine nm (Fr.rT (Fr.FrB n32 l14 n33 l15 ∧ Fr.FrB x5.P.Sign x5.P.Digits.l x5.Q.Sign x5.Q.Digits.l) : Int) fun n57 hn57 => ?_
      refine nm (Fr.rE (Fr.FrB n32 l14 n33 l15 ∧ Fr.FrB x5.P.Sign x5.P.Digits.l x5.Q.Sign x5.Q.Digits.l) ((Fr.fq n32 l14 l15) * (Fr.fq x5.P.Sign x5.P.Digits.l x5.Q.Digits.l)) : List Int) fun l23 hl23 => ?_
      have hl23n := congrArg List.length hl23
      refine nm (if ¬ (Fr.FrB n32 l14 n33 l15 ∧ Fr.FrB x5.P.Sign x5.P.Digits.l x5.Q.Sign x5.Q.Digits.l) then (1 : Int) else 0 : Int) fun n58 hn58 => ?_
      have zt : Fr.Fz x5.P.Sign x5.P.Digits.l x5.Q.Sign x5.Q.Digits.l (1000000) := by rw [hx5, hl13, hl10]; exact z13_1
      have htl := zt.len (k := 4) (by decide +kernel); have htl1 := htl.1; have htl2 := htl.2
      have zw := Fr.Fz.of (And.intro zb.rt zt.rt) hn56 hl22 hn57 hl23
      rw [zb.v, zt.v] at zw
      refine V.r [.k (pp ((G15 5).b) 6),.ld 5 6 true (fun _ => Dat.cells (DFrac.mk (DBig.mk n32 ⟨l14, (G15 1).ss 0⟩) (DBig.mk n33 ⟨l15, (G15 1).ss 1⟩))),.k (SV.v ⟨atB (G13 5).b, 4, 4⟩),.k (iv 1),.ix g0 (ko true 30 4 l13 (fun _ => ⟨atB (G13 5).b, 4, 4⟩)) 1 (fun _ => ⟨by omega, by omega⟩),.le g0 (ko true 30 4 l13 (fun _ => ⟨atB (G13 5).b, 4, 4⟩)) (1 : Int) none true x5 hx5 (fun _ => ⟨by omega, by omega⟩) true (fun _ => Dat.cells x5),.ct g0 6 20 false [] [] [(kf true (.f 12) l14 (fun _ => (G15 1).ss 0)).a, (kf true (.f 13) l15 (fun _ => (G15 1).ss 1)).a, (kx true (.g 5 0) x5 x5.P.Digits.l (fun _ => x5.P.Digits.s) (fun _ H (h : Dat.good H (x5 : DFrac)) => h.1)).a, (kx true (.g 5 0) x5 x5.Q.Digits.l (fun _ => x5.Q.Digits.s) (fun _ H (h : Dat.good H (x5 : DFrac)) => h.2)).a] (fun _ G => fmul_ctv n32 l14 ((G15 1).ss 0) n33 l15 ((G15 1).ss 1) x5.P.Sign x5.P.Digits.l x5.P.Digits.s x5.Q.Sign x5.Q.Digits.l x5.Q.Digits.s (by omega) (by omega) (by omega) (by omega) n56 hn56 l22 hl22 n57 hn57 l23 hl23 n58 hn58),.v fun G => .tuple #[ag (DFrac.mk (DBig.mk n56 ⟨l22, (G 6).ss 0⟩) (DBig.mk n57 ⟨l23, (G 6).ss 1⟩)), iv n58],.v fun G => ag (DFrac.mk (DBig.mk n56 ⟨l22, (G 6).ss 0⟩) (DBig.mk n57 ⟨l23, (G 6).ss 1⟩)),.k (iv n58),.nb 10 7 (fun b => pp b 0) 30 (fun _ => ca (DFrac.mk (DBig.mk 0 ⟨[], {}⟩) (DBig.mk 0 ⟨[], {}⟩))),.st 7 (fun G => .blk ((G 10).b) (ca (DFrac.mk (DBig.mk n56 ⟨l22, (G 6).ss 0⟩) (DBig.mk n57 ⟨l23, (G 6).ss 1⟩))) 30),.k (iv n58)] fun _ _ G26 kw26 => ?_
      intro S_ s_
      obtain ⟨⟨⟨kl23, -⟩, ⟨kl24, -⟩⟩, ⟨kl25, -⟩, ⟨kl26, -⟩, -⟩ : (Lq x5.P.Digits.l x5.P.Digits.s.v ∧ Lq x5.Q.Digits.l x5.Q.Digits.s.v) ∧ Lq l22 (((G26 6).ss 0).v) ∧ Lq l23 (((G26 6).ss 1).v) ∧ Lq ([⟨#[107]⟩, ⟨#[77]⟩, ⟨#[71]⟩, ⟨#[109]⟩] : List ByteArray) (SV.v ⟨atB (G12 0).b, 4, 4⟩) ∧ Lq l13 (SV.v ⟨atB (G13 5).b, 4, 4⟩) ∧ True := kn kw26 (by kernel_rfl)
      clear kw26
      refine nm ((decide (n55 = 0)) && (decide (n47 = n26 ∧ n48 = n27 ∧ n49 = n28 ∧ n50 = n29 ∧ n51 = n30 ∧ n52 = n31)) : Bool) fun p9 hp9 => ?_
      have e22 : n55 = 0 := by rw [hn55, hrq]
      have e22_0 : n47 = n26 := by rw [hn47, hn26, hrq, hrs1]; rfl
      have e22_1 : n48 = n27 := by rw [hn48, hn27, hrq, hrs1]; rfl
      have e22_2 : n49 = n28 := by rw [hn49, hn28, hrq, hrs1]; rfl
      have e22_3 : n50 = n29 := by rw [hn50, hn29, hrq, hrs1]; rfl
      have e22_4 : n51 = n30 := by rw [hn51, hn30, hrq, hrs1]; rfl
      have e22_5 : n52 = n31 := by rw [hn52, hn31, hrq, hrs1]; rfl
      have z22 := Fr.Fz.of (show (Un.read t3).1.isSome = true by rw [hrq]; rfl) hn53 hl20 hn54 hl21
      rw [show Un.fv (Un.read t3).1 = Un.fv (Un.sym s) * 1000000 by rw [hrq]; rfl] at z22
      have hs22 := Fr.Fz.inj z22 zw
      refine V.g [.kb true,.kb true,.k (iv n55),.k (bv (decide (n55 = 0))),.k (bv (decide (n55 = 0))),.k (bv (decide (n55 = 0))),.k (pp ((G22 10).b) 0),.ld 6 0 true (fun _ => [iv n47, iv n48, iv n49, iv n50, iv n51, iv n52]),.k (pp ((G15 5).b) 0),.ld 5 0 true (fun _ => [iv n26, iv n27, iv n28, iv n29, iv n30, iv n31]),.aeq false 23 #[iv n47, iv n48, iv n49, iv n50, iv n51, iv n52] #[iv n26, iv n27, iv n28, iv n29, iv n30, iv n31] _ fun w => dim_equal w n47 n48 n49 n50 n51 n52 n26 n27 n28 n29 n30 n31,.andn g0 false (decide (n55 = 0)) (decide (n47 = n26 ∧ n48 = n27 ∧ n49 = n28 ∧ n50 = n29 ∧ n51 = n30 ∧ n52 = n31)) p9 hp9,.k (bv p9),.k (pp ((G22 10).b) 6),.ld 6 6 true (fun _ => Dat.cells (DFrac.mk (DBig.mk n53 ⟨l20, (G22 6).ss 0⟩) (DBig.mk n54 ⟨l21, (G22 6).ss 1⟩))),.ld 7 0 true (fun _ => Dat.cells (DFrac.mk (DBig.mk n56 ⟨l22, (G26 6).ss 0⟩) (DBig.mk n57 ⟨l23, (G26 6).ss 1⟩))),.cp (gT (b := p9) (iN hp9 (iAT iDT iDT))) 16 15 [(kf true (.f 14) l20 (fun _ => (G22 6).ss 0)).a, (kf true (.f 15) l21 (fun _ => (G22 6).ss 1)).a, (kf true (.f 17) l22 (fun _ => (G26 6).ss 0)).a, (kf true (.f 18) l23 (fun _ => (G26 6).ss 1)).a] (fun hg G => same5t_ct n53 l20 ((G22 6).ss 0) n54 l21 ((G22 6).ss 1) n56 l22 ((G26 6).ss 0) n57 l23 ((G26 6).ss 1) hs22),.and g0 false p9 true,.k (bv (p9 && true))] fun _ _ G27 => ?_
      intro S_ s_
      have e0 : (p9 && true) = true := by
        refine (iAT (iN hp9 (iAT iDT iDT)) iTT).2 ?_
        have e6 := And.intro e22 (And.intro e22_0 (And.intro e22_1 (And.intro e22_2 (And.intro e22_3 (And.intro e22_4 e22_5)))))
        first | exact ⟨e6, trivial⟩ | exact e6
      exact V.ret [0] [] [] [] [] [] (bv (p9 && true)) (fun _ _ => by kernel_rfl) (fun _ _ => (Eq.trans (by kernel_rfl) (cong1 (fun (x0 : Bool) => (bv x0 : Value)) e0)).trans (by kernel_rfl)) (fun _ _ => trivial)
    · refine V.alt (fun (zz : Int) => (⟨[(1, tv s), (7, bv true), (10, pp ((G8 5).b) 0), (12, iv zz), (13, SV.v ⟨atB (G12 0).b, 4, 4⟩), (14, SV.v ⟨atB (G13 5).b, 4, 4⟩), (15, pp ((G15 5).b) 0), (16, iv n34)], [fs true l1 ((G6 2).ss 0), fs true l2 ((G6 2).ss 1), fs true l5 ((G8 1).ss 0), fs true l6 ((G8 1).ss 1), fs true l7 ((G13 0).ss 0), fs true l4 ((G13 0).ss 1), fs true l8 ((G13 1).ss 0), fs true l4 ((G13 1).ss 1), fs true l9 ((G13 2).ss 0), fs true l4 ((G13 2).ss 1), fs true l11 ((G14 1).ss 0), fs true l12 ((G14 1).ss 1), fs true l14 ((G15 1).ss 0), fs true l15 ((G15 1).ss 1)], [.blk ((G1 0).b) #[iv d0, iv d1, iv d2, iv d3, iv d4, iv d5] 23, .blk ((G6 6).b) #[iv n1, iv n2, iv n3, iv n4, iv n5, iv n6, iv n7, ((G6 2).ss 0).v, iv n8, ((G6 2).ss 1).v] 32, .blk ((G8 5).b) #[iv n11, iv n12, iv n13, iv n14, iv n15, iv n16, iv n17, ((G8 1).ss 0).v, iv n18, ((G8 1).ss 1).v] 32, os true 9 ([⟨#[107]⟩, ⟨#[77]⟩, ⟨#[71]⟩, ⟨#[109]⟩] : List ByteArray) ⟨atB (G12 0).b, 4, 4⟩, os true 30 l13 ⟨atB (G13 5).b, 4, 4⟩, .blk ((G15 5).b) #[iv n26, iv n27, iv n28, iv n29, iv n30, iv n31, iv n32, ((G15 1).ss 0).v, iv n33, ((G15 1).ss 1).v] 32, .no, .no]⟩ : St)) hcs3 [0, 1, 2, 3, 4, 5, 6, 7, 8, 9, 10, 11, 12, 13] (by kernel_rfl) ?_
      refine nm (([⟨#[107]⟩, ⟨#[77]⟩, ⟨#[71]⟩, ⟨#[109]⟩] : List ByteArray).getD (2 : Int).toNat default : ByteArray) fun x6 hx6 => ?_
      refine nm (x6 ++ s : ByteArray) fun t4 ht4 => ?_
      have ht4n : t4.size = x6.size + s.size := by rw [ht4, ByteArray.size_append]
      refine nm (Un.dv ((Un.read t4).1) 0 : Int) fun n59 hn59 => ?_
      refine nm (Un.dv ((Un.read t4).1) 1 : Int) fun n60 hn60 => ?_
      refine nm (Un.dv ((Un.read t4).1) 2 : Int) fun n61 hn61 => ?_
      refine nm (Un.dv ((Un.read t4).1) 3 : Int) fun n62 hn62 => ?_
      refine nm (Un.dv ((Un.read t4).1) 4 : Int) fun n63 hn63 => ?_
      refine nm (Un.dv ((Un.read t4).1) 5 : Int) fun n64 hn64 => ?_
      refine nm (Fr.rS (((Un.read t4).1).isSome = true) (Un.fv ((Un.read t4).1)) : Int) fun n65 hn65 => ?_
      refine nm (Fr.rD (((Un.read t4).1).isSome = true) (Un.fv ((Un.read t4).1)) : List Int) fun l24 hl24 => ?_
      have hl24n := congrArg List.length hl24
      refine nm (Fr.rT (((Un.read t4).1).isSome = true) : Int) fun n66 hn66 => ?_
      refine nm (Fr.rE (((Un.read t4).1).isSome = true) (Un.fv ((Un.read t4).1)) : List Int) fun l25 hl25 => ?_
      have hl25n := congrArg List.length hl25
      refine nm ((Un.read t4).2 : Int) fun n67 hn67 => ?_
      have hxp : x6 = ⟨#[71]⟩ := by rw [hx6]; rfl
      have hxpn : x6.size = 1 := by rw [hxp]; rfl
      have hrp := Un.read_pfx _ hmem ((⟨#[71]⟩, 1000000000)) (by unfold Un.pxs; simp)
      have htt : t4 = ⟨#[71]⟩ ++ s := by rw [ht4, hxp]
      have hrq : Un.read t4 = if Un.pf s then (some (((Un.sym s).getD ([], 0)).1, Un.fv (Un.sym s) * 1000000000), 0) else (none, 11) := by rw [htt]; exact hrp
      refine V.r [.k (SV.v ⟨atB (G12 0).b, 4, 4⟩),.k (iv 2),.ix g0 (ko true 9 3 ([⟨#[107]⟩, ⟨#[77]⟩, ⟨#[71]⟩, ⟨#[109]⟩] : List ByteArray) (fun _ => ⟨atB (G12 0).b, 4, 4⟩)) 2 (fun _ => ⟨by omega, by simp only [List.length_cons, List.length_nil, List.length_set]; omega⟩),.le g0 (ko true 9 3 ([⟨#[107]⟩, ⟨#[77]⟩, ⟨#[71]⟩, ⟨#[109]⟩] : List ByteArray) (fun _ => ⟨atB (G12 0).b, 4, 4⟩)) (2 : Int) none false x6 hx6 (fun _ => ⟨by omega, by simp only [List.length_cons, List.length_nil, List.length_set]; omega⟩) false (fun _ => [tv x6]),.k (tv s),.sad g0 x6 s t4 ht4 (fun _ => by omega),.ct g0 6 13 false [] [] [] (fun _ G => uread_ctv t4 (by omega) n59 hn59 n60 hn60 n61 hn61 n62 hn62 n63 hn63 n64 hn64 n65 hn65 l24 hl24 n66 hn66 l25 hl25 n67 hn67),.v fun G => .tuple #[.agg #[iv n59, iv n60, iv n61, iv n62, iv n63, iv n64, iv n65, ((G 6).ss 0).v, iv n66, ((G 6).ss 1).v], iv n67],.v fun G => .agg #[iv n59, iv n60, iv n61, iv n62, iv n63, iv n64, iv n65, ((G 6).ss 0).v, iv n66, ((G 6).ss 1).v],.k (iv n67),.nb 10 6 (fun b => pp b 0) 32 (fun _ => #[iv 0, iv 0, iv 0, iv 0, iv 0, iv 0, iv 0, .slice none 0 0, iv 0, .slice none 0 0]),.st 6 (fun G => .blk ((G 10).b) #[iv n59, iv n60, iv n61, iv n62, iv n63, iv n64, iv n65, ((G 6).ss 0).v, iv n66, ((G 6).ss 1).v] 32),.k (iv n67)] fun _ _ G28 kw28 => ?_
      intro S_ s_
      obtain ⟨⟨kl27, -⟩, ⟨kl28, -⟩, -⟩ : Lq l24 (((G28 6).ss 0).v) ∧ Lq l25 (((G28 6).ss 1).v) ∧ Lq ([⟨#[107]⟩, ⟨#[77]⟩, ⟨#[71]⟩, ⟨#[109]⟩] : List ByteArray) (SV.v ⟨atB (G12 0).b, 4, 4⟩) ∧ Lq l13 (SV.v ⟨atB (G13 5).b, 4, 4⟩) ∧ True := kn kw28 (by kernel_rfl)
      clear kw28
      refine V.g [.k (iv n34),.k (bv (!(decide (n34 = 0)))),.k (bv (!(decide (n34 = 0)))),.ld 2 0 true (fun _ => [iv n11, iv n12, iv n13, iv n14, iv n15, iv n16, iv n17, ((G8 1).ss 0).v, iv n18, ((G8 1).ss 1).v]),.ld 5 0 true (fun _ => [iv n26, iv n27, iv n28, iv n29, iv n30, iv n31, iv n32, ((G15 1).ss 0).v, iv n33, ((G15 1).ss 1).v]),.cp (gF (b := !(decide (n34 = 0))) (iNF iDT)) 5 19 [(kf true (.f 2) l5 (fun _ => (G8 1).ss 0)).a, (kf true (.f 3) l6 (fun _ => (G8 1).ss 1)).a, (kf true (.f 12) l14 (fun _ => (G15 1).ss 0)).a, (kf true (.f 13) l15 (fun _ => (G15 1).ss 1)).a] (fun hg G => same9t_ct n11 n12 n13 n14 n15 n16 n17 l5 ((G8 1).ss 0) n18 l6 ((G8 1).ss 1) n26 n27 n28 n29 n30 n31 n32 l14 ((G15 1).ss 0) n33 l15 ((G15 1).ss 1) hS9),.kb false,.or g0 false (!(decide (n34 = 0))) false] fun _ _ G29 => ?_
      intro S_ s_
      refine V.cond (b := (!(decide (n34 = 0))) || false) (iOT (iNT iDF) iFT) (iOF (iNF iDT) iFF) (by kernel_rfl) (fun q17 => ?_) (fun q18 => ?_)
      · exfalso; have hqq := q17; rcases hqq with h | h
        · exact h e15
        exact h.elim
      refine nm ((!(decide (s = ⟨#[103]⟩))) && (!(decide (s = ⟨#[109]⟩))) : Bool) fun p10 hp10 => ?_
      refine nm ((p10 && (!(decide (s = ⟨#[108]⟩)))) && (!(decide (s = ⟨#[115]⟩))) : Bool) fun p11 hp11 => ?_
      refine nm ((p11 && (!(decide (s = ⟨#[74]⟩)))) && (!(decide (s = ⟨#[87, 104]⟩))) : Bool) fun p12 hp12 => ?_
      refine V.g [.k (tv s),.sne s ⟨#[103]⟩,.k (bv (!(decide (s = ⟨#[103]⟩)))),.k (tv s),.sne s ⟨#[109]⟩,.andn g0 false (!(decide (s = ⟨#[103]⟩))) (!(decide (s = ⟨#[109]⟩))) p10 hp10,.k (bv p10),.k (tv s),.sne s ⟨#[108]⟩,.and g0 false p10 (!(decide (s = ⟨#[108]⟩))),.k (bv (p10 && (!(decide (s = ⟨#[108]⟩))))),.k (tv s),.sne s ⟨#[115]⟩,.andn g0 false (p10 && (!(decide (s = ⟨#[108]⟩)))) (!(decide (s = ⟨#[115]⟩))) p11 hp11,.k (bv p11),.k (tv s),.sne s ⟨#[74]⟩,.and g0 false p11 (!(decide (s = ⟨#[74]⟩))),.k (bv (p11 && (!(decide (s = ⟨#[74]⟩))))),.k (tv s),.sne s ⟨#[87, 104]⟩,.andn g0 false (p11 && (!(decide (s = ⟨#[74]⟩)))) (!(decide (s = ⟨#[87, 104]⟩))) p12 hp12] fun _ _ G30 => ?_
      intro S_ s_
      refine V.cond (b := p12) (iN hp12 (iAT (iAT (iN hp11 (iAT (iAT (iN hp10 (iAT (iNT iDF) (iNT iDF))) (iNT iDF)) (iNT iDF))) (iNT iDF)) (iNT iDF))) (iN hp12 (iAF (iAF (iN hp11 (iAF (iAF (iN hp10 (iAF (iNF iDT) (iNF iDT))) (iNF iDT)) (iNF iDT))) (iNF iDT)) (iNF iDT))) (by kernel_rfl) (fun q19 => ?_) (fun q20 => ?_)
      · have hnp : ¬ Un.pf s := by have hqq := q19; obtain ⟨⟨⟨⟨⟨h1, h2⟩, h3⟩, h4⟩, h5⟩, h6⟩ := hqq; rintro (((((h | h) | h) | h) | h) | h); exact h1 h; exact h2 h; exact h3 h; exact h4 h; exact h5 h; exact h6 h
        rw [if_neg hnp] at hrq
        refine V.g [.kb true,.kb true,.k (iv n67),.k (bv (decide (n67 = 11))),.k (bv (decide (n67 = 11))),.k (bv (decide (n67 = 11)))] fun _ _ G31 => ?_
        intro S_ s_
        have e0 : (decide (n67 = 11)) = true := by
          refine iDT.2 ?_
          have e20 : n67 = 11 := by rw [hn67, hrq]
          first | exact e20 | exact ⟨trivial, e20⟩
        exact V.ret [0] [] [] [] [] [] (bv (decide (n67 = 11))) (fun _ _ => by kernel_rfl) (fun _ _ => (Eq.trans (by kernel_rfl) (cong1 (fun (x0 : Bool) => (bv x0 : Value)) e0)).trans (by kernel_rfl)) (fun _ _ => trivial)
      have hpf : Un.pf s := by have hqq := q20; exact hqq
      rw [if_pos hpf] at hrq
      refine nm (l13.getD (2 : Int).toNat default : DFrac) fun x7 hx7 => ?_
      refine nm (Fr.rS (Fr.FrB n32 l14 n33 l15 ∧ Fr.FrB x7.P.Sign x7.P.Digits.l x7.Q.Sign x7.Q.Digits.l) ((Fr.fq n32 l14 l15) * (Fr.fq x7.P.Sign x7.P.Digits.l x7.Q.Digits.l)) : Int) fun n68 hn68 => ?_
      refine nm (Fr.rD (Fr.FrB n32 l14 n33 l15 ∧ Fr.FrB x7.P.Sign x7.P.Digits.l x7.Q.Sign x7.Q.Digits.l) ((Fr.fq n32 l14 l15) * (Fr.fq x7.P.Sign x7.P.Digits.l x7.Q.Digits.l)) : List Int) fun l26 hl26 => ?_
      have hl26n := congrArg List.length hl26
      refine nm (Fr.rT (Fr.FrB n32 l14 n33 l15 ∧ Fr.FrB x7.P.Sign x7.P.Digits.l x7.Q.Sign x7.Q.Digits.l) : Int) fun n69 hn69 => ?_
      refine nm (Fr.rE (Fr.FrB n32 l14 n33 l15 ∧ Fr.FrB x7.P.Sign x7.P.Digits.l x7.Q.Sign x7.Q.Digits.l) ((Fr.fq n32 l14 l15) * (Fr.fq x7.P.Sign x7.P.Digits.l x7.Q.Digits.l)) : List Int) fun l27 hl27 => ?_
      have hl27n := congrArg List.length hl27
      refine nm (if ¬ (Fr.FrB n32 l14 n33 l15 ∧ Fr.FrB x7.P.Sign x7.P.Digits.l x7.Q.Sign x7.Q.Digits.l) then (1 : Int) else 0 : Int) fun n70 hn70 => ?_
      have zt : Fr.Fz x7.P.Sign x7.P.Digits.l x7.Q.Sign x7.Q.Digits.l (1000000000) := by rw [hx7, hl13, hl10]; exact z13_2
      have htl := zt.len (k := 4) (by decide +kernel); have htl1 := htl.1; have htl2 := htl.2
      have zw := Fr.Fz.of (And.intro zb.rt zt.rt) hn68 hl26 hn69 hl27
      rw [zb.v, zt.v] at zw
      refine V.r [.k (pp ((G15 5).b) 6),.ld 5 6 true (fun _ => Dat.cells (DFrac.mk (DBig.mk n32 ⟨l14, (G15 1).ss 0⟩) (DBig.mk n33 ⟨l15, (G15 1).ss 1⟩))),.k (SV.v ⟨atB (G13 5).b, 4, 4⟩),.k (iv 2),.ix g0 (ko true 30 4 l13 (fun _ => ⟨atB (G13 5).b, 4, 4⟩)) 2 (fun _ => ⟨by omega, by omega⟩),.le g0 (ko true 30 4 l13 (fun _ => ⟨atB (G13 5).b, 4, 4⟩)) (2 : Int) none true x7 hx7 (fun _ => ⟨by omega, by omega⟩) true (fun _ => Dat.cells x7),.ct g0 6 20 false [] [] [(kf true (.f 12) l14 (fun _ => (G15 1).ss 0)).a, (kf true (.f 13) l15 (fun _ => (G15 1).ss 1)).a, (kx true (.g 5 0) x7 x7.P.Digits.l (fun _ => x7.P.Digits.s) (fun _ H (h : Dat.good H (x7 : DFrac)) => h.1)).a, (kx true (.g 5 0) x7 x7.Q.Digits.l (fun _ => x7.Q.Digits.s) (fun _ H (h : Dat.good H (x7 : DFrac)) => h.2)).a] (fun _ G => fmul_ctv n32 l14 ((G15 1).ss 0) n33 l15 ((G15 1).ss 1) x7.P.Sign x7.P.Digits.l x7.P.Digits.s x7.Q.Sign x7.Q.Digits.l x7.Q.Digits.s (by omega) (by omega) (by omega) (by omega) n68 hn68 l26 hl26 n69 hn69 l27 hl27 n70 hn70),.v fun G => .tuple #[ag (DFrac.mk (DBig.mk n68 ⟨l26, (G 6).ss 0⟩) (DBig.mk n69 ⟨l27, (G 6).ss 1⟩)), iv n70],.v fun G => ag (DFrac.mk (DBig.mk n68 ⟨l26, (G 6).ss 0⟩) (DBig.mk n69 ⟨l27, (G 6).ss 1⟩)),.k (iv n70),.nb 10 7 (fun b => pp b 0) 30 (fun _ => ca (DFrac.mk (DBig.mk 0 ⟨[], {}⟩) (DBig.mk 0 ⟨[], {}⟩))),.st 7 (fun G => .blk ((G 10).b) (ca (DFrac.mk (DBig.mk n68 ⟨l26, (G 6).ss 0⟩) (DBig.mk n69 ⟨l27, (G 6).ss 1⟩))) 30),.k (iv n70)] fun _ _ G32 kw32 => ?_
      intro S_ s_
      obtain ⟨⟨⟨kl29, -⟩, ⟨kl30, -⟩⟩, ⟨kl31, -⟩, ⟨kl32, -⟩, -⟩ : (Lq x7.P.Digits.l x7.P.Digits.s.v ∧ Lq x7.Q.Digits.l x7.Q.Digits.s.v) ∧ Lq l26 (((G32 6).ss 0).v) ∧ Lq l27 (((G32 6).ss 1).v) ∧ Lq ([⟨#[107]⟩, ⟨#[77]⟩, ⟨#[71]⟩, ⟨#[109]⟩] : List ByteArray) (SV.v ⟨atB (G12 0).b, 4, 4⟩) ∧ Lq l13 (SV.v ⟨atB (G13 5).b, 4, 4⟩) ∧ True := kn kw32 (by kernel_rfl)
      clear kw32
      refine nm ((decide (n67 = 0)) && (decide (n59 = n26 ∧ n60 = n27 ∧ n61 = n28 ∧ n62 = n29 ∧ n63 = n30 ∧ n64 = n31)) : Bool) fun p13 hp13 => ?_
      have e22 : n67 = 0 := by rw [hn67, hrq]
      have e22_0 : n59 = n26 := by rw [hn59, hn26, hrq, hrs1]; rfl
      have e22_1 : n60 = n27 := by rw [hn60, hn27, hrq, hrs1]; rfl
      have e22_2 : n61 = n28 := by rw [hn61, hn28, hrq, hrs1]; rfl
      have e22_3 : n62 = n29 := by rw [hn62, hn29, hrq, hrs1]; rfl
      have e22_4 : n63 = n30 := by rw [hn63, hn30, hrq, hrs1]; rfl
      have e22_5 : n64 = n31 := by rw [hn64, hn31, hrq, hrs1]; rfl
      have z22 := Fr.Fz.of (show (Un.read t4).1.isSome = true by rw [hrq]; rfl) hn65 hl24 hn66 hl25
      rw [show Un.fv (Un.read t4).1 = Un.fv (Un.sym s) * 1000000000 by rw [hrq]; rfl] at z22
      have hs22 := Fr.Fz.inj z22 zw
      refine V.g [.kb true,.kb true,.k (iv n67),.k (bv (decide (n67 = 0))),.k (bv (decide (n67 = 0))),.k (bv (decide (n67 = 0))),.k (pp ((G28 10).b) 0),.ld 6 0 true (fun _ => [iv n59, iv n60, iv n61, iv n62, iv n63, iv n64]),.k (pp ((G15 5).b) 0),.ld 5 0 true (fun _ => [iv n26, iv n27, iv n28, iv n29, iv n30, iv n31]),.aeq false 23 #[iv n59, iv n60, iv n61, iv n62, iv n63, iv n64] #[iv n26, iv n27, iv n28, iv n29, iv n30, iv n31] _ fun w => dim_equal w n59 n60 n61 n62 n63 n64 n26 n27 n28 n29 n30 n31,.andn g0 false (decide (n67 = 0)) (decide (n59 = n26 ∧ n60 = n27 ∧ n61 = n28 ∧ n62 = n29 ∧ n63 = n30 ∧ n64 = n31)) p13 hp13,.k (bv p13),.k (pp ((G28 10).b) 6),.ld 6 6 true (fun _ => Dat.cells (DFrac.mk (DBig.mk n65 ⟨l24, (G28 6).ss 0⟩) (DBig.mk n66 ⟨l25, (G28 6).ss 1⟩))),.ld 7 0 true (fun _ => Dat.cells (DFrac.mk (DBig.mk n68 ⟨l26, (G32 6).ss 0⟩) (DBig.mk n69 ⟨l27, (G32 6).ss 1⟩))),.cp (gT (b := p13) (iN hp13 (iAT iDT iDT))) 16 15 [(kf true (.f 14) l24 (fun _ => (G28 6).ss 0)).a, (kf true (.f 15) l25 (fun _ => (G28 6).ss 1)).a, (kf true (.f 17) l26 (fun _ => (G32 6).ss 0)).a, (kf true (.f 18) l27 (fun _ => (G32 6).ss 1)).a] (fun hg G => same5t_ct n65 l24 ((G28 6).ss 0) n66 l25 ((G28 6).ss 1) n68 l26 ((G32 6).ss 0) n69 l27 ((G32 6).ss 1) hs22),.and g0 false p13 true,.k (bv (p13 && true))] fun _ _ G33 => ?_
      intro S_ s_
      have e0 : (p13 && true) = true := by
        refine (iAT (iN hp13 (iAT iDT iDT)) iTT).2 ?_
        have e6 := And.intro e22 (And.intro e22_0 (And.intro e22_1 (And.intro e22_2 (And.intro e22_3 (And.intro e22_4 e22_5)))))
        first | exact ⟨e6, trivial⟩ | exact e6
      exact V.ret [0] [] [] [] [] [] (bv (p13 && true)) (fun _ _ => by kernel_rfl) (fun _ _ => (Eq.trans (by kernel_rfl) (cong1 (fun (x0 : Bool) => (bv x0 : Value)) e0)).trans (by kernel_rfl)) (fun _ _ => trivial)
    refine V.alt (fun (zz : Int) => (⟨[(1, tv s), (7, bv true), (10, pp ((G8 5).b) 0), (12, iv zz), (13, SV.v ⟨atB (G12 0).b, 4, 4⟩), (14, SV.v ⟨atB (G13 5).b, 4, 4⟩), (15, pp ((G15 5).b) 0), (16, iv n34)], [fs true l1 ((G6 2).ss 0), fs true l2 ((G6 2).ss 1), fs true l5 ((G8 1).ss 0), fs true l6 ((G8 1).ss 1), fs true l7 ((G13 0).ss 0), fs true l4 ((G13 0).ss 1), fs true l8 ((G13 1).ss 0), fs true l4 ((G13 1).ss 1), fs true l9 ((G13 2).ss 0), fs true l4 ((G13 2).ss 1), fs true l11 ((G14 1).ss 0), fs true l12 ((G14 1).ss 1), fs true l14 ((G15 1).ss 0), fs true l15 ((G15 1).ss 1)], [.blk ((G1 0).b) #[iv d0, iv d1, iv d2, iv d3, iv d4, iv d5] 23, .blk ((G6 6).b) #[iv n1, iv n2, iv n3, iv n4, iv n5, iv n6, iv n7, ((G6 2).ss 0).v, iv n8, ((G6 2).ss 1).v] 32, .blk ((G8 5).b) #[iv n11, iv n12, iv n13, iv n14, iv n15, iv n16, iv n17, ((G8 1).ss 0).v, iv n18, ((G8 1).ss 1).v] 32, os true 9 ([⟨#[107]⟩, ⟨#[77]⟩, ⟨#[71]⟩, ⟨#[109]⟩] : List ByteArray) ⟨atB (G12 0).b, 4, 4⟩, os true 30 l13 ⟨atB (G13 5).b, 4, 4⟩, .blk ((G15 5).b) #[iv n26, iv n27, iv n28, iv n29, iv n30, iv n31, iv n32, ((G15 1).ss 0).v, iv n33, ((G15 1).ss 1).v] 32, .no, .no]⟩ : St)) hcs4 [0, 1, 2, 3, 4, 5, 6, 7, 8, 9, 10, 11, 12, 13] (by kernel_rfl) ?_
    refine nm (([⟨#[107]⟩, ⟨#[77]⟩, ⟨#[71]⟩, ⟨#[109]⟩] : List ByteArray).getD (3 : Int).toNat default : ByteArray) fun x8 hx8 => ?_
    refine nm (x8 ++ s : ByteArray) fun t5 ht5 => ?_
    have ht5n : t5.size = x8.size + s.size := by rw [ht5, ByteArray.size_append]
    refine nm (Un.dv ((Un.read t5).1) 0 : Int) fun n71 hn71 => ?_
    refine nm (Un.dv ((Un.read t5).1) 1 : Int) fun n72 hn72 => ?_
    refine nm (Un.dv ((Un.read t5).1) 2 : Int) fun n73 hn73 => ?_
    refine nm (Un.dv ((Un.read t5).1) 3 : Int) fun n74 hn74 => ?_
    refine nm (Un.dv ((Un.read t5).1) 4 : Int) fun n75 hn75 => ?_
    refine nm (Un.dv ((Un.read t5).1) 5 : Int) fun n76 hn76 => ?_
    refine nm (Fr.rS (((Un.read t5).1).isSome = true) (Un.fv ((Un.read t5).1)) : Int) fun n77 hn77 => ?_
    refine nm (Fr.rD (((Un.read t5).1).isSome = true) (Un.fv ((Un.read t5).1)) : List Int) fun l28 hl28 => ?_
    have hl28n := congrArg List.length hl28
    refine nm (Fr.rT (((Un.read t5).1).isSome = true) : Int) fun n78 hn78 => ?_
    refine nm (Fr.rE (((Un.read t5).1).isSome = true) (Un.fv ((Un.read t5).1)) : List Int) fun l29 hl29 => ?_
    have hl29n := congrArg List.length hl29
    refine nm ((Un.read t5).2 : Int) fun n79 hn79 => ?_
    have hxp : x8 = ⟨#[109]⟩ := by rw [hx8]; rfl
    have hxpn : x8.size = 1 := by rw [hxp]; rfl
    have hrp := Un.read_pfx _ hmem ((⟨#[109]⟩, Rat.divInt 1 1000)) (by unfold Un.pxs; simp)
    have htt : t5 = ⟨#[109]⟩ ++ s := by rw [ht5, hxp]
    have hrq : Un.read t5 = if Un.pf s then (some (((Un.sym s).getD ([], 0)).1, Un.fv (Un.sym s) * Rat.divInt 1 1000), 0) else (none, 11) := by rw [htt]; exact hrp
    refine V.r [.k (SV.v ⟨atB (G12 0).b, 4, 4⟩),.k (iv 3),.ix g0 (ko true 9 3 ([⟨#[107]⟩, ⟨#[77]⟩, ⟨#[71]⟩, ⟨#[109]⟩] : List ByteArray) (fun _ => ⟨atB (G12 0).b, 4, 4⟩)) 3 (fun _ => ⟨by omega, by simp only [List.length_cons, List.length_nil, List.length_set]; omega⟩),.le g0 (ko true 9 3 ([⟨#[107]⟩, ⟨#[77]⟩, ⟨#[71]⟩, ⟨#[109]⟩] : List ByteArray) (fun _ => ⟨atB (G12 0).b, 4, 4⟩)) (3 : Int) none false x8 hx8 (fun _ => ⟨by omega, by simp only [List.length_cons, List.length_nil, List.length_set]; omega⟩) false (fun _ => [tv x8]),.k (tv s),.sad g0 x8 s t5 ht5 (fun _ => by omega),.ct g0 6 13 false [] [] [] (fun _ G => uread_ctv t5 (by omega) n71 hn71 n72 hn72 n73 hn73 n74 hn74 n75 hn75 n76 hn76 n77 hn77 l28 hl28 n78 hn78 l29 hl29 n79 hn79),.v fun G => .tuple #[.agg #[iv n71, iv n72, iv n73, iv n74, iv n75, iv n76, iv n77, ((G 6).ss 0).v, iv n78, ((G 6).ss 1).v], iv n79],.v fun G => .agg #[iv n71, iv n72, iv n73, iv n74, iv n75, iv n76, iv n77, ((G 6).ss 0).v, iv n78, ((G 6).ss 1).v],.k (iv n79),.nb 10 6 (fun b => pp b 0) 32 (fun _ => #[iv 0, iv 0, iv 0, iv 0, iv 0, iv 0, iv 0, .slice none 0 0, iv 0, .slice none 0 0]),.st 6 (fun G => .blk ((G 10).b) #[iv n71, iv n72, iv n73, iv n74, iv n75, iv n76, iv n77, ((G 6).ss 0).v, iv n78, ((G 6).ss 1).v] 32),.k (iv n79)] fun _ _ G34 kw34 => ?_
    intro S_ s_
    obtain ⟨⟨kl33, -⟩, ⟨kl34, -⟩, -⟩ : Lq l28 (((G34 6).ss 0).v) ∧ Lq l29 (((G34 6).ss 1).v) ∧ Lq ([⟨#[107]⟩, ⟨#[77]⟩, ⟨#[71]⟩, ⟨#[109]⟩] : List ByteArray) (SV.v ⟨atB (G12 0).b, 4, 4⟩) ∧ Lq l13 (SV.v ⟨atB (G13 5).b, 4, 4⟩) ∧ True := kn kw34 (by kernel_rfl)
    clear kw34
    refine V.g [.k (iv n34),.k (bv (!(decide (n34 = 0)))),.k (bv (!(decide (n34 = 0)))),.ld 2 0 true (fun _ => [iv n11, iv n12, iv n13, iv n14, iv n15, iv n16, iv n17, ((G8 1).ss 0).v, iv n18, ((G8 1).ss 1).v]),.ld 5 0 true (fun _ => [iv n26, iv n27, iv n28, iv n29, iv n30, iv n31, iv n32, ((G15 1).ss 0).v, iv n33, ((G15 1).ss 1).v]),.cp (gF (b := !(decide (n34 = 0))) (iNF iDT)) 5 19 [(kf true (.f 2) l5 (fun _ => (G8 1).ss 0)).a, (kf true (.f 3) l6 (fun _ => (G8 1).ss 1)).a, (kf true (.f 12) l14 (fun _ => (G15 1).ss 0)).a, (kf true (.f 13) l15 (fun _ => (G15 1).ss 1)).a] (fun hg G => same9t_ct n11 n12 n13 n14 n15 n16 n17 l5 ((G8 1).ss 0) n18 l6 ((G8 1).ss 1) n26 n27 n28 n29 n30 n31 n32 l14 ((G15 1).ss 0) n33 l15 ((G15 1).ss 1) hS9),.kb false,.or g0 false (!(decide (n34 = 0))) false] fun _ _ G35 => ?_
    intro S_ s_
    refine V.cond (b := (!(decide (n34 = 0))) || false) (iOT (iNT iDF) iFT) (iOF (iNF iDT) iFF) (by kernel_rfl) (fun q21 => ?_) (fun q22 => ?_)
    · exfalso; have hqq := q21; rcases hqq with h | h
      · exact h e15
      exact h.elim
    refine nm ((!(decide (s = ⟨#[103]⟩))) && (!(decide (s = ⟨#[109]⟩))) : Bool) fun p14 hp14 => ?_
    refine nm ((p14 && (!(decide (s = ⟨#[108]⟩)))) && (!(decide (s = ⟨#[115]⟩))) : Bool) fun p15 hp15 => ?_
    refine nm ((p15 && (!(decide (s = ⟨#[74]⟩)))) && (!(decide (s = ⟨#[87, 104]⟩))) : Bool) fun p16 hp16 => ?_
    refine V.g [.k (tv s),.sne s ⟨#[103]⟩,.k (bv (!(decide (s = ⟨#[103]⟩)))),.k (tv s),.sne s ⟨#[109]⟩,.andn g0 false (!(decide (s = ⟨#[103]⟩))) (!(decide (s = ⟨#[109]⟩))) p14 hp14,.k (bv p14),.k (tv s),.sne s ⟨#[108]⟩,.and g0 false p14 (!(decide (s = ⟨#[108]⟩))),.k (bv (p14 && (!(decide (s = ⟨#[108]⟩))))),.k (tv s),.sne s ⟨#[115]⟩,.andn g0 false (p14 && (!(decide (s = ⟨#[108]⟩)))) (!(decide (s = ⟨#[115]⟩))) p15 hp15,.k (bv p15),.k (tv s),.sne s ⟨#[74]⟩,.and g0 false p15 (!(decide (s = ⟨#[74]⟩))),.k (bv (p15 && (!(decide (s = ⟨#[74]⟩))))),.k (tv s),.sne s ⟨#[87, 104]⟩,.andn g0 false (p15 && (!(decide (s = ⟨#[74]⟩)))) (!(decide (s = ⟨#[87, 104]⟩))) p16 hp16] fun _ _ G36 => ?_
    intro S_ s_
    refine V.cond (b := p16) (iN hp16 (iAT (iAT (iN hp15 (iAT (iAT (iN hp14 (iAT (iNT iDF) (iNT iDF))) (iNT iDF)) (iNT iDF))) (iNT iDF)) (iNT iDF))) (iN hp16 (iAF (iAF (iN hp15 (iAF (iAF (iN hp14 (iAF (iNF iDT) (iNF iDT))) (iNF iDT)) (iNF iDT))) (iNF iDT)) (iNF iDT))) (by kernel_rfl) (fun q23 => ?_) (fun q24 => ?_)
    · have hnp : ¬ Un.pf s := by have hqq := q23; obtain ⟨⟨⟨⟨⟨h1, h2⟩, h3⟩, h4⟩, h5⟩, h6⟩ := hqq; rintro (((((h | h) | h) | h) | h) | h); exact h1 h; exact h2 h; exact h3 h; exact h4 h; exact h5 h; exact h6 h
      rw [if_neg hnp] at hrq
      refine V.g [.kb true,.kb true,.k (iv n79),.k (bv (decide (n79 = 11))),.k (bv (decide (n79 = 11))),.k (bv (decide (n79 = 11)))] fun _ _ G37 => ?_
      intro S_ s_
      have e0 : (decide (n79 = 11)) = true := by
        refine iDT.2 ?_
        have e20 : n79 = 11 := by rw [hn79, hrq]
        first | exact e20 | exact ⟨trivial, e20⟩
      exact V.ret [0] [] [] [] [] [] (bv (decide (n79 = 11))) (fun _ _ => by kernel_rfl) (fun _ _ => (Eq.trans (by kernel_rfl) (cong1 (fun (x0 : Bool) => (bv x0 : Value)) e0)).trans (by kernel_rfl)) (fun _ _ => trivial)
    have hpf : Un.pf s := by have hqq := q24; exact hqq
    rw [if_pos hpf] at hrq
    refine nm (l13.getD (3 : Int).toNat default : DFrac) fun x9 hx9 => ?_
    refine nm (Fr.rS (Fr.FrB n32 l14 n33 l15 ∧ Fr.FrB x9.P.Sign x9.P.Digits.l x9.Q.Sign x9.Q.Digits.l) ((Fr.fq n32 l14 l15) * (Fr.fq x9.P.Sign x9.P.Digits.l x9.Q.Digits.l)) : Int) fun n80 hn80 => ?_
    refine nm (Fr.rD (Fr.FrB n32 l14 n33 l15 ∧ Fr.FrB x9.P.Sign x9.P.Digits.l x9.Q.Sign x9.Q.Digits.l) ((Fr.fq n32 l14 l15) * (Fr.fq x9.P.Sign x9.P.Digits.l x9.Q.Digits.l)) : List Int) fun l30 hl30 => ?_
    have hl30n := congrArg List.length hl30
    refine nm (Fr.rT (Fr.FrB n32 l14 n33 l15 ∧ Fr.FrB x9.P.Sign x9.P.Digits.l x9.Q.Sign x9.Q.Digits.l) : Int) fun n81 hn81 => ?_
    refine nm (Fr.rE (Fr.FrB n32 l14 n33 l15 ∧ Fr.FrB x9.P.Sign x9.P.Digits.l x9.Q.Sign x9.Q.Digits.l) ((Fr.fq n32 l14 l15) * (Fr.fq x9.P.Sign x9.P.Digits.l x9.Q.Digits.l)) : List Int) fun l31 hl31 => ?_
    have hl31n := congrArg List.length hl31
    refine nm (if ¬ (Fr.FrB n32 l14 n33 l15 ∧ Fr.FrB x9.P.Sign x9.P.Digits.l x9.Q.Sign x9.Q.Digits.l) then (1 : Int) else 0 : Int) fun n82 hn82 => ?_
    have zt : Fr.Fz x9.P.Sign x9.P.Digits.l x9.Q.Sign x9.Q.Digits.l (Rat.divInt 1 1000) := by rw [hx9, hl13, hl10]; exact z13_3
    have htl := zt.len (k := 4) (by decide +kernel); have htl1 := htl.1; have htl2 := htl.2
    have zw := Fr.Fz.of (And.intro zb.rt zt.rt) hn80 hl30 hn81 hl31
    rw [zb.v, zt.v] at zw
    refine V.r [.k (pp ((G15 5).b) 6),.ld 5 6 true (fun _ => Dat.cells (DFrac.mk (DBig.mk n32 ⟨l14, (G15 1).ss 0⟩) (DBig.mk n33 ⟨l15, (G15 1).ss 1⟩))),.k (SV.v ⟨atB (G13 5).b, 4, 4⟩),.k (iv 3),.ix g0 (ko true 30 4 l13 (fun _ => ⟨atB (G13 5).b, 4, 4⟩)) 3 (fun _ => ⟨by omega, by omega⟩),.le g0 (ko true 30 4 l13 (fun _ => ⟨atB (G13 5).b, 4, 4⟩)) (3 : Int) none true x9 hx9 (fun _ => ⟨by omega, by omega⟩) true (fun _ => Dat.cells x9),.ct g0 6 20 false [] [] [(kf true (.f 12) l14 (fun _ => (G15 1).ss 0)).a, (kf true (.f 13) l15 (fun _ => (G15 1).ss 1)).a, (kx true (.g 5 0) x9 x9.P.Digits.l (fun _ => x9.P.Digits.s) (fun _ H (h : Dat.good H (x9 : DFrac)) => h.1)).a, (kx true (.g 5 0) x9 x9.Q.Digits.l (fun _ => x9.Q.Digits.s) (fun _ H (h : Dat.good H (x9 : DFrac)) => h.2)).a] (fun _ G => fmul_ctv n32 l14 ((G15 1).ss 0) n33 l15 ((G15 1).ss 1) x9.P.Sign x9.P.Digits.l x9.P.Digits.s x9.Q.Sign x9.Q.Digits.l x9.Q.Digits.s (by omega) (by omega) (by omega) (by omega) n80 hn80 l30 hl30 n81 hn81 l31 hl31 n82 hn82),.v fun G => .tuple #[ag (DFrac.mk (DBig.mk n80 ⟨l30, (G 6).ss 0⟩) (DBig.mk n81 ⟨l31, (G 6).ss 1⟩)), iv n82],.v fun G => ag (DFrac.mk (DBig.mk n80 ⟨l30, (G 6).ss 0⟩) (DBig.mk n81 ⟨l31, (G 6).ss 1⟩)),.k (iv n82),.nb 10 7 (fun b => pp b 0) 30 (fun _ => ca (DFrac.mk (DBig.mk 0 ⟨[], {}⟩) (DBig.mk 0 ⟨[], {}⟩))),.st 7 (fun G => .blk ((G 10).b) (ca (DFrac.mk (DBig.mk n80 ⟨l30, (G 6).ss 0⟩) (DBig.mk n81 ⟨l31, (G 6).ss 1⟩))) 30),.k (iv n82)] fun _ _ G38 kw38 => ?_
    intro S_ s_
    obtain ⟨⟨⟨kl35, -⟩, ⟨kl36, -⟩⟩, ⟨kl37, -⟩, ⟨kl38, -⟩, -⟩ : (Lq x9.P.Digits.l x9.P.Digits.s.v ∧ Lq x9.Q.Digits.l x9.Q.Digits.s.v) ∧ Lq l30 (((G38 6).ss 0).v) ∧ Lq l31 (((G38 6).ss 1).v) ∧ Lq ([⟨#[107]⟩, ⟨#[77]⟩, ⟨#[71]⟩, ⟨#[109]⟩] : List ByteArray) (SV.v ⟨atB (G12 0).b, 4, 4⟩) ∧ Lq l13 (SV.v ⟨atB (G13 5).b, 4, 4⟩) ∧ True := kn kw38 (by kernel_rfl)
    clear kw38
    refine nm ((decide (n79 = 0)) && (decide (n71 = n26 ∧ n72 = n27 ∧ n73 = n28 ∧ n74 = n29 ∧ n75 = n30 ∧ n76 = n31)) : Bool) fun p17 hp17 => ?_
    have e22 : n79 = 0 := by rw [hn79, hrq]
    have e22_0 : n71 = n26 := by rw [hn71, hn26, hrq, hrs1]; rfl
    have e22_1 : n72 = n27 := by rw [hn72, hn27, hrq, hrs1]; rfl
    have e22_2 : n73 = n28 := by rw [hn73, hn28, hrq, hrs1]; rfl
    have e22_3 : n74 = n29 := by rw [hn74, hn29, hrq, hrs1]; rfl
    have e22_4 : n75 = n30 := by rw [hn75, hn30, hrq, hrs1]; rfl
    have e22_5 : n76 = n31 := by rw [hn76, hn31, hrq, hrs1]; rfl
    have z22 := Fr.Fz.of (show (Un.read t5).1.isSome = true by rw [hrq]; rfl) hn77 hl28 hn78 hl29
    rw [show Un.fv (Un.read t5).1 = Un.fv (Un.sym s) * Rat.divInt 1 1000 by rw [hrq]; rfl] at z22
    have hs22 := Fr.Fz.inj z22 zw
    refine V.g [.kb true,.kb true,.k (iv n79),.k (bv (decide (n79 = 0))),.k (bv (decide (n79 = 0))),.k (bv (decide (n79 = 0))),.k (pp ((G34 10).b) 0),.ld 6 0 true (fun _ => [iv n71, iv n72, iv n73, iv n74, iv n75, iv n76]),.k (pp ((G15 5).b) 0),.ld 5 0 true (fun _ => [iv n26, iv n27, iv n28, iv n29, iv n30, iv n31]),.aeq false 23 #[iv n71, iv n72, iv n73, iv n74, iv n75, iv n76] #[iv n26, iv n27, iv n28, iv n29, iv n30, iv n31] _ fun w => dim_equal w n71 n72 n73 n74 n75 n76 n26 n27 n28 n29 n30 n31,.andn g0 false (decide (n79 = 0)) (decide (n71 = n26 ∧ n72 = n27 ∧ n73 = n28 ∧ n74 = n29 ∧ n75 = n30 ∧ n76 = n31)) p17 hp17,.k (bv p17),.k (pp ((G34 10).b) 6),.ld 6 6 true (fun _ => Dat.cells (DFrac.mk (DBig.mk n77 ⟨l28, (G34 6).ss 0⟩) (DBig.mk n78 ⟨l29, (G34 6).ss 1⟩))),.ld 7 0 true (fun _ => Dat.cells (DFrac.mk (DBig.mk n80 ⟨l30, (G38 6).ss 0⟩) (DBig.mk n81 ⟨l31, (G38 6).ss 1⟩))),.cp (gT (b := p17) (iN hp17 (iAT iDT iDT))) 16 15 [(kf true (.f 14) l28 (fun _ => (G34 6).ss 0)).a, (kf true (.f 15) l29 (fun _ => (G34 6).ss 1)).a, (kf true (.f 17) l30 (fun _ => (G38 6).ss 0)).a, (kf true (.f 18) l31 (fun _ => (G38 6).ss 1)).a] (fun hg G => same5t_ct n77 l28 ((G34 6).ss 0) n78 l29 ((G34 6).ss 1) n80 l30 ((G38 6).ss 0) n81 l31 ((G38 6).ss 1) hs22),.and g0 false p17 true,.k (bv (p17 && true))] fun _ _ G39 => ?_
    intro S_ s_
    have e0 : (p17 && true) = true := by
      refine (iAT (iN hp17 (iAT iDT iDT)) iTT).2 ?_
      have e6 := And.intro e22 (And.intro e22_0 (And.intro e22_1 (And.intro e22_2 (And.intro e22_3 (And.intro e22_4 e22_5)))))
      first | exact ⟨e6, trivial⟩ | exact e6
    exact V.ret [0] [] [] [] [] [] (bv (p17 && true)) (fun _ _ => by kernel_rfl) (fun _ _ => (Eq.trans (by kernel_rfl) (cong1 (fun (x0 : Bool) => (bv x0 : Value)) e0)).trans (by kernel_rfl)) (fun _ _ => trivial)
  refine nm (Un.dv (Un.sym s) 0 : Int) fun n83 hn83 => ?_
  refine nm (Un.dv (Un.sym s) 1 : Int) fun n84 hn84 => ?_
  refine nm (Un.dv (Un.sym s) 2 : Int) fun n85 hn85 => ?_
  refine nm (Un.dv (Un.sym s) 3 : Int) fun n86 hn86 => ?_
  refine nm (Un.dv (Un.sym s) 4 : Int) fun n87 hn87 => ?_
  refine nm (Un.dv (Un.sym s) 5 : Int) fun n88 hn88 => ?_
  refine nm (Fr.rS ((Un.sym s).isSome = true) (Un.fv (Un.sym s)) : Int) fun n89 hn89 => ?_
  refine nm (Fr.rD ((Un.sym s).isSome = true) (Un.fv (Un.sym s)) : List Int) fun l32 hl32 => ?_
  have hl32n := congrArg List.length hl32
  refine nm (Fr.rT ((Un.sym s).isSome = true) : Int) fun n90 hn90 => ?_
  refine nm (Fr.rE ((Un.sym s).isSome = true) (Un.fv (Un.sym s)) : List Int) fun l33 hl33 => ?_
  have hl33n := congrArg List.length hl33
  refine V.r [.k (tv s),.ct g0 1 17 false [] [] [] (fun _ G => sym9_ctv s n83 hn83 n84 hn84 n85 hn85 n86 hn86 n87 hn87 n88 hn88 n89 hn89 l32 hl32 n90 hn90 l33 hl33),.v fun G => .tuple #[.agg #[iv n83, iv n84, iv n85, iv n86, iv n87, iv n88, iv n89, ((G 1).ss 0).v, iv n90, ((G 1).ss 1).v], bv ((Un.sym s).isSome)],.v fun G => .agg #[iv n83, iv n84, iv n85, iv n86, iv n87, iv n88, iv n89, ((G 1).ss 0).v, iv n90, ((G 1).ss 1).v],.k (bv ((Un.sym s).isSome)),.nb 5 2 (fun b => pp b 0) 32 (fun _ => #[iv 0, iv 0, iv 0, iv 0, iv 0, iv 0, iv 0, .slice none 0 0, iv 0, .slice none 0 0]),.st 2 (fun G => .blk ((G 5).b) #[iv n83, iv n84, iv n85, iv n86, iv n87, iv n88, iv n89, ((G 1).ss 0).v, iv n90, ((G 1).ss 1).v] 32),.k (bv ((Un.sym s).isSome))] fun _ _ G40 kw40 => ?_
  intro S_ s_
  obtain ⟨⟨kl39, -⟩, ⟨kl40, -⟩, -⟩ : Lq l32 (((G40 1).ss 0).v) ∧ Lq l33 (((G40 1).ss 1).v) ∧ True := kn kw40 (by kernel_rfl)
  clear kw40
  refine V.g [.k (bv ((Un.sym s).isSome)),.k (bv (!((Un.sym s).isSome)))] fun _ _ G41 => ?_
  intro S_ s_
  refine V.cond (b := !((Un.sym s).isSome)) (iNT Iff.rfl) (iNF Iff.rfl) (by kernel_rfl) (fun q25 => ?_) (fun q26 => ?_)
  · refine V.g [.kb true,.kb true] fun _ _ G42 => ?_
    intro S_ s_
    exact V.ret [0] [] [] [] [] [] (bv true) (fun _ _ => by kernel_rfl) (fun _ _ => by kernel_rfl) (fun _ _ => trivial)
  have hok : (Un.sym s).isSome = true := by have hqq := q26; first | exact hqq | simpa using hqq
  have hmem : (s, ((Un.sym s).getD ([], 0))) ∈ Un.sl := Un.look_mem (Un.some_of hok)
  have hrs := Un.read_sym _ hmem
  have hrs1 : (Un.read s).1 = Un.sym s := by rw [show Un.read s = _ from hrs]; exact (Un.some_of hok).symm
  have hrs2 : (Un.read s).2 = 0 := by rw [show Un.read s = _ from hrs]
  refine nm (which % 4 : Int) fun n91 hn91 => ?_
  refine V.g [.k (.int .u8 which),.arg g0 which which rfl (fun _ => by omega),.rem g0 which 4 n91 hn91 (fun _ => by omega),.k (iv n91)] fun _ _ G43 => ?_
  intro S_ s_
  refine V.g [.nl 0 3 true 9 ([⟨#[107]⟩, ⟨#[77]⟩, ⟨#[71]⟩, ⟨#[109]⟩] : List ByteArray) [] (fun _ _ _ _ _ => trivial) (fun _ => #[tv ⟨#[107]⟩, tv ⟨#[77]⟩, tv ⟨#[71]⟩, tv ⟨#[109]⟩]),.v fun G => SV.v ⟨atB (G 0).b, 4, 4⟩] fun _ _ G44 => ?_
  intro S_ s_
  refine nm (Bg.sgn (1000 : Int) : Int) fun n92 hn92 => ?_
  refine nm (Bg.dig (1000 : Int).natAbs : List Int) fun l34 hl34 => ?_
  have hl34n := congrArg List.length hl34
  refine nm (Bg.dig 1 : List Int) fun l35 hl35 => ?_
  have hl35n := congrArg List.length hl35
  refine nm (Bg.sgn (1000000 : Int) : Int) fun n93 hn93 => ?_
  refine nm (Bg.dig (1000000 : Int).natAbs : List Int) fun l36 hl36 => ?_
  have hl36n := congrArg List.length hl36
  refine nm (Bg.sgn (1000000000 : Int) : Int) fun n94 hn94 => ?_
  refine nm (Bg.dig (1000000000 : Int).natAbs : List Int) fun l37 hl37 => ?_
  have hl37n := congrArg List.length hl37
  have z13_0 : Fr.Fz n92 l34 1 l35 (1000 : Rat) := by subst_vars; exact Un.intz 1000
  have z13_1 : Fr.Fz n93 l36 1 l35 (1000000 : Rat) := by subst_vars; exact Un.intz 1000000
  have z13_2 : Fr.Fz n94 l37 1 l35 (1000000000 : Rat) := by subst_vars; exact Un.intz 1000000000
  refine V.r [.ct g0 0 16 false [] [] [] (fun _ G => r5int_ctv (1000 : Int) (by omega) n92 hn92 l34 hl34 l35 hl35),.ct g0 1 16 false [] [] [] (fun _ G => r5int_ctv (1000000 : Int) (by omega) n93 hn93 l36 hl36 l35 hl35),.ct g0 2 16 false [] [] [] (fun _ G => r5int_ctv (1000000000 : Int) (by omega) n94 hn94 l37 hl37 l35 hl35),.k (pp ((G40 5).b) 6),.ld 2 6 true (fun _ => Dat.cells (DFrac.mk (DBig.mk n89 ⟨l32, (G40 1).ss 0⟩) (DBig.mk n90 ⟨l33, (G40 1).ss 1⟩))),.nlG 5 4 true 30 (fun G => ([DFrac.mk (DBig.mk n92 ⟨l34, (G 0).ss 0⟩) (DBig.mk 1 ⟨l35, (G 0).ss 1⟩), DFrac.mk (DBig.mk n93 ⟨l36, (G 1).ss 0⟩) (DBig.mk 1 ⟨l35, (G 1).ss 1⟩), DFrac.mk (DBig.mk n94 ⟨l37, (G 2).ss 0⟩) (DBig.mk 1 ⟨l35, (G 2).ss 1⟩), DFrac.mk (DBig.mk n89 ⟨l32, (G40 1).ss 0⟩) (DBig.mk n90 ⟨l33, (G40 1).ss 1⟩)] : List DFrac)) 4 (fun _ => rfl) [(kf true (.g 0 0) l34 (fun G => (G 0).ss 0)).a, (kf true (.g 0 1) l35 (fun G => (G 0).ss 1)).a, (kf true (.g 1 0) l36 (fun G => (G 1).ss 0)).a, (kf true (.g 1 1) l35 (fun G => (G 1).ss 1)).a, (kf true (.g 2 0) l37 (fun G => (G 2).ss 0)).a, (kf true (.g 2 1) l35 (fun G => (G 2).ss 1)).a, (kf true (.f 0) l32 (fun _ => (G40 1).ss 0)).a, (kf true (.f 1) l33 (fun _ => (G40 1).ss 1)).a] (fun _ _ h => (List.forall_mem_cons.2 ⟨(And.intro h.1 h.2.1), (List.forall_mem_cons.2 ⟨(And.intro h.2.2.1 h.2.2.2.1), (List.forall_mem_cons.2 ⟨(And.intro h.2.2.2.2.1 h.2.2.2.2.2.1), (List.forall_mem_cons.2 ⟨(And.intro h.2.2.2.2.2.2.1 h.2.2.2.2.2.2.2.1), (List.forall_mem_nil _)⟩)⟩)⟩)⟩)) (fun G => #[iv n92, ((G 0).ss 0).v, iv 1, ((G 0).ss 1).v, iv n93, ((G 1).ss 0).v, iv 1, ((G 1).ss 1).v, iv n94, ((G 2).ss 0).v, iv 1, ((G 2).ss 1).v, iv n89, ((G40 1).ss 0).v, iv n90, ((G40 1).ss 1).v]),.v fun G => SV.v ⟨atB (G 5).b, 4, 4⟩] fun _ _ G45 kw45 => ?_
  intro S_ s_
  obtain ⟨⟨kl41, -⟩, ⟨kl42, -⟩, ⟨kl43, -⟩, ⟨kl44, -⟩, ⟨kl45, -⟩, ⟨kl46, -⟩, -⟩ : Lq l34 (((G45 0).ss 0).v) ∧ Lq l35 (((G45 0).ss 1).v) ∧ Lq l36 (((G45 1).ss 0).v) ∧ Lq l35 (((G45 1).ss 1).v) ∧ Lq l37 (((G45 2).ss 0).v) ∧ Lq l35 (((G45 2).ss 1).v) ∧ Lq ([⟨#[107]⟩, ⟨#[77]⟩, ⟨#[71]⟩, ⟨#[109]⟩] : List ByteArray) (SV.v ⟨atB (G44 0).b, 4, 4⟩) ∧ Lq ([DFrac.mk (DBig.mk n92 ⟨l34, (G45 0).ss 0⟩) (DBig.mk 1 ⟨l35, (G45 0).ss 1⟩), DFrac.mk (DBig.mk n93 ⟨l36, (G45 1).ss 0⟩) (DBig.mk 1 ⟨l35, (G45 1).ss 1⟩), DFrac.mk (DBig.mk n94 ⟨l37, (G45 2).ss 0⟩) (DBig.mk 1 ⟨l35, (G45 2).ss 1⟩), DFrac.mk (DBig.mk n89 ⟨l32, (G40 1).ss 0⟩) (DBig.mk n90 ⟨l33, (G40 1).ss 1⟩)] : List DFrac) (SV.v ⟨atB (G45 5).b, 4, 4⟩) ∧ True := kn kw45 (by kernel_rfl)
  clear kw45
  refine nm (([DFrac.mk (DBig.mk n92 ⟨l34, (G45 0).ss 0⟩) (DBig.mk 1 ⟨l35, (G45 0).ss 1⟩), DFrac.mk (DBig.mk n93 ⟨l36, (G45 1).ss 0⟩) (DBig.mk 1 ⟨l35, (G45 1).ss 1⟩), DFrac.mk (DBig.mk n94 ⟨l37, (G45 2).ss 0⟩) (DBig.mk 1 ⟨l35, (G45 2).ss 1⟩), DFrac.mk (DBig.mk n89 ⟨l32, (G40 1).ss 0⟩) (DBig.mk n90 ⟨l33, (G40 1).ss 1⟩)] : List DFrac) : List DFrac) fun l38 hl38 => ?_
  refine V.alt (fun (zz : List DFrac) => (⟨[(1, tv s), (7, bv true), (10, pp ((G40 5).b) 0), (12, iv n91), (13, SV.v ⟨atB (G44 0).b, 4, 4⟩), (14, SV.v ⟨atB (G45 5).b, 4, 4⟩)], [fs true l32 ((G40 1).ss 0), fs true l33 ((G40 1).ss 1), fs true l34 ((G45 0).ss 0), fs true l35 ((G45 0).ss 1), fs true l36 ((G45 1).ss 0), fs true l35 ((G45 1).ss 1), fs true l37 ((G45 2).ss 0), fs true l35 ((G45 2).ss 1)], [.blk ((G1 0).b) #[iv d0, iv d1, iv d2, iv d3, iv d4, iv d5] 23, .no, .blk ((G40 5).b) #[iv n83, iv n84, iv n85, iv n86, iv n87, iv n88, iv n89, ((G40 1).ss 0).v, iv n90, ((G40 1).ss 1).v] 32, os true 9 ([⟨#[107]⟩, ⟨#[77]⟩, ⟨#[71]⟩, ⟨#[109]⟩] : List ByteArray) ⟨atB (G44 0).b, 4, 4⟩, os true 30 zz ⟨atB (G45 5).b, 4, 4⟩, .no, .no, .no]⟩ : St)) hl38.symm [0, 1, 2, 3, 4, 5, 6, 7] (by kernel_rfl) ?_
  refine nm (Fr.rS ((1000 : Int) ≠ 0) (Rat.divInt (1 : Int) (1000 : Int)) : Int) fun n95 hn95 => ?_
  refine nm (Fr.rD ((1000 : Int) ≠ 0) (Rat.divInt (1 : Int) (1000 : Int)) : List Int) fun l39 hl39 => ?_
  have hl39n := congrArg List.length hl39
  refine nm (Fr.rT ((1000 : Int) ≠ 0) : Int) fun n96 hn96 => ?_
  refine nm (Fr.rE ((1000 : Int) ≠ 0) (Rat.divInt (1 : Int) (1000 : Int)) : List Int) fun l40 hl40 => ?_
  have hl40n := congrArg List.length hl40
  refine nm (if (1000 : Int) = 0 then (15 : Int) else 0 : Int) fun n97 hn97 => ?_
  refine nm (l38.getD (3 : Int).toNat default : DFrac) fun x10 hx10 => ?_
  have z13_3 := Fr.Fz.of (show (1000 : Int) ≠ 0 by decide) hn95 hl39 hn96 hl40
  refine V.r [.k (SV.v ⟨atB (G45 5).b, 4, 4⟩),.ct g0 1 18 false [] [] [] (fun _ G => r5of_ctv (1 : Int) (1000 : Int) (by omega) (by omega) n95 hn95 l39 hl39 n96 hn96 l40 hl40 n97 hn97),.v fun G => .tuple #[ag (DFrac.mk (DBig.mk n95 ⟨l39, (G 1).ss 0⟩) (DBig.mk n96 ⟨l40, (G 1).ss 1⟩)), iv n97],.v fun G => ag (DFrac.mk (DBig.mk n95 ⟨l39, (G 1).ss 0⟩) (DBig.mk n96 ⟨l40, (G 1).ss 1⟩)),.k (iv n97),.ix g0 (ko true 30 4 l38 (fun _ => ⟨atB (G45 5).b, 4, 4⟩)) 3 (fun _ => ⟨by omega, by rw [hl38]; simp only [List.length_cons, List.length_nil]; omega⟩),.seG g0 6 4 30 true l38 (fun _ => ⟨atB (G45 5).b, 4, 4⟩) (3 : Int) none x10 (fun G => (DFrac.mk (DBig.mk n95 ⟨l39, (G 1).ss 0⟩) (DBig.mk n96 ⟨l40, (G 1).ss 1⟩) : DFrac)) hx10 true (fun _ => ⟨by omega, by rw [hl38]; simp only [List.length_cons, List.length_nil]; omega⟩) (fun _ => rfl) [(kf true (.g 1 0) l39 (fun G => (G 1).ss 0)).a, (kf true (.g 1 1) l40 (fun G => (G 1).ss 1)).a] (fun _ _ ho h => (And.intro h.1 h.2.1))] fun _ _ G46 kw46 => ?_
  intro S_ s_
  obtain ⟨⟨kl47, -⟩, ⟨kl48, -⟩, -⟩ : Lq l39 (((G46 1).ss 0).v) ∧ Lq l40 (((G46 1).ss 1).v) ∧ Lq ([⟨#[107]⟩, ⟨#[77]⟩, ⟨#[71]⟩, ⟨#[109]⟩] : List ByteArray) (SV.v ⟨atB (G44 0).b, 4, 4⟩) ∧ Lq (l38.set (3 : Int).toNat (DFrac.mk (DBig.mk n95 ⟨l39, (G46 1).ss 0⟩) (DBig.mk n96 ⟨l40, (G46 1).ss 1⟩))) (SV.v ⟨atB (G45 5).b, 4, 4⟩) ∧ True := kn kw46 (by kernel_rfl)
  clear kw46
  refine nm (l38.set (3 : Int).toNat (DFrac.mk (DBig.mk n95 ⟨l39, (G46 1).ss 0⟩) (DBig.mk n96 ⟨l40, (G46 1).ss 1⟩)) : List DFrac) fun l41 hl41 => ?_
  refine V.alt (fun (zz : List DFrac) => (⟨[(1, tv s), (7, bv true), (10, pp ((G40 5).b) 0), (12, iv n91), (13, SV.v ⟨atB (G44 0).b, 4, 4⟩), (14, SV.v ⟨atB (G45 5).b, 4, 4⟩)], [fs true l32 ((G40 1).ss 0), fs true l33 ((G40 1).ss 1), fs true l34 ((G45 0).ss 0), fs true l35 ((G45 0).ss 1), fs true l36 ((G45 1).ss 0), fs true l35 ((G45 1).ss 1), fs true l37 ((G45 2).ss 0), fs true l35 ((G45 2).ss 1), fs true l39 ((G46 1).ss 0), fs true l40 ((G46 1).ss 1)], [.blk ((G1 0).b) #[iv d0, iv d1, iv d2, iv d3, iv d4, iv d5] 23, .no, .blk ((G40 5).b) #[iv n83, iv n84, iv n85, iv n86, iv n87, iv n88, iv n89, ((G40 1).ss 0).v, iv n90, ((G40 1).ss 1).v] 32, os true 9 ([⟨#[107]⟩, ⟨#[77]⟩, ⟨#[71]⟩, ⟨#[109]⟩] : List ByteArray) ⟨atB (G44 0).b, 4, 4⟩, os true 30 zz ⟨atB (G45 5).b, 4, 4⟩, .no, .no, .no]⟩ : St)) hl41.symm [0, 1, 2, 3, 4, 5, 6, 7, 8, 9] (by kernel_rfl) ?_
  have hnl : l41.length = 4 := by rw [hl41, hl38]; rfl
  refine nm (Un.dv ((Un.read s).1) 0 : Int) fun n98 hn98 => ?_
  refine nm (Un.dv ((Un.read s).1) 1 : Int) fun n99 hn99 => ?_
  refine nm (Un.dv ((Un.read s).1) 2 : Int) fun n100 hn100 => ?_
  refine nm (Un.dv ((Un.read s).1) 3 : Int) fun n101 hn101 => ?_
  refine nm (Un.dv ((Un.read s).1) 4 : Int) fun n102 hn102 => ?_
  refine nm (Un.dv ((Un.read s).1) 5 : Int) fun n103 hn103 => ?_
  refine nm (Fr.rS (((Un.read s).1).isSome = true) (Un.fv ((Un.read s).1)) : Int) fun n104 hn104 => ?_
  refine nm (Fr.rD (((Un.read s).1).isSome = true) (Un.fv ((Un.read s).1)) : List Int) fun l42 hl42 => ?_
  have hl42n := congrArg List.length hl42
  refine nm (Fr.rT (((Un.read s).1).isSome = true) : Int) fun n105 hn105 => ?_
  refine nm (Fr.rE (((Un.read s).1).isSome = true) (Un.fv ((Un.read s).1)) : List Int) fun l43 hl43 => ?_
  have hl43n := congrArg List.length hl43
  refine nm ((Un.read s).2 : Int) fun n106 hn106 => ?_
  have e15 : n106 = 0 := by rw [hn106]; exact hrs2
  have hS9 : (n83 = n98 ∧ n84 = n99 ∧ n85 = n100 ∧ n86 = n101 ∧ n87 = n102 ∧ n88 = n103) ∧ n89 = n104 ∧ l32 = l42 ∧ n90 = n105 ∧ l33 = l43 := by rw [hn98, hn99, hn100, hn101, hn102, hn103, hn104, hl42, hn105, hl43, hn83, hn84, hn85, hn86, hn87, hn88, hn89, hl32, hn90, hl33, hrs1]; exact ⟨⟨rfl, rfl, rfl, rfl, rfl, rfl⟩, rfl, rfl, rfl, rfl⟩
  have zb := Fr.Fz.of (show (Un.read s).1.isSome = true by rw [hrs1]; exact hok) hn104 hl42 hn105 hl43
  rw [hrs1] at zb
  have hbk := (Un.sym_ok (Un.some_of hok)).2.2.2
  have hbl := zb.len hbk; have hbl1 := hbl.1; have hbl2 := hbl.2
  refine V.r [.k (tv s),.ct g0 1 13 false [] [] [] (fun _ G => uread_ctv s (by omega) n98 hn98 n99 hn99 n100 hn100 n101 hn101 n102 hn102 n103 hn103 n104 hn104 l42 hl42 n105 hn105 l43 hl43 n106 hn106),.v fun G => .tuple #[.agg #[iv n98, iv n99, iv n100, iv n101, iv n102, iv n103, iv n104, ((G 1).ss 0).v, iv n105, ((G 1).ss 1).v], iv n106],.v fun G => .agg #[iv n98, iv n99, iv n100, iv n101, iv n102, iv n103, iv n104, ((G 1).ss 0).v, iv n105, ((G 1).ss 1).v],.k (iv n106),.nb 5 5 (fun b => pp b 0) 32 (fun _ => #[iv 0, iv 0, iv 0, iv 0, iv 0, iv 0, iv 0, .slice none 0 0, iv 0, .slice none 0 0]),.st 5 (fun G => .blk ((G 5).b) #[iv n98, iv n99, iv n100, iv n101, iv n102, iv n103, iv n104, ((G 1).ss 0).v, iv n105, ((G 1).ss 1).v] 32),.k (iv n106)] fun _ _ G47 kw47 => ?_
  intro S_ s_
  obtain ⟨⟨kl49, -⟩, ⟨kl50, -⟩, -⟩ : Lq l42 (((G47 1).ss 0).v) ∧ Lq l43 (((G47 1).ss 1).v) ∧ Lq ([⟨#[107]⟩, ⟨#[77]⟩, ⟨#[71]⟩, ⟨#[109]⟩] : List ByteArray) (SV.v ⟨atB (G44 0).b, 4, 4⟩) ∧ Lq l41 (SV.v ⟨atB (G45 5).b, 4, 4⟩) ∧ True := kn kw47 (by kernel_rfl)
  clear kw47
  rcases (by omega : n91 = 0 ∨ n91 = 1 ∨ n91 = 2 ∨ n91 = 3) with hcs5 | hcs6 | hcs7 | hcs8
  · refine V.alt (fun (zz : Int) => (⟨[(1, tv s), (7, bv true), (10, pp ((G40 5).b) 0), (12, iv zz), (13, SV.v ⟨atB (G44 0).b, 4, 4⟩), (14, SV.v ⟨atB (G45 5).b, 4, 4⟩), (15, pp ((G47 5).b) 0), (16, iv n106)], [fs true l32 ((G40 1).ss 0), fs true l33 ((G40 1).ss 1), fs true l34 ((G45 0).ss 0), fs true l35 ((G45 0).ss 1), fs true l36 ((G45 1).ss 0), fs true l35 ((G45 1).ss 1), fs true l37 ((G45 2).ss 0), fs true l35 ((G45 2).ss 1), fs true l39 ((G46 1).ss 0), fs true l40 ((G46 1).ss 1), fs true l42 ((G47 1).ss 0), fs true l43 ((G47 1).ss 1)], [.blk ((G1 0).b) #[iv d0, iv d1, iv d2, iv d3, iv d4, iv d5] 23, .no, .blk ((G40 5).b) #[iv n83, iv n84, iv n85, iv n86, iv n87, iv n88, iv n89, ((G40 1).ss 0).v, iv n90, ((G40 1).ss 1).v] 32, os true 9 ([⟨#[107]⟩, ⟨#[77]⟩, ⟨#[71]⟩, ⟨#[109]⟩] : List ByteArray) ⟨atB (G44 0).b, 4, 4⟩, os true 30 l41 ⟨atB (G45 5).b, 4, 4⟩, .blk ((G47 5).b) #[iv n98, iv n99, iv n100, iv n101, iv n102, iv n103, iv n104, ((G47 1).ss 0).v, iv n105, ((G47 1).ss 1).v] 32, .no, .no]⟩ : St)) hcs5 [0, 1, 2, 3, 4, 5, 6, 7, 8, 9, 10, 11] (by kernel_rfl) ?_
    refine nm (([⟨#[107]⟩, ⟨#[77]⟩, ⟨#[71]⟩, ⟨#[109]⟩] : List ByteArray).getD (0 : Int).toNat default : ByteArray) fun x11 hx11 => ?_
    refine nm (x11 ++ s : ByteArray) fun t6 ht6 => ?_
    have ht6n : t6.size = x11.size + s.size := by rw [ht6, ByteArray.size_append]
    refine nm (Un.dv ((Un.read t6).1) 0 : Int) fun n107 hn107 => ?_
    refine nm (Un.dv ((Un.read t6).1) 1 : Int) fun n108 hn108 => ?_
    refine nm (Un.dv ((Un.read t6).1) 2 : Int) fun n109 hn109 => ?_
    refine nm (Un.dv ((Un.read t6).1) 3 : Int) fun n110 hn110 => ?_
    refine nm (Un.dv ((Un.read t6).1) 4 : Int) fun n111 hn111 => ?_
    refine nm (Un.dv ((Un.read t6).1) 5 : Int) fun n112 hn112 => ?_
    refine nm (Fr.rS (((Un.read t6).1).isSome = true) (Un.fv ((Un.read t6).1)) : Int) fun n113 hn113 => ?_
    refine nm (Fr.rD (((Un.read t6).1).isSome = true) (Un.fv ((Un.read t6).1)) : List Int) fun l44 hl44 => ?_
    have hl44n := congrArg List.length hl44
    refine nm (Fr.rT (((Un.read t6).1).isSome = true) : Int) fun n114 hn114 => ?_
    refine nm (Fr.rE (((Un.read t6).1).isSome = true) (Un.fv ((Un.read t6).1)) : List Int) fun l45 hl45 => ?_
    have hl45n := congrArg List.length hl45
    refine nm ((Un.read t6).2 : Int) fun n115 hn115 => ?_
    have hxp : x11 = ⟨#[107]⟩ := by rw [hx11]; rfl
    have hxpn : x11.size = 1 := by rw [hxp]; rfl
    have hrp := Un.read_pfx _ hmem ((⟨#[107]⟩, 1000)) (by unfold Un.pxs; simp)
    have htt : t6 = ⟨#[107]⟩ ++ s := by rw [ht6, hxp]
    have hrq : Un.read t6 = if Un.pf s then (some (((Un.sym s).getD ([], 0)).1, Un.fv (Un.sym s) * 1000), 0) else (none, 11) := by rw [htt]; exact hrp
    refine V.r [.k (SV.v ⟨atB (G44 0).b, 4, 4⟩),.k (iv 0),.ix g0 (ko true 9 3 ([⟨#[107]⟩, ⟨#[77]⟩, ⟨#[71]⟩, ⟨#[109]⟩] : List ByteArray) (fun _ => ⟨atB (G44 0).b, 4, 4⟩)) 0 (fun _ => ⟨by omega, by simp only [List.length_cons, List.length_nil, List.length_set]; omega⟩),.le g0 (ko true 9 3 ([⟨#[107]⟩, ⟨#[77]⟩, ⟨#[71]⟩, ⟨#[109]⟩] : List ByteArray) (fun _ => ⟨atB (G44 0).b, 4, 4⟩)) (0 : Int) none false x11 hx11 (fun _ => ⟨by omega, by simp only [List.length_cons, List.length_nil, List.length_set]; omega⟩) false (fun _ => [tv x11]),.k (tv s),.sad g0 x11 s t6 ht6 (fun _ => by omega),.ct g0 6 13 false [] [] [] (fun _ G => uread_ctv t6 (by omega) n107 hn107 n108 hn108 n109 hn109 n110 hn110 n111 hn111 n112 hn112 n113 hn113 l44 hl44 n114 hn114 l45 hl45 n115 hn115),.v fun G => .tuple #[.agg #[iv n107, iv n108, iv n109, iv n110, iv n111, iv n112, iv n113, ((G 6).ss 0).v, iv n114, ((G 6).ss 1).v], iv n115],.v fun G => .agg #[iv n107, iv n108, iv n109, iv n110, iv n111, iv n112, iv n113, ((G 6).ss 0).v, iv n114, ((G 6).ss 1).v],.k (iv n115),.nb 10 6 (fun b => pp b 0) 32 (fun _ => #[iv 0, iv 0, iv 0, iv 0, iv 0, iv 0, iv 0, .slice none 0 0, iv 0, .slice none 0 0]),.st 6 (fun G => .blk ((G 10).b) #[iv n107, iv n108, iv n109, iv n110, iv n111, iv n112, iv n113, ((G 6).ss 0).v, iv n114, ((G 6).ss 1).v] 32),.k (iv n115)] fun _ _ G48 kw48 => ?_
    intro S_ s_
    obtain ⟨⟨kl51, -⟩, ⟨kl52, -⟩, -⟩ : Lq l44 (((G48 6).ss 0).v) ∧ Lq l45 (((G48 6).ss 1).v) ∧ Lq ([⟨#[107]⟩, ⟨#[77]⟩, ⟨#[71]⟩, ⟨#[109]⟩] : List ByteArray) (SV.v ⟨atB (G44 0).b, 4, 4⟩) ∧ Lq l41 (SV.v ⟨atB (G45 5).b, 4, 4⟩) ∧ True := kn kw48 (by kernel_rfl)
    clear kw48
    refine V.g [.k (iv n106),.k (bv (!(decide (n106 = 0)))),.k (bv (!(decide (n106 = 0)))),.ld 2 0 true (fun _ => [iv n83, iv n84, iv n85, iv n86, iv n87, iv n88, iv n89, ((G40 1).ss 0).v, iv n90, ((G40 1).ss 1).v]),.ld 5 0 true (fun _ => [iv n98, iv n99, iv n100, iv n101, iv n102, iv n103, iv n104, ((G47 1).ss 0).v, iv n105, ((G47 1).ss 1).v]),.cp (gF (b := !(decide (n106 = 0))) (iNF iDT)) 5 19 [(kf true (.f 0) l32 (fun _ => (G40 1).ss 0)).a, (kf true (.f 1) l33 (fun _ => (G40 1).ss 1)).a, (kf true (.f 10) l42 (fun _ => (G47 1).ss 0)).a, (kf true (.f 11) l43 (fun _ => (G47 1).ss 1)).a] (fun hg G => same9t_ct n83 n84 n85 n86 n87 n88 n89 l32 ((G40 1).ss 0) n90 l33 ((G40 1).ss 1) n98 n99 n100 n101 n102 n103 n104 l42 ((G47 1).ss 0) n105 l43 ((G47 1).ss 1) hS9),.kb false,.or g0 false (!(decide (n106 = 0))) false] fun _ _ G49 => ?_
    intro S_ s_
    refine V.cond (b := (!(decide (n106 = 0))) || false) (iOT (iNT iDF) iFT) (iOF (iNF iDT) iFF) (by kernel_rfl) (fun q27 => ?_) (fun q28 => ?_)
    · exfalso; have hqq := q27; rcases hqq with h | h
      · exact h e15
      exact h.elim
    refine nm ((!(decide (s = ⟨#[103]⟩))) && (!(decide (s = ⟨#[109]⟩))) : Bool) fun p18 hp18 => ?_
    refine nm ((p18 && (!(decide (s = ⟨#[108]⟩)))) && (!(decide (s = ⟨#[115]⟩))) : Bool) fun p19 hp19 => ?_
    refine nm ((p19 && (!(decide (s = ⟨#[74]⟩)))) && (!(decide (s = ⟨#[87, 104]⟩))) : Bool) fun p20 hp20 => ?_
    refine V.g [.k (tv s),.sne s ⟨#[103]⟩,.k (bv (!(decide (s = ⟨#[103]⟩)))),.k (tv s),.sne s ⟨#[109]⟩,.andn g0 false (!(decide (s = ⟨#[103]⟩))) (!(decide (s = ⟨#[109]⟩))) p18 hp18,.k (bv p18),.k (tv s),.sne s ⟨#[108]⟩,.and g0 false p18 (!(decide (s = ⟨#[108]⟩))),.k (bv (p18 && (!(decide (s = ⟨#[108]⟩))))),.k (tv s),.sne s ⟨#[115]⟩,.andn g0 false (p18 && (!(decide (s = ⟨#[108]⟩)))) (!(decide (s = ⟨#[115]⟩))) p19 hp19,.k (bv p19),.k (tv s),.sne s ⟨#[74]⟩,.and g0 false p19 (!(decide (s = ⟨#[74]⟩))),.k (bv (p19 && (!(decide (s = ⟨#[74]⟩))))),.k (tv s),.sne s ⟨#[87, 104]⟩,.andn g0 false (p19 && (!(decide (s = ⟨#[74]⟩)))) (!(decide (s = ⟨#[87, 104]⟩))) p20 hp20] fun _ _ G50 => ?_
    intro S_ s_
    refine V.cond (b := p20) (iN hp20 (iAT (iAT (iN hp19 (iAT (iAT (iN hp18 (iAT (iNT iDF) (iNT iDF))) (iNT iDF)) (iNT iDF))) (iNT iDF)) (iNT iDF))) (iN hp20 (iAF (iAF (iN hp19 (iAF (iAF (iN hp18 (iAF (iNF iDT) (iNF iDT))) (iNF iDT)) (iNF iDT))) (iNF iDT)) (iNF iDT))) (by kernel_rfl) (fun q29 => ?_) (fun q30 => ?_)
    · have hnp : ¬ Un.pf s := by have hqq := q29; obtain ⟨⟨⟨⟨⟨h1, h2⟩, h3⟩, h4⟩, h5⟩, h6⟩ := hqq; rintro (((((h | h) | h) | h) | h) | h); exact h1 h; exact h2 h; exact h3 h; exact h4 h; exact h5 h; exact h6 h
      rw [if_neg hnp] at hrq
      refine V.g [.kb true,.kb true,.k (iv n115),.k (bv (decide (n115 = 11))),.k (bv (decide (n115 = 11))),.k (bv (decide (n115 = 11)))] fun _ _ G51 => ?_
      intro S_ s_
      have e0 : (decide (n115 = 11)) = true := by
        refine iDT.2 ?_
        have e20 : n115 = 11 := by rw [hn115, hrq]
        first | exact e20 | exact ⟨trivial, e20⟩
      exact V.ret [0] [] [] [] [] [] (bv (decide (n115 = 11))) (fun _ _ => by kernel_rfl) (fun _ _ => (Eq.trans (by kernel_rfl) (cong1 (fun (x0 : Bool) => (bv x0 : Value)) e0)).trans (by kernel_rfl)) (fun _ _ => trivial)
    have hpf : Un.pf s := by have hqq := q30; exact hqq
    rw [if_pos hpf] at hrq
    refine nm (l41.getD (0 : Int).toNat default : DFrac) fun x12 hx12 => ?_
    refine nm (Fr.rS (Fr.FrB n104 l42 n105 l43 ∧ Fr.FrB x12.P.Sign x12.P.Digits.l x12.Q.Sign x12.Q.Digits.l) ((Fr.fq n104 l42 l43) * (Fr.fq x12.P.Sign x12.P.Digits.l x12.Q.Digits.l)) : Int) fun n116 hn116 => ?_
    refine nm (Fr.rD (Fr.FrB n104 l42 n105 l43 ∧ Fr.FrB x12.P.Sign x12.P.Digits.l x12.Q.Sign x12.Q.Digits.l) ((Fr.fq n104 l42 l43) * (Fr.fq x12.P.Sign x12.P.Digits.l x12.Q.Digits.l)) : List Int) fun l46 hl46 => ?_
    have hl46n := congrArg List.length hl46
    refine nm (Fr.rT (Fr.FrB n104 l42 n105 l43 ∧ Fr.FrB x12.P.Sign x12.P.Digits.l x12.Q.Sign x12.Q.Digits.l) : Int) fun n117 hn117 => ?_
    refine nm (Fr.rE (Fr.FrB n104 l42 n105 l43 ∧ Fr.FrB x12.P.Sign x12.P.Digits.l x12.Q.Sign x12.Q.Digits.l) ((Fr.fq n104 l42 l43) * (Fr.fq x12.P.Sign x12.P.Digits.l x12.Q.Digits.l)) : List Int) fun l47 hl47 => ?_
    have hl47n := congrArg List.length hl47
    refine nm (if ¬ (Fr.FrB n104 l42 n105 l43 ∧ Fr.FrB x12.P.Sign x12.P.Digits.l x12.Q.Sign x12.Q.Digits.l) then (1 : Int) else 0 : Int) fun n118 hn118 => ?_
    have zt : Fr.Fz x12.P.Sign x12.P.Digits.l x12.Q.Sign x12.Q.Digits.l (1000) := by rw [hx12, hl41, hl38]; exact z13_0
    have htl := zt.len (k := 4) (by decide +kernel); have htl1 := htl.1; have htl2 := htl.2
    have zw := Fr.Fz.of (And.intro zb.rt zt.rt) hn116 hl46 hn117 hl47
    rw [zb.v, zt.v] at zw
    refine V.r [.k (pp ((G47 5).b) 6),.ld 5 6 true (fun _ => Dat.cells (DFrac.mk (DBig.mk n104 ⟨l42, (G47 1).ss 0⟩) (DBig.mk n105 ⟨l43, (G47 1).ss 1⟩))),.k (SV.v ⟨atB (G45 5).b, 4, 4⟩),.k (iv 0),.ix g0 (ko true 30 4 l41 (fun _ => ⟨atB (G45 5).b, 4, 4⟩)) 0 (fun _ => ⟨by omega, by omega⟩),.le g0 (ko true 30 4 l41 (fun _ => ⟨atB (G45 5).b, 4, 4⟩)) (0 : Int) none true x12 hx12 (fun _ => ⟨by omega, by omega⟩) true (fun _ => Dat.cells x12),.ct g0 6 20 false [] [] [(kf true (.f 10) l42 (fun _ => (G47 1).ss 0)).a, (kf true (.f 11) l43 (fun _ => (G47 1).ss 1)).a, (kx true (.g 5 0) x12 x12.P.Digits.l (fun _ => x12.P.Digits.s) (fun _ H (h : Dat.good H (x12 : DFrac)) => h.1)).a, (kx true (.g 5 0) x12 x12.Q.Digits.l (fun _ => x12.Q.Digits.s) (fun _ H (h : Dat.good H (x12 : DFrac)) => h.2)).a] (fun _ G => fmul_ctv n104 l42 ((G47 1).ss 0) n105 l43 ((G47 1).ss 1) x12.P.Sign x12.P.Digits.l x12.P.Digits.s x12.Q.Sign x12.Q.Digits.l x12.Q.Digits.s (by omega) (by omega) (by omega) (by omega) n116 hn116 l46 hl46 n117 hn117 l47 hl47 n118 hn118),.v fun G => .tuple #[ag (DFrac.mk (DBig.mk n116 ⟨l46, (G 6).ss 0⟩) (DBig.mk n117 ⟨l47, (G 6).ss 1⟩)), iv n118],.v fun G => ag (DFrac.mk (DBig.mk n116 ⟨l46, (G 6).ss 0⟩) (DBig.mk n117 ⟨l47, (G 6).ss 1⟩)),.k (iv n118),.nb 10 7 (fun b => pp b 0) 30 (fun _ => ca (DFrac.mk (DBig.mk 0 ⟨[], {}⟩) (DBig.mk 0 ⟨[], {}⟩))),.st 7 (fun G => .blk ((G 10).b) (ca (DFrac.mk (DBig.mk n116 ⟨l46, (G 6).ss 0⟩) (DBig.mk n117 ⟨l47, (G 6).ss 1⟩))) 30),.k (iv n118)] fun _ _ G52 kw52 => ?_
    intro S_ s_
    obtain ⟨⟨⟨kl53, -⟩, ⟨kl54, -⟩⟩, ⟨kl55, -⟩, ⟨kl56, -⟩, -⟩ : (Lq x12.P.Digits.l x12.P.Digits.s.v ∧ Lq x12.Q.Digits.l x12.Q.Digits.s.v) ∧ Lq l46 (((G52 6).ss 0).v) ∧ Lq l47 (((G52 6).ss 1).v) ∧ Lq ([⟨#[107]⟩, ⟨#[77]⟩, ⟨#[71]⟩, ⟨#[109]⟩] : List ByteArray) (SV.v ⟨atB (G44 0).b, 4, 4⟩) ∧ Lq l41 (SV.v ⟨atB (G45 5).b, 4, 4⟩) ∧ True := kn kw52 (by kernel_rfl)
    clear kw52
    refine nm ((decide (n115 = 0)) && (decide (n107 = n98 ∧ n108 = n99 ∧ n109 = n100 ∧ n110 = n101 ∧ n111 = n102 ∧ n112 = n103)) : Bool) fun p21 hp21 => ?_
    have e22 : n115 = 0 := by rw [hn115, hrq]
    have e22_0 : n107 = n98 := by rw [hn107, hn98, hrq, hrs1]; rfl
    have e22_1 : n108 = n99 := by rw [hn108, hn99, hrq, hrs1]; rfl
    have e22_2 : n109 = n100 := by rw [hn109, hn100, hrq, hrs1]; rfl
    have e22_3 : n110 = n101 := by rw [hn110, hn101, hrq, hrs1]; rfl
    have e22_4 : n111 = n102 := by rw [hn111, hn102, hrq, hrs1]; rfl
    have e22_5 : n112 = n103 := by rw [hn112, hn103, hrq, hrs1]; rfl
    have z22 := Fr.Fz.of (show (Un.read t6).1.isSome = true by rw [hrq]; rfl) hn113 hl44 hn114 hl45
    rw [show Un.fv (Un.read t6).1 = Un.fv (Un.sym s) * 1000 by rw [hrq]; rfl] at z22
    have hs22 := Fr.Fz.inj z22 zw
    refine V.g [.kb true,.kb true,.k (iv n115),.k (bv (decide (n115 = 0))),.k (bv (decide (n115 = 0))),.k (bv (decide (n115 = 0))),.k (pp ((G48 10).b) 0),.ld 6 0 true (fun _ => [iv n107, iv n108, iv n109, iv n110, iv n111, iv n112]),.k (pp ((G47 5).b) 0),.ld 5 0 true (fun _ => [iv n98, iv n99, iv n100, iv n101, iv n102, iv n103]),.aeq false 23 #[iv n107, iv n108, iv n109, iv n110, iv n111, iv n112] #[iv n98, iv n99, iv n100, iv n101, iv n102, iv n103] _ fun w => dim_equal w n107 n108 n109 n110 n111 n112 n98 n99 n100 n101 n102 n103,.andn g0 false (decide (n115 = 0)) (decide (n107 = n98 ∧ n108 = n99 ∧ n109 = n100 ∧ n110 = n101 ∧ n111 = n102 ∧ n112 = n103)) p21 hp21,.k (bv p21),.k (pp ((G48 10).b) 6),.ld 6 6 true (fun _ => Dat.cells (DFrac.mk (DBig.mk n113 ⟨l44, (G48 6).ss 0⟩) (DBig.mk n114 ⟨l45, (G48 6).ss 1⟩))),.ld 7 0 true (fun _ => Dat.cells (DFrac.mk (DBig.mk n116 ⟨l46, (G52 6).ss 0⟩) (DBig.mk n117 ⟨l47, (G52 6).ss 1⟩))),.cp (gT (b := p21) (iN hp21 (iAT iDT iDT))) 16 15 [(kf true (.f 12) l44 (fun _ => (G48 6).ss 0)).a, (kf true (.f 13) l45 (fun _ => (G48 6).ss 1)).a, (kf true (.f 15) l46 (fun _ => (G52 6).ss 0)).a, (kf true (.f 16) l47 (fun _ => (G52 6).ss 1)).a] (fun hg G => same5t_ct n113 l44 ((G48 6).ss 0) n114 l45 ((G48 6).ss 1) n116 l46 ((G52 6).ss 0) n117 l47 ((G52 6).ss 1) hs22),.and g0 false p21 true,.k (bv (p21 && true))] fun _ _ G53 => ?_
    intro S_ s_
    have e0 : (p21 && true) = true := by
      refine (iAT (iN hp21 (iAT iDT iDT)) iTT).2 ?_
      have e6 := And.intro e22 (And.intro e22_0 (And.intro e22_1 (And.intro e22_2 (And.intro e22_3 (And.intro e22_4 e22_5)))))
      first | exact ⟨e6, trivial⟩ | exact e6
    exact V.ret [0] [] [] [] [] [] (bv (p21 && true)) (fun _ _ => by kernel_rfl) (fun _ _ => (Eq.trans (by kernel_rfl) (cong1 (fun (x0 : Bool) => (bv x0 : Value)) e0)).trans (by kernel_rfl)) (fun _ _ => trivial)
  · refine V.alt (fun (zz : Int) => (⟨[(1, tv s), (7, bv true), (10, pp ((G40 5).b) 0), (12, iv zz), (13, SV.v ⟨atB (G44 0).b, 4, 4⟩), (14, SV.v ⟨atB (G45 5).b, 4, 4⟩), (15, pp ((G47 5).b) 0), (16, iv n106)], [fs true l32 ((G40 1).ss 0), fs true l33 ((G40 1).ss 1), fs true l34 ((G45 0).ss 0), fs true l35 ((G45 0).ss 1), fs true l36 ((G45 1).ss 0), fs true l35 ((G45 1).ss 1), fs true l37 ((G45 2).ss 0), fs true l35 ((G45 2).ss 1), fs true l39 ((G46 1).ss 0), fs true l40 ((G46 1).ss 1), fs true l42 ((G47 1).ss 0), fs true l43 ((G47 1).ss 1)], [.blk ((G1 0).b) #[iv d0, iv d1, iv d2, iv d3, iv d4, iv d5] 23, .no, .blk ((G40 5).b) #[iv n83, iv n84, iv n85, iv n86, iv n87, iv n88, iv n89, ((G40 1).ss 0).v, iv n90, ((G40 1).ss 1).v] 32, os true 9 ([⟨#[107]⟩, ⟨#[77]⟩, ⟨#[71]⟩, ⟨#[109]⟩] : List ByteArray) ⟨atB (G44 0).b, 4, 4⟩, os true 30 l41 ⟨atB (G45 5).b, 4, 4⟩, .blk ((G47 5).b) #[iv n98, iv n99, iv n100, iv n101, iv n102, iv n103, iv n104, ((G47 1).ss 0).v, iv n105, ((G47 1).ss 1).v] 32, .no, .no]⟩ : St)) hcs6 [0, 1, 2, 3, 4, 5, 6, 7, 8, 9, 10, 11] (by kernel_rfl) ?_
    refine nm (([⟨#[107]⟩, ⟨#[77]⟩, ⟨#[71]⟩, ⟨#[109]⟩] : List ByteArray).getD (1 : Int).toNat default : ByteArray) fun x13 hx13 => ?_
    refine nm (x13 ++ s : ByteArray) fun t7 ht7 => ?_
    have ht7n : t7.size = x13.size + s.size := by rw [ht7, ByteArray.size_append]
    refine nm (Un.dv ((Un.read t7).1) 0 : Int) fun n119 hn119 => ?_
    refine nm (Un.dv ((Un.read t7).1) 1 : Int) fun n120 hn120 => ?_
    refine nm (Un.dv ((Un.read t7).1) 2 : Int) fun n121 hn121 => ?_
    refine nm (Un.dv ((Un.read t7).1) 3 : Int) fun n122 hn122 => ?_
    refine nm (Un.dv ((Un.read t7).1) 4 : Int) fun n123 hn123 => ?_
    refine nm (Un.dv ((Un.read t7).1) 5 : Int) fun n124 hn124 => ?_
    refine nm (Fr.rS (((Un.read t7).1).isSome = true) (Un.fv ((Un.read t7).1)) : Int) fun n125 hn125 => ?_
    refine nm (Fr.rD (((Un.read t7).1).isSome = true) (Un.fv ((Un.read t7).1)) : List Int) fun l48 hl48 => ?_
    have hl48n := congrArg List.length hl48
    refine nm (Fr.rT (((Un.read t7).1).isSome = true) : Int) fun n126 hn126 => ?_
    refine nm (Fr.rE (((Un.read t7).1).isSome = true) (Un.fv ((Un.read t7).1)) : List Int) fun l49 hl49 => ?_
    have hl49n := congrArg List.length hl49
    refine nm ((Un.read t7).2 : Int) fun n127 hn127 => ?_
    have hxp : x13 = ⟨#[77]⟩ := by rw [hx13]; rfl
    have hxpn : x13.size = 1 := by rw [hxp]; rfl
    have hrp := Un.read_pfx _ hmem ((⟨#[77]⟩, 1000000)) (by unfold Un.pxs; simp)
    have htt : t7 = ⟨#[77]⟩ ++ s := by rw [ht7, hxp]
    have hrq : Un.read t7 = if Un.pf s then (some (((Un.sym s).getD ([], 0)).1, Un.fv (Un.sym s) * 1000000), 0) else (none, 11) := by rw [htt]; exact hrp
    refine V.r [.k (SV.v ⟨atB (G44 0).b, 4, 4⟩),.k (iv 1),.ix g0 (ko true 9 3 ([⟨#[107]⟩, ⟨#[77]⟩, ⟨#[71]⟩, ⟨#[109]⟩] : List ByteArray) (fun _ => ⟨atB (G44 0).b, 4, 4⟩)) 1 (fun _ => ⟨by omega, by simp only [List.length_cons, List.length_nil, List.length_set]; omega⟩),.le g0 (ko true 9 3 ([⟨#[107]⟩, ⟨#[77]⟩, ⟨#[71]⟩, ⟨#[109]⟩] : List ByteArray) (fun _ => ⟨atB (G44 0).b, 4, 4⟩)) (1 : Int) none false x13 hx13 (fun _ => ⟨by omega, by simp only [List.length_cons, List.length_nil, List.length_set]; omega⟩) false (fun _ => [tv x13]),.k (tv s),.sad g0 x13 s t7 ht7 (fun _ => by omega),.ct g0 6 13 false [] [] [] (fun _ G => uread_ctv t7 (by omega) n119 hn119 n120 hn120 n121 hn121 n122 hn122 n123 hn123 n124 hn124 n125 hn125 l48 hl48 n126 hn126 l49 hl49 n127 hn127),.v fun G => .tuple #[.agg #[iv n119, iv n120, iv n121, iv n122, iv n123, iv n124, iv n125, ((G 6).ss 0).v, iv n126, ((G 6).ss 1).v], iv n127],.v fun G => .agg #[iv n119, iv n120, iv n121, iv n122, iv n123, iv n124, iv n125, ((G 6).ss 0).v, iv n126, ((G 6).ss 1).v],.k (iv n127),.nb 10 6 (fun b => pp b 0) 32 (fun _ => #[iv 0, iv 0, iv 0, iv 0, iv 0, iv 0, iv 0, .slice none 0 0, iv 0, .slice none 0 0]),.st 6 (fun G => .blk ((G 10).b) #[iv n119, iv n120, iv n121, iv n122, iv n123, iv n124, iv n125, ((G 6).ss 0).v, iv n126, ((G 6).ss 1).v] 32),.k (iv n127)] fun _ _ G54 kw54 => ?_
    intro S_ s_
    obtain ⟨⟨kl57, -⟩, ⟨kl58, -⟩, -⟩ : Lq l48 (((G54 6).ss 0).v) ∧ Lq l49 (((G54 6).ss 1).v) ∧ Lq ([⟨#[107]⟩, ⟨#[77]⟩, ⟨#[71]⟩, ⟨#[109]⟩] : List ByteArray) (SV.v ⟨atB (G44 0).b, 4, 4⟩) ∧ Lq l41 (SV.v ⟨atB (G45 5).b, 4, 4⟩) ∧ True := kn kw54 (by kernel_rfl)
    clear kw54
    refine V.g [.k (iv n106),.k (bv (!(decide (n106 = 0)))),.k (bv (!(decide (n106 = 0)))),.ld 2 0 true (fun _ => [iv n83, iv n84, iv n85, iv n86, iv n87, iv n88, iv n89, ((G40 1).ss 0).v, iv n90, ((G40 1).ss 1).v]),.ld 5 0 true (fun _ => [iv n98, iv n99, iv n100, iv n101, iv n102, iv n103, iv n104, ((G47 1).ss 0).v, iv n105, ((G47 1).ss 1).v]),.cp (gF (b := !(decide (n106 = 0))) (iNF iDT)) 5 19 [(kf true (.f 0) l32 (fun _ => (G40 1).ss 0)).a, (kf true (.f 1) l33 (fun _ => (G40 1).ss 1)).a, (kf true (.f 10) l42 (fun _ => (G47 1).ss 0)).a, (kf true (.f 11) l43 (fun _ => (G47 1).ss 1)).a] (fun hg G => same9t_ct n83 n84 n85 n86 n87 n88 n89 l32 ((G40 1).ss 0) n90 l33 ((G40 1).ss 1) n98 n99 n100 n101 n102 n103 n104 l42 ((G47 1).ss 0) n105 l43 ((G47 1).ss 1) hS9),.kb false,.or g0 false (!(decide (n106 = 0))) false] fun _ _ G55 => ?_
    intro S_ s_
    refine V.cond (b := (!(decide (n106 = 0))) || false) (iOT (iNT iDF) iFT) (iOF (iNF iDT) iFF) (by kernel_rfl) (fun q31 => ?_) (fun q32 => ?_)
    · exfalso; have hqq := q31; rcases hqq with h | h
      · exact h e15
      exact h.elim
    refine nm ((!(decide (s = ⟨#[103]⟩))) && (!(decide (s = ⟨#[109]⟩))) : Bool) fun p22 hp22 => ?_
    refine nm ((p22 && (!(decide (s = ⟨#[108]⟩)))) && (!(decide (s = ⟨#[115]⟩))) : Bool) fun p23 hp23 => ?_
    refine nm ((p23 && (!(decide (s = ⟨#[74]⟩)))) && (!(decide (s = ⟨#[87, 104]⟩))) : Bool) fun p24 hp24 => ?_
    refine V.g [.k (tv s),.sne s ⟨#[103]⟩,.k (bv (!(decide (s = ⟨#[103]⟩)))),.k (tv s),.sne s ⟨#[109]⟩,.andn g0 false (!(decide (s = ⟨#[103]⟩))) (!(decide (s = ⟨#[109]⟩))) p22 hp22,.k (bv p22),.k (tv s),.sne s ⟨#[108]⟩,.and g0 false p22 (!(decide (s = ⟨#[108]⟩))),.k (bv (p22 && (!(decide (s = ⟨#[108]⟩))))),.k (tv s),.sne s ⟨#[115]⟩,.andn g0 false (p22 && (!(decide (s = ⟨#[108]⟩)))) (!(decide (s = ⟨#[115]⟩))) p23 hp23,.k (bv p23),.k (tv s),.sne s ⟨#[74]⟩,.and g0 false p23 (!(decide (s = ⟨#[74]⟩))),.k (bv (p23 && (!(decide (s = ⟨#[74]⟩))))),.k (tv s),.sne s ⟨#[87, 104]⟩,.andn g0 false (p23 && (!(decide (s = ⟨#[74]⟩)))) (!(decide (s = ⟨#[87, 104]⟩))) p24 hp24] fun _ _ G56 => ?_
    intro S_ s_
    refine V.cond (b := p24) (iN hp24 (iAT (iAT (iN hp23 (iAT (iAT (iN hp22 (iAT (iNT iDF) (iNT iDF))) (iNT iDF)) (iNT iDF))) (iNT iDF)) (iNT iDF))) (iN hp24 (iAF (iAF (iN hp23 (iAF (iAF (iN hp22 (iAF (iNF iDT) (iNF iDT))) (iNF iDT)) (iNF iDT))) (iNF iDT)) (iNF iDT))) (by kernel_rfl) (fun q33 => ?_) (fun q34 => ?_)
    · have hnp : ¬ Un.pf s := by have hqq := q33; obtain ⟨⟨⟨⟨⟨h1, h2⟩, h3⟩, h4⟩, h5⟩, h6⟩ := hqq; rintro (((((h | h) | h) | h) | h) | h); exact h1 h; exact h2 h; exact h3 h; exact h4 h; exact h5 h; exact h6 h
      rw [if_neg hnp] at hrq
      refine V.g [.kb true,.kb true,.k (iv n127),.k (bv (decide (n127 = 11))),.k (bv (decide (n127 = 11))),.k (bv (decide (n127 = 11)))] fun _ _ G57 => ?_
      intro S_ s_
      have e0 : (decide (n127 = 11)) = true := by
        refine iDT.2 ?_
        have e20 : n127 = 11 := by rw [hn127, hrq]
        first | exact e20 | exact ⟨trivial, e20⟩
      exact V.ret [0] [] [] [] [] [] (bv (decide (n127 = 11))) (fun _ _ => by kernel_rfl) (fun _ _ => (Eq.trans (by kernel_rfl) (cong1 (fun (x0 : Bool) => (bv x0 : Value)) e0)).trans (by kernel_rfl)) (fun _ _ => trivial)
    have hpf : Un.pf s := by have hqq := q34; exact hqq
    rw [if_pos hpf] at hrq
    refine nm (l41.getD (1 : Int).toNat default : DFrac) fun x14 hx14 => ?_
    refine nm (Fr.rS (Fr.FrB n104 l42 n105 l43 ∧ Fr.FrB x14.P.Sign x14.P.Digits.l x14.Q.Sign x14.Q.Digits.l) ((Fr.fq n104 l42 l43) * (Fr.fq x14.P.Sign x14.P.Digits.l x14.Q.Digits.l)) : Int) fun n128 hn128 => ?_
    refine nm (Fr.rD (Fr.FrB n104 l42 n105 l43 ∧ Fr.FrB x14.P.Sign x14.P.Digits.l x14.Q.Sign x14.Q.Digits.l) ((Fr.fq n104 l42 l43) * (Fr.fq x14.P.Sign x14.P.Digits.l x14.Q.Digits.l)) : List Int) fun l50 hl50 => ?_
    have hl50n := congrArg List.length hl50
    refine nm (Fr.rT (Fr.FrB n104 l42 n105 l43 ∧ Fr.FrB x14.P.Sign x14.P.Digits.l x14.Q.Sign x14.Q.Digits.l) : Int) fun n129 hn129 => ?_
    refine nm (Fr.rE (Fr.FrB n104 l42 n105 l43 ∧ Fr.FrB x14.P.Sign x14.P.Digits.l x14.Q.Sign x14.Q.Digits.l) ((Fr.fq n104 l42 l43) * (Fr.fq x14.P.Sign x14.P.Digits.l x14.Q.Digits.l)) : List Int) fun l51 hl51 => ?_
    have hl51n := congrArg List.length hl51
    refine nm (if ¬ (Fr.FrB n104 l42 n105 l43 ∧ Fr.FrB x14.P.Sign x14.P.Digits.l x14.Q.Sign x14.Q.Digits.l) then (1 : Int) else 0 : Int) fun n130 hn130 => ?_
    have zt : Fr.Fz x14.P.Sign x14.P.Digits.l x14.Q.Sign x14.Q.Digits.l (1000000) := by rw [hx14, hl41, hl38]; exact z13_1
    have htl := zt.len (k := 4) (by decide +kernel); have htl1 := htl.1; have htl2 := htl.2
    have zw := Fr.Fz.of (And.intro zb.rt zt.rt) hn128 hl50 hn129 hl51
    rw [zb.v, zt.v] at zw
    refine V.r [.k (pp ((G47 5).b) 6),.ld 5 6 true (fun _ => Dat.cells (DFrac.mk (DBig.mk n104 ⟨l42, (G47 1).ss 0⟩) (DBig.mk n105 ⟨l43, (G47 1).ss 1⟩))),.k (SV.v ⟨atB (G45 5).b, 4, 4⟩),.k (iv 1),.ix g0 (ko true 30 4 l41 (fun _ => ⟨atB (G45 5).b, 4, 4⟩)) 1 (fun _ => ⟨by omega, by omega⟩),.le g0 (ko true 30 4 l41 (fun _ => ⟨atB (G45 5).b, 4, 4⟩)) (1 : Int) none true x14 hx14 (fun _ => ⟨by omega, by omega⟩) true (fun _ => Dat.cells x14),.ct g0 6 20 false [] [] [(kf true (.f 10) l42 (fun _ => (G47 1).ss 0)).a, (kf true (.f 11) l43 (fun _ => (G47 1).ss 1)).a, (kx true (.g 5 0) x14 x14.P.Digits.l (fun _ => x14.P.Digits.s) (fun _ H (h : Dat.good H (x14 : DFrac)) => h.1)).a, (kx true (.g 5 0) x14 x14.Q.Digits.l (fun _ => x14.Q.Digits.s) (fun _ H (h : Dat.good H (x14 : DFrac)) => h.2)).a] (fun _ G => fmul_ctv n104 l42 ((G47 1).ss 0) n105 l43 ((G47 1).ss 1) x14.P.Sign x14.P.Digits.l x14.P.Digits.s x14.Q.Sign x14.Q.Digits.l x14.Q.Digits.s (by omega) (by omega) (by omega) (by omega) n128 hn128 l50 hl50 n129 hn129 l51 hl51 n130 hn130),.v fun G => .tuple #[ag (DFrac.mk (DBig.mk n128 ⟨l50, (G 6).ss 0⟩) (DBig.mk n129 ⟨l51, (G 6).ss 1⟩)), iv n130],.v fun G => ag (DFrac.mk (DBig.mk n128 ⟨l50, (G 6).ss 0⟩) (DBig.mk n129 ⟨l51, (G 6).ss 1⟩)),.k (iv n130),.nb 10 7 (fun b => pp b 0) 30 (fun _ => ca (DFrac.mk (DBig.mk 0 ⟨[], {}⟩) (DBig.mk 0 ⟨[], {}⟩))),.st 7 (fun G => .blk ((G 10).b) (ca (DFrac.mk (DBig.mk n128 ⟨l50, (G 6).ss 0⟩) (DBig.mk n129 ⟨l51, (G 6).ss 1⟩))) 30),.k (iv n130)] fun _ _ G58 kw58 => ?_
    intro S_ s_
    obtain ⟨⟨⟨kl59, -⟩, ⟨kl60, -⟩⟩, ⟨kl61, -⟩, ⟨kl62, -⟩, -⟩ : (Lq x14.P.Digits.l x14.P.Digits.s.v ∧ Lq x14.Q.Digits.l x14.Q.Digits.s.v) ∧ Lq l50 (((G58 6).ss 0).v) ∧ Lq l51 (((G58 6).ss 1).v) ∧ Lq ([⟨#[107]⟩, ⟨#[77]⟩, ⟨#[71]⟩, ⟨#[109]⟩] : List ByteArray) (SV.v ⟨atB (G44 0).b, 4, 4⟩) ∧ Lq l41 (SV.v ⟨atB (G45 5).b, 4, 4⟩) ∧ True := kn kw58 (by kernel_rfl)
    clear kw58
    refine nm ((decide (n127 = 0)) && (decide (n119 = n98 ∧ n120 = n99 ∧ n121 = n100 ∧ n122 = n101 ∧ n123 = n102 ∧ n124 = n103)) : Bool) fun p25 hp25 => ?_
    have e22 : n127 = 0 := by rw [hn127, hrq]
    have e22_0 : n119 = n98 := by rw [hn119, hn98, hrq, hrs1]; rfl
    have e22_1 : n120 = n99 := by rw [hn120, hn99, hrq, hrs1]; rfl
    have e22_2 : n121 = n100 := by rw [hn121, hn100, hrq, hrs1]; rfl
    have e22_3 : n122 = n101 := by rw [hn122, hn101, hrq, hrs1]; rfl
    have e22_4 : n123 = n102 := by rw [hn123, hn102, hrq, hrs1]; rfl
    have e22_5 : n124 = n103 := by rw [hn124, hn103, hrq, hrs1]; rfl
    have z22 := Fr.Fz.of (show (Un.read t7).1.isSome = true by rw [hrq]; rfl) hn125 hl48 hn126 hl49
    rw [show Un.fv (Un.read t7).1 = Un.fv (Un.sym s) * 1000000 by rw [hrq]; rfl] at z22
    have hs22 := Fr.Fz.inj z22 zw
    refine V.g [.kb true,.kb true,.k (iv n127),.k (bv (decide (n127 = 0))),.k (bv (decide (n127 = 0))),.k (bv (decide (n127 = 0))),.k (pp ((G54 10).b) 0),.ld 6 0 true (fun _ => [iv n119, iv n120, iv n121, iv n122, iv n123, iv n124]),.k (pp ((G47 5).b) 0),.ld 5 0 true (fun _ => [iv n98, iv n99, iv n100, iv n101, iv n102, iv n103]),.aeq false 23 #[iv n119, iv n120, iv n121, iv n122, iv n123, iv n124] #[iv n98, iv n99, iv n100, iv n101, iv n102, iv n103] _ fun w => dim_equal w n119 n120 n121 n122 n123 n124 n98 n99 n100 n101 n102 n103,.andn g0 false (decide (n127 = 0)) (decide (n119 = n98 ∧ n120 = n99 ∧ n121 = n100 ∧ n122 = n101 ∧ n123 = n102 ∧ n124 = n103)) p25 hp25,.k (bv p25),.k (pp ((G54 10).b) 6),.ld 6 6 true (fun _ => Dat.cells (DFrac.mk (DBig.mk n125 ⟨l48, (G54 6).ss 0⟩) (DBig.mk n126 ⟨l49, (G54 6).ss 1⟩))),.ld 7 0 true (fun _ => Dat.cells (DFrac.mk (DBig.mk n128 ⟨l50, (G58 6).ss 0⟩) (DBig.mk n129 ⟨l51, (G58 6).ss 1⟩))),.cp (gT (b := p25) (iN hp25 (iAT iDT iDT))) 16 15 [(kf true (.f 12) l48 (fun _ => (G54 6).ss 0)).a, (kf true (.f 13) l49 (fun _ => (G54 6).ss 1)).a, (kf true (.f 15) l50 (fun _ => (G58 6).ss 0)).a, (kf true (.f 16) l51 (fun _ => (G58 6).ss 1)).a] (fun hg G => same5t_ct n125 l48 ((G54 6).ss 0) n126 l49 ((G54 6).ss 1) n128 l50 ((G58 6).ss 0) n129 l51 ((G58 6).ss 1) hs22),.and g0 false p25 true,.k (bv (p25 && true))] fun _ _ G59 => ?_
    intro S_ s_
    have e0 : (p25 && true) = true := by
      refine (iAT (iN hp25 (iAT iDT iDT)) iTT).2 ?_
      have e6 := And.intro e22 (And.intro e22_0 (And.intro e22_1 (And.intro e22_2 (And.intro e22_3 (And.intro e22_4 e22_5)))))
      first | exact ⟨e6, trivial⟩ | exact e6
    exact V.ret [0] [] [] [] [] [] (bv (p25 && true)) (fun _ _ => by kernel_rfl) (fun _ _ => (Eq.trans (by kernel_rfl) (cong1 (fun (x0 : Bool) => (bv x0 : Value)) e0)).trans (by kernel_rfl)) (fun _ _ => trivial)
  · refine V.alt (fun (zz : Int) => (⟨[(1, tv s), (7, bv true), (10, pp ((G40 5).b) 0), (12, iv zz), (13, SV.v ⟨atB (G44 0).b, 4, 4⟩), (14, SV.v ⟨atB (G45 5).b, 4, 4⟩), (15, pp ((G47 5).b) 0), (16, iv n106)], [fs true l32 ((G40 1).ss 0), fs true l33 ((G40 1).ss 1), fs true l34 ((G45 0).ss 0), fs true l35 ((G45 0).ss 1), fs true l36 ((G45 1).ss 0), fs true l35 ((G45 1).ss 1), fs true l37 ((G45 2).ss 0), fs true l35 ((G45 2).ss 1), fs true l39 ((G46 1).ss 0), fs true l40 ((G46 1).ss 1), fs true l42 ((G47 1).ss 0), fs true l43 ((G47 1).ss 1)], [.blk ((G1 0).b) #[iv d0, iv d1, iv d2, iv d3, iv d4, iv d5] 23, .no, .blk ((G40 5).b) #[iv n83, iv n84, iv n85, iv n86, iv n87, iv n88, iv n89, ((G40 1).ss 0).v, iv n90, ((G40 1).ss 1).v] 32, os true 9 ([⟨#[107]⟩, ⟨#[77]⟩, ⟨#[71]⟩, ⟨#[109]⟩] : List ByteArray) ⟨atB (G44 0).b, 4, 4⟩, os true 30 l41 ⟨atB (G45 5).b, 4, 4⟩, .blk ((G47 5).b) #[iv n98, iv n99, iv n100, iv n101, iv n102, iv n103, iv n104, ((G47 1).ss 0).v, iv n105, ((G47 1).ss 1).v] 32, .no, .no]⟩ : St)) hcs7 [0, 1, 2, 3, 4, 5, 6, 7, 8, 9, 10, 11] (by kernel_rfl) ?_
    refine nm (([⟨#[107]⟩, ⟨#[77]⟩, ⟨#[71]⟩, ⟨#[109]⟩] : List ByteArray).getD (2 : Int).toNat default : ByteArray) fun x15 hx15 => ?_
    refine nm (x15 ++ s : ByteArray) fun t8 ht8 => ?_
    have ht8n : t8.size = x15.size + s.size := by rw [ht8, ByteArray.size_append]
    refine nm (Un.dv ((Un.read t8).1) 0 : Int) fun n131 hn131 => ?_
    refine nm (Un.dv ((Un.read t8).1) 1 : Int) fun n132 hn132 => ?_
    refine nm (Un.dv ((Un.read t8).1) 2 : Int) fun n133 hn133 => ?_
    refine nm (Un.dv ((Un.read t8).1) 3 : Int) fun n134 hn134 => ?_
    refine nm (Un.dv ((Un.read t8).1) 4 : Int) fun n135 hn135 => ?_
    refine nm (Un.dv ((Un.read t8).1) 5 : Int) fun n136 hn136 => ?_
    refine nm (Fr.rS (((Un.read t8).1).isSome = true) (Un.fv ((Un.read t8).1)) : Int) fun n137 hn137 => ?_
    refine nm (Fr.rD (((Un.read t8).1).isSome = true) (Un.fv ((Un.read t8).1)) : List Int) fun l52 hl52 => ?_
    have hl52n := congrArg List.length hl52
    refine nm (Fr.rT (((Un.read t8).1).isSome = true) : Int) fun n138 hn138 => ?_
    refine nm (Fr.rE (((Un.read t8).1).isSome = true) (Un.fv ((Un.read t8).1)) : List Int) fun l53 hl53 => ?_
    have hl53n := congrArg List.length hl53
    refine nm ((Un.read t8).2 : Int) fun n139 hn139 => ?_
    have hxp : x15 = ⟨#[71]⟩ := by rw [hx15]; rfl
    have hxpn : x15.size = 1 := by rw [hxp]; rfl
    have hrp := Un.read_pfx _ hmem ((⟨#[71]⟩, 1000000000)) (by unfold Un.pxs; simp)
    have htt : t8 = ⟨#[71]⟩ ++ s := by rw [ht8, hxp]
    have hrq : Un.read t8 = if Un.pf s then (some (((Un.sym s).getD ([], 0)).1, Un.fv (Un.sym s) * 1000000000), 0) else (none, 11) := by rw [htt]; exact hrp
    refine V.r [.k (SV.v ⟨atB (G44 0).b, 4, 4⟩),.k (iv 2),.ix g0 (ko true 9 3 ([⟨#[107]⟩, ⟨#[77]⟩, ⟨#[71]⟩, ⟨#[109]⟩] : List ByteArray) (fun _ => ⟨atB (G44 0).b, 4, 4⟩)) 2 (fun _ => ⟨by omega, by simp only [List.length_cons, List.length_nil, List.length_set]; omega⟩),.le g0 (ko true 9 3 ([⟨#[107]⟩, ⟨#[77]⟩, ⟨#[71]⟩, ⟨#[109]⟩] : List ByteArray) (fun _ => ⟨atB (G44 0).b, 4, 4⟩)) (2 : Int) none false x15 hx15 (fun _ => ⟨by omega, by simp only [List.length_cons, List.length_nil, List.length_set]; omega⟩) false (fun _ => [tv x15]),.k (tv s),.sad g0 x15 s t8 ht8 (fun _ => by omega),.ct g0 6 13 false [] [] [] (fun _ G => uread_ctv t8 (by omega) n131 hn131 n132 hn132 n133 hn133 n134 hn134 n135 hn135 n136 hn136 n137 hn137 l52 hl52 n138 hn138 l53 hl53 n139 hn139),.v fun G => .tuple #[.agg #[iv n131, iv n132, iv n133, iv n134, iv n135, iv n136, iv n137, ((G 6).ss 0).v, iv n138, ((G 6).ss 1).v], iv n139],.v fun G => .agg #[iv n131, iv n132, iv n133, iv n134, iv n135, iv n136, iv n137, ((G 6).ss 0).v, iv n138, ((G 6).ss 1).v],.k (iv n139),.nb 10 6 (fun b => pp b 0) 32 (fun _ => #[iv 0, iv 0, iv 0, iv 0, iv 0, iv 0, iv 0, .slice none 0 0, iv 0, .slice none 0 0]),.st 6 (fun G => .blk ((G 10).b) #[iv n131, iv n132, iv n133, iv n134, iv n135, iv n136, iv n137, ((G 6).ss 0).v, iv n138, ((G 6).ss 1).v] 32),.k (iv n139)] fun _ _ G60 kw60 => ?_
    intro S_ s_
    obtain ⟨⟨kl63, -⟩, ⟨kl64, -⟩, -⟩ : Lq l52 (((G60 6).ss 0).v) ∧ Lq l53 (((G60 6).ss 1).v) ∧ Lq ([⟨#[107]⟩, ⟨#[77]⟩, ⟨#[71]⟩, ⟨#[109]⟩] : List ByteArray) (SV.v ⟨atB (G44 0).b, 4, 4⟩) ∧ Lq l41 (SV.v ⟨atB (G45 5).b, 4, 4⟩) ∧ True := kn kw60 (by kernel_rfl)
    clear kw60
    refine V.g [.k (iv n106),.k (bv (!(decide (n106 = 0)))),.k (bv (!(decide (n106 = 0)))),.ld 2 0 true (fun _ => [iv n83, iv n84, iv n85, iv n86, iv n87, iv n88, iv n89, ((G40 1).ss 0).v, iv n90, ((G40 1).ss 1).v]),.ld 5 0 true (fun _ => [iv n98, iv n99, iv n100, iv n101, iv n102, iv n103, iv n104, ((G47 1).ss 0).v, iv n105, ((G47 1).ss 1).v]),.cp (gF (b := !(decide (n106 = 0))) (iNF iDT)) 5 19 [(kf true (.f 0) l32 (fun _ => (G40 1).ss 0)).a, (kf true (.f 1) l33 (fun _ => (G40 1).ss 1)).a, (kf true (.f 10) l42 (fun _ => (G47 1).ss 0)).a, (kf true (.f 11) l43 (fun _ => (G47 1).ss 1)).a] (fun hg G => same9t_ct n83 n84 n85 n86 n87 n88 n89 l32 ((G40 1).ss 0) n90 l33 ((G40 1).ss 1) n98 n99 n100 n101 n102 n103 n104 l42 ((G47 1).ss 0) n105 l43 ((G47 1).ss 1) hS9),.kb false,.or g0 false (!(decide (n106 = 0))) false] fun _ _ G61 => ?_
    intro S_ s_
    refine V.cond (b := (!(decide (n106 = 0))) || false) (iOT (iNT iDF) iFT) (iOF (iNF iDT) iFF) (by kernel_rfl) (fun q35 => ?_) (fun q36 => ?_)
    · exfalso; have hqq := q35; rcases hqq with h | h
      · exact h e15
      exact h.elim
    refine nm ((!(decide (s = ⟨#[103]⟩))) && (!(decide (s = ⟨#[109]⟩))) : Bool) fun p26 hp26 => ?_
    refine nm ((p26 && (!(decide (s = ⟨#[108]⟩)))) && (!(decide (s = ⟨#[115]⟩))) : Bool) fun p27 hp27 => ?_
    refine nm ((p27 && (!(decide (s = ⟨#[74]⟩)))) && (!(decide (s = ⟨#[87, 104]⟩))) : Bool) fun p28 hp28 => ?_
    refine V.g [.k (tv s),.sne s ⟨#[103]⟩,.k (bv (!(decide (s = ⟨#[103]⟩)))),.k (tv s),.sne s ⟨#[109]⟩,.andn g0 false (!(decide (s = ⟨#[103]⟩))) (!(decide (s = ⟨#[109]⟩))) p26 hp26,.k (bv p26),.k (tv s),.sne s ⟨#[108]⟩,.and g0 false p26 (!(decide (s = ⟨#[108]⟩))),.k (bv (p26 && (!(decide (s = ⟨#[108]⟩))))),.k (tv s),.sne s ⟨#[115]⟩,.andn g0 false (p26 && (!(decide (s = ⟨#[108]⟩)))) (!(decide (s = ⟨#[115]⟩))) p27 hp27,.k (bv p27),.k (tv s),.sne s ⟨#[74]⟩,.and g0 false p27 (!(decide (s = ⟨#[74]⟩))),.k (bv (p27 && (!(decide (s = ⟨#[74]⟩))))),.k (tv s),.sne s ⟨#[87, 104]⟩,.andn g0 false (p27 && (!(decide (s = ⟨#[74]⟩)))) (!(decide (s = ⟨#[87, 104]⟩))) p28 hp28] fun _ _ G62 => ?_
    intro S_ s_
    refine V.cond (b := p28) (iN hp28 (iAT (iAT (iN hp27 (iAT (iAT (iN hp26 (iAT (iNT iDF) (iNT iDF))) (iNT iDF)) (iNT iDF))) (iNT iDF)) (iNT iDF))) (iN hp28 (iAF (iAF (iN hp27 (iAF (iAF (iN hp26 (iAF (iNF iDT) (iNF iDT))) (iNF iDT)) (iNF iDT))) (iNF iDT)) (iNF iDT))) (by kernel_rfl) (fun q37 => ?_) (fun q38 => ?_)
    · have hnp : ¬ Un.pf s := by have hqq := q37; obtain ⟨⟨⟨⟨⟨h1, h2⟩, h3⟩, h4⟩, h5⟩, h6⟩ := hqq; rintro (((((h | h) | h) | h) | h) | h); exact h1 h; exact h2 h; exact h3 h; exact h4 h; exact h5 h; exact h6 h
      rw [if_neg hnp] at hrq
      refine V.g [.kb true,.kb true,.k (iv n139),.k (bv (decide (n139 = 11))),.k (bv (decide (n139 = 11))),.k (bv (decide (n139 = 11)))] fun _ _ G63 => ?_
      intro S_ s_
      have e0 : (decide (n139 = 11)) = true := by
        refine iDT.2 ?_
        have e20 : n139 = 11 := by rw [hn139, hrq]
        first | exact e20 | exact ⟨trivial, e20⟩
      exact V.ret [0] [] [] [] [] [] (bv (decide (n139 = 11))) (fun _ _ => by kernel_rfl) (fun _ _ => (Eq.trans (by kernel_rfl) (cong1 (fun (x0 : Bool) => (bv x0 : Value)) e0)).trans (by kernel_rfl)) (fun _ _ => trivial)
    have hpf : Un.pf s := by have hqq := q38; exact hqq
    rw [if_pos hpf] at hrq
    refine nm (l41.getD (2 : Int).toNat default : DFrac) fun x16 hx16 => ?_
    refine nm (Fr.rS (Fr.FrB n104 l42 n105 l43 ∧ Fr.FrB x16.P.Sign x16.P.Digits.l x16.Q.Sign x16.Q.Digits.l) ((Fr.fq n104 l42 l43) * (Fr.fq x16.P.Sign x16.P.Digits.l x16.Q.Digits.l)) : Int) fun n140 hn140 => ?_
    refine nm (Fr.rD (Fr.FrB n104 l42 n105 l43 ∧ Fr.FrB x16.P.Sign x16.P.Digits.l x16.Q.Sign x16.Q.Digits.l) ((Fr.fq n104 l42 l43) * (Fr.fq x16.P.Sign x16.P.Digits.l x16.Q.Digits.l)) : List Int) fun l54 hl54 => ?_
    have hl54n := congrArg List.length hl54
    refine nm (Fr.rT (Fr.FrB n104 l42 n105 l43 ∧ Fr.FrB x16.P.Sign x16.P.Digits.l x16.Q.Sign x16.Q.Digits.l) : Int) fun n141 hn141 => ?_
    refine nm (Fr.rE (Fr.FrB n104 l42 n105 l43 ∧ Fr.FrB x16.P.Sign x16.P.Digits.l x16.Q.Sign x16.Q.Digits.l) ((Fr.fq n104 l42 l43) * (Fr.fq x16.P.Sign x16.P.Digits.l x16.Q.Digits.l)) : List Int) fun l55 hl55 => ?_
    have hl55n := congrArg List.length hl55
    refine nm (if ¬ (Fr.FrB n104 l42 n105 l43 ∧ Fr.FrB x16.P.Sign x16.P.Digits.l x16.Q.Sign x16.Q.Digits.l) then (1 : Int) else 0 : Int) fun n142 hn142 => ?_
    have zt : Fr.Fz x16.P.Sign x16.P.Digits.l x16.Q.Sign x16.Q.Digits.l (1000000000) := by rw [hx16, hl41, hl38]; exact z13_2
    have htl := zt.len (k := 4) (by decide +kernel); have htl1 := htl.1; have htl2 := htl.2
    have zw := Fr.Fz.of (And.intro zb.rt zt.rt) hn140 hl54 hn141 hl55
    rw [zb.v, zt.v] at zw
    refine V.r [.k (pp ((G47 5).b) 6),.ld 5 6 true (fun _ => Dat.cells (DFrac.mk (DBig.mk n104 ⟨l42, (G47 1).ss 0⟩) (DBig.mk n105 ⟨l43, (G47 1).ss 1⟩))),.k (SV.v ⟨atB (G45 5).b, 4, 4⟩),.k (iv 2),.ix g0 (ko true 30 4 l41 (fun _ => ⟨atB (G45 5).b, 4, 4⟩)) 2 (fun _ => ⟨by omega, by omega⟩),.le g0 (ko true 30 4 l41 (fun _ => ⟨atB (G45 5).b, 4, 4⟩)) (2 : Int) none true x16 hx16 (fun _ => ⟨by omega, by omega⟩) true (fun _ => Dat.cells x16),.ct g0 6 20 false [] [] [(kf true (.f 10) l42 (fun _ => (G47 1).ss 0)).a, (kf true (.f 11) l43 (fun _ => (G47 1).ss 1)).a, (kx true (.g 5 0) x16 x16.P.Digits.l (fun _ => x16.P.Digits.s) (fun _ H (h : Dat.good H (x16 : DFrac)) => h.1)).a, (kx true (.g 5 0) x16 x16.Q.Digits.l (fun _ => x16.Q.Digits.s) (fun _ H (h : Dat.good H (x16 : DFrac)) => h.2)).a] (fun _ G => fmul_ctv n104 l42 ((G47 1).ss 0) n105 l43 ((G47 1).ss 1) x16.P.Sign x16.P.Digits.l x16.P.Digits.s x16.Q.Sign x16.Q.Digits.l x16.Q.Digits.s (by omega) (by omega) (by omega) (by omega) n140 hn140 l54 hl54 n141 hn141 l55 hl55 n142 hn142),.v fun G => .tuple #[ag (DFrac.mk (DBig.mk n140 ⟨l54, (G 6).ss 0⟩) (DBig.mk n141 ⟨l55, (G 6).ss 1⟩)), iv n142],.v fun G => ag (DFrac.mk (DBig.mk n140 ⟨l54, (G 6).ss 0⟩) (DBig.mk n141 ⟨l55, (G 6).ss 1⟩)),.k (iv n142),.nb 10 7 (fun b => pp b 0) 30 (fun _ => ca (DFrac.mk (DBig.mk 0 ⟨[], {}⟩) (DBig.mk 0 ⟨[], {}⟩))),.st 7 (fun G => .blk ((G 10).b) (ca (DFrac.mk (DBig.mk n140 ⟨l54, (G 6).ss 0⟩) (DBig.mk n141 ⟨l55, (G 6).ss 1⟩))) 30),.k (iv n142)] fun _ _ G64 kw64 => ?_
    intro S_ s_
    obtain ⟨⟨⟨kl65, -⟩, ⟨kl66, -⟩⟩, ⟨kl67, -⟩, ⟨kl68, -⟩, -⟩ : (Lq x16.P.Digits.l x16.P.Digits.s.v ∧ Lq x16.Q.Digits.l x16.Q.Digits.s.v) ∧ Lq l54 (((G64 6).ss 0).v) ∧ Lq l55 (((G64 6).ss 1).v) ∧ Lq ([⟨#[107]⟩, ⟨#[77]⟩, ⟨#[71]⟩, ⟨#[109]⟩] : List ByteArray) (SV.v ⟨atB (G44 0).b, 4, 4⟩) ∧ Lq l41 (SV.v ⟨atB (G45 5).b, 4, 4⟩) ∧ True := kn kw64 (by kernel_rfl)
    clear kw64
    refine nm ((decide (n139 = 0)) && (decide (n131 = n98 ∧ n132 = n99 ∧ n133 = n100 ∧ n134 = n101 ∧ n135 = n102 ∧ n136 = n103)) : Bool) fun p29 hp29 => ?_
    have e22 : n139 = 0 := by rw [hn139, hrq]
    have e22_0 : n131 = n98 := by rw [hn131, hn98, hrq, hrs1]; rfl
    have e22_1 : n132 = n99 := by rw [hn132, hn99, hrq, hrs1]; rfl
    have e22_2 : n133 = n100 := by rw [hn133, hn100, hrq, hrs1]; rfl
    have e22_3 : n134 = n101 := by rw [hn134, hn101, hrq, hrs1]; rfl
    have e22_4 : n135 = n102 := by rw [hn135, hn102, hrq, hrs1]; rfl
    have e22_5 : n136 = n103 := by rw [hn136, hn103, hrq, hrs1]; rfl
    have z22 := Fr.Fz.of (show (Un.read t8).1.isSome = true by rw [hrq]; rfl) hn137 hl52 hn138 hl53
    rw [show Un.fv (Un.read t8).1 = Un.fv (Un.sym s) * 1000000000 by rw [hrq]; rfl] at z22
    have hs22 := Fr.Fz.inj z22 zw
    refine V.g [.kb true,.kb true,.k (iv n139),.k (bv (decide (n139 = 0))),.k (bv (decide (n139 = 0))),.k (bv (decide (n139 = 0))),.k (pp ((G60 10).b) 0),.ld 6 0 true (fun _ => [iv n131, iv n132, iv n133, iv n134, iv n135, iv n136]),.k (pp ((G47 5).b) 0),.ld 5 0 true (fun _ => [iv n98, iv n99, iv n100, iv n101, iv n102, iv n103]),.aeq false 23 #[iv n131, iv n132, iv n133, iv n134, iv n135, iv n136] #[iv n98, iv n99, iv n100, iv n101, iv n102, iv n103] _ fun w => dim_equal w n131 n132 n133 n134 n135 n136 n98 n99 n100 n101 n102 n103,.andn g0 false (decide (n139 = 0)) (decide (n131 = n98 ∧ n132 = n99 ∧ n133 = n100 ∧ n134 = n101 ∧ n135 = n102 ∧ n136 = n103)) p29 hp29,.k (bv p29),.k (pp ((G60 10).b) 6),.ld 6 6 true (fun _ => Dat.cells (DFrac.mk (DBig.mk n137 ⟨l52, (G60 6).ss 0⟩) (DBig.mk n138 ⟨l53, (G60 6).ss 1⟩))),.ld 7 0 true (fun _ => Dat.cells (DFrac.mk (DBig.mk n140 ⟨l54, (G64 6).ss 0⟩) (DBig.mk n141 ⟨l55, (G64 6).ss 1⟩))),.cp (gT (b := p29) (iN hp29 (iAT iDT iDT))) 16 15 [(kf true (.f 12) l52 (fun _ => (G60 6).ss 0)).a, (kf true (.f 13) l53 (fun _ => (G60 6).ss 1)).a, (kf true (.f 15) l54 (fun _ => (G64 6).ss 0)).a, (kf true (.f 16) l55 (fun _ => (G64 6).ss 1)).a] (fun hg G => same5t_ct n137 l52 ((G60 6).ss 0) n138 l53 ((G60 6).ss 1) n140 l54 ((G64 6).ss 0) n141 l55 ((G64 6).ss 1) hs22),.and g0 false p29 true,.k (bv (p29 && true))] fun _ _ G65 => ?_
    intro S_ s_
    have e0 : (p29 && true) = true := by
      refine (iAT (iN hp29 (iAT iDT iDT)) iTT).2 ?_
      have e6 := And.intro e22 (And.intro e22_0 (And.intro e22_1 (And.intro e22_2 (And.intro e22_3 (And.intro e22_4 e22_5)))))
      first | exact ⟨e6, trivial⟩ | exact e6
    exact V.ret [0] [] [] [] [] [] (bv (p29 && true)) (fun _ _ => by kernel_rfl) (fun _ _ => (Eq.trans (by kernel_rfl) (cong1 (fun (x0 : Bool) => (bv x0 : Value)) e0)).trans (by kernel_rfl)) (fun _ _ => trivial)
  refine V.alt (fun (zz : Int) => (⟨[(1, tv s), (7, bv true), (10, pp ((G40 5).b) 0), (12, iv zz), (13, SV.v ⟨atB (G44 0).b, 4, 4⟩), (14, SV.v ⟨atB (G45 5).b, 4, 4⟩), (15, pp ((G47 5).b) 0), (16, iv n106)], [fs true l32 ((G40 1).ss 0), fs true l33 ((G40 1).ss 1), fs true l34 ((G45 0).ss 0), fs true l35 ((G45 0).ss 1), fs true l36 ((G45 1).ss 0), fs true l35 ((G45 1).ss 1), fs true l37 ((G45 2).ss 0), fs true l35 ((G45 2).ss 1), fs true l39 ((G46 1).ss 0), fs true l40 ((G46 1).ss 1), fs true l42 ((G47 1).ss 0), fs true l43 ((G47 1).ss 1)], [.blk ((G1 0).b) #[iv d0, iv d1, iv d2, iv d3, iv d4, iv d5] 23, .no, .blk ((G40 5).b) #[iv n83, iv n84, iv n85, iv n86, iv n87, iv n88, iv n89, ((G40 1).ss 0).v, iv n90, ((G40 1).ss 1).v] 32, os true 9 ([⟨#[107]⟩, ⟨#[77]⟩, ⟨#[71]⟩, ⟨#[109]⟩] : List ByteArray) ⟨atB (G44 0).b, 4, 4⟩, os true 30 l41 ⟨atB (G45 5).b, 4, 4⟩, .blk ((G47 5).b) #[iv n98, iv n99, iv n100, iv n101, iv n102, iv n103, iv n104, ((G47 1).ss 0).v, iv n105, ((G47 1).ss 1).v] 32, .no, .no]⟩ : St)) hcs8 [0, 1, 2, 3, 4, 5, 6, 7, 8, 9, 10, 11] (by kernel_rfl) ?_
  refine nm (([⟨#[107]⟩, ⟨#[77]⟩, ⟨#[71]⟩, ⟨#[109]⟩] : List ByteArray).getD (3 : Int).toNat default : ByteArray) fun x17 hx17 => ?_
  refine nm (x17 ++ s : ByteArray) fun t9 ht9 => ?_
  have ht9n : t9.size = x17.size + s.size := by rw [ht9, ByteArray.size_append]
  refine nm (Un.dv ((Un.read t9).1) 0 : Int) fun n143 hn143 => ?_
  refine nm (Un.dv ((Un.read t9).1) 1 : Int) fun n144 hn144 => ?_
  refine nm (Un.dv ((Un.read t9).1) 2 : Int) fun n145 hn145 => ?_
  refine nm (Un.dv ((Un.read t9).1) 3 : Int) fun n146 hn146 => ?_
  refine nm (Un.dv ((Un.read t9).1) 4 : Int) fun n147 hn147 => ?_
  refine nm (Un.dv ((Un.read t9).1) 5 : Int) fun n148 hn148 => ?_
  refine nm (Fr.rS (((Un.read t9).1).isSome = true) (Un.fv ((Un.read t9).1)) : Int) fun n149 hn149 => ?_
  refine nm (Fr.rD (((Un.read t9).1).isSome = true) (Un.fv ((Un.read t9).1)) : List Int) fun l56 hl56 => ?_
  have hl56n := congrArg List.length hl56
  refine nm (Fr.rT (((Un.read t9).1).isSome = true) : Int) fun n150 hn150 => ?_
  refine nm (Fr.rE (((Un.read t9).1).isSome = true) (Un.fv ((Un.read t9).1)) : List Int) fun l57 hl57 => ?_
  have hl57n := congrArg List.length hl57
  refine nm ((Un.read t9).2 : Int) fun n151 hn151 => ?_
  have hxp : x17 = ⟨#[109]⟩ := by rw [hx17]; rfl
  have hxpn : x17.size = 1 := by rw [hxp]; rfl
  have hrp := Un.read_pfx _ hmem ((⟨#[109]⟩, Rat.divInt 1 1000)) (by unfold Un.pxs; simp)
  have htt : t9 = ⟨#[109]⟩ ++ s := by rw [ht9, hxp]
  have hrq : Un.read t9 = if Un.pf s then (some (((Un.sym s).getD ([], 0)).1, Un.fv (Un.sym s) * Rat.divInt 1 1000), 0) else (none, 11) := by rw [htt]; exact hrp
  refine V.r [.k (SV.v ⟨atB (G44 0).b, 4, 4⟩),.k (iv 3),.ix g0 (ko true 9 3 ([⟨#[107]⟩, ⟨#[77]⟩, ⟨#[71]⟩, ⟨#[109]⟩] : List ByteArray) (fun _ => ⟨atB (G44 0).b, 4, 4⟩)) 3 (fun _ => ⟨by omega, by simp only [List.length_cons, List.length_nil, List.length_set]; omega⟩),.le g0 (ko true 9 3 ([⟨#[107]⟩, ⟨#[77]⟩, ⟨#[71]⟩, ⟨#[109]⟩] : List ByteArray) (fun _ => ⟨atB (G44 0).b, 4, 4⟩)) (3 : Int) none false x17 hx17 (fun _ => ⟨by omega, by simp only [List.length_cons, List.length_nil, List.length_set]; omega⟩) false (fun _ => [tv x17]),.k (tv s),.sad g0 x17 s t9 ht9 (fun _ => by omega),.ct g0 6 13 false [] [] [] (fun _ G => uread_ctv t9 (by omega) n143 hn143 n144 hn144 n145 hn145 n146 hn146 n147 hn147 n148 hn148 n149 hn149 l56 hl56 n150 hn150 l57 hl57 n151 hn151),.v fun G => .tuple #[.agg #[iv n143, iv n144, iv n145, iv n146, iv n147, iv n148, iv n149, ((G 6).ss 0).v, iv n150, ((G 6).ss 1).v], iv n151],.v fun G => .agg #[iv n143, iv n144, iv n145, iv n146, iv n147, iv n148, iv n149, ((G 6).ss 0).v, iv n150, ((G 6).ss 1).v],.k (iv n151),.nb 10 6 (fun b => pp b 0) 32 (fun _ => #[iv 0, iv 0, iv 0, iv 0, iv 0, iv 0, iv 0, .slice none 0 0, iv 0, .slice none 0 0]),.st 6 (fun G => .blk ((G 10).b) #[iv n143, iv n144, iv n145, iv n146, iv n147, iv n148, iv n149, ((G 6).ss 0).v, iv n150, ((G 6).ss 1).v] 32),.k (iv n151)] fun _ _ G66 kw66 => ?_
  intro S_ s_
  obtain ⟨⟨kl69, -⟩, ⟨kl70, -⟩, -⟩ : Lq l56 (((G66 6).ss 0).v) ∧ Lq l57 (((G66 6).ss 1).v) ∧ Lq ([⟨#[107]⟩, ⟨#[77]⟩, ⟨#[71]⟩, ⟨#[109]⟩] : List ByteArray) (SV.v ⟨atB (G44 0).b, 4, 4⟩) ∧ Lq l41 (SV.v ⟨atB (G45 5).b, 4, 4⟩) ∧ True := kn kw66 (by kernel_rfl)
  clear kw66
  refine V.g [.k (iv n106),.k (bv (!(decide (n106 = 0)))),.k (bv (!(decide (n106 = 0)))),.ld 2 0 true (fun _ => [iv n83, iv n84, iv n85, iv n86, iv n87, iv n88, iv n89, ((G40 1).ss 0).v, iv n90, ((G40 1).ss 1).v]),.ld 5 0 true (fun _ => [iv n98, iv n99, iv n100, iv n101, iv n102, iv n103, iv n104, ((G47 1).ss 0).v, iv n105, ((G47 1).ss 1).v]),.cp (gF (b := !(decide (n106 = 0))) (iNF iDT)) 5 19 [(kf true (.f 0) l32 (fun _ => (G40 1).ss 0)).a, (kf true (.f 1) l33 (fun _ => (G40 1).ss 1)).a, (kf true (.f 10) l42 (fun _ => (G47 1).ss 0)).a, (kf true (.f 11) l43 (fun _ => (G47 1).ss 1)).a] (fun hg G => same9t_ct n83 n84 n85 n86 n87 n88 n89 l32 ((G40 1).ss 0) n90 l33 ((G40 1).ss 1) n98 n99 n100 n101 n102 n103 n104 l42 ((G47 1).ss 0) n105 l43 ((G47 1).ss 1) hS9),.kb false,.or g0 false (!(decide (n106 = 0))) false] fun _ _ G67 => ?_
  intro S_ s_
  refine V.cond (b := (!(decide (n106 = 0))) || false) (iOT (iNT iDF) iFT) (iOF (iNF iDT) iFF) (by kernel_rfl) (fun q39 => ?_) (fun q40 => ?_)
  · exfalso; have hqq := q39; rcases hqq with h | h
    · exact h e15
    exact h.elim
  refine nm ((!(decide (s = ⟨#[103]⟩))) && (!(decide (s = ⟨#[109]⟩))) : Bool) fun p30 hp30 => ?_
  refine nm ((p30 && (!(decide (s = ⟨#[108]⟩)))) && (!(decide (s = ⟨#[115]⟩))) : Bool) fun p31 hp31 => ?_
  refine nm ((p31 && (!(decide (s = ⟨#[74]⟩)))) && (!(decide (s = ⟨#[87, 104]⟩))) : Bool) fun p32 hp32 => ?_
  refine V.g [.k (tv s),.sne s ⟨#[103]⟩,.k (bv (!(decide (s = ⟨#[103]⟩)))),.k (tv s),.sne s ⟨#[109]⟩,.andn g0 false (!(decide (s = ⟨#[103]⟩))) (!(decide (s = ⟨#[109]⟩))) p30 hp30,.k (bv p30),.k (tv s),.sne s ⟨#[108]⟩,.and g0 false p30 (!(decide (s = ⟨#[108]⟩))),.k (bv (p30 && (!(decide (s = ⟨#[108]⟩))))),.k (tv s),.sne s ⟨#[115]⟩,.andn g0 false (p30 && (!(decide (s = ⟨#[108]⟩)))) (!(decide (s = ⟨#[115]⟩))) p31 hp31,.k (bv p31),.k (tv s),.sne s ⟨#[74]⟩,.and g0 false p31 (!(decide (s = ⟨#[74]⟩))),.k (bv (p31 && (!(decide (s = ⟨#[74]⟩))))),.k (tv s),.sne s ⟨#[87, 104]⟩,.andn g0 false (p31 && (!(decide (s = ⟨#[74]⟩)))) (!(decide (s = ⟨#[87, 104]⟩))) p32 hp32] fun _ _ G68 => ?_
  intro S_ s_
  refine V.cond (b := p32) (iN hp32 (iAT (iAT (iN hp31 (iAT (iAT (iN hp30 (iAT (iNT iDF) (iNT iDF))) (iNT iDF)) (iNT iDF))) (iNT iDF)) (iNT iDF))) (iN hp32 (iAF (iAF (iN hp31 (iAF (iAF (iN hp30 (iAF (iNF iDT) (iNF iDT))) (iNF iDT)) (iNF iDT))) (iNF iDT)) (iNF iDT))) (by kernel_rfl) (fun q41 => ?_) (fun q42 => ?_)
  · have hnp : ¬ Un.pf s := by have hqq := q41; obtain ⟨⟨⟨⟨⟨h1, h2⟩, h3⟩, h4⟩, h5⟩, h6⟩ := hqq; rintro (((((h | h) | h) | h) | h) | h); exact h1 h; exact h2 h; exact h3 h; exact h4 h; exact h5 h; exact h6 h
    rw [if_neg hnp] at hrq
    refine V.g [.kb true,.kb true,.k (iv n151),.k (bv (decide (n151 = 11))),.k (bv (decide (n151 = 11))),.k (bv (decide (n151 = 11)))] fun _ _ G69 => ?_
    intro S_ s_
    have e0 : (decide (n151 = 11)) = true := by
      refine iDT.2 ?_
      have e20 : n151 = 11 := by rw [hn151, hrq]
      first | exact e20 | exact ⟨trivial, e20⟩
    exact V.ret [0] [] [] [] [] [] (bv (decide (n151 = 11))) (fun _ _ => by kernel_rfl) (fun _ _ => (Eq.trans (by kernel_rfl) (cong1 (fun (x0 : Bool) => (bv x0 : Value)) e0)).trans (by kernel_rfl)) (fun _ _ => trivial)
  have hpf : Un.pf s := by have hqq := q42; exact hqq
  rw [if_pos hpf] at hrq
  refine nm (l41.getD (3 : Int).toNat default : DFrac) fun x18 hx18 => ?_
  refine nm (Fr.rS (Fr.FrB n104 l42 n105 l43 ∧ Fr.FrB x18.P.Sign x18.P.Digits.l x18.Q.Sign x18.Q.Digits.l) ((Fr.fq n104 l42 l43) * (Fr.fq x18.P.Sign x18.P.Digits.l x18.Q.Digits.l)) : Int) fun n152 hn152 => ?_
  refine nm (Fr.rD (Fr.FrB n104 l42 n105 l43 ∧ Fr.FrB x18.P.Sign x18.P.Digits.l x18.Q.Sign x18.Q.Digits.l) ((Fr.fq n104 l42 l43) * (Fr.fq x18.P.Sign x18.P.Digits.l x18.Q.Digits.l)) : List Int) fun l58 hl58 => ?_
  have hl58n := congrArg List.length hl58
  refine nm (Fr.rT (Fr.FrB n104 l42 n105 l43 ∧ Fr.FrB x18.P.Sign x18.P.Digits.l x18.Q.Sign x18.Q.Digits.l) : Int) fun n153 hn153 => ?_
  refine nm (Fr.rE (Fr.FrB n104 l42 n105 l43 ∧ Fr.FrB x18.P.Sign x18.P.Digits.l x18.Q.Sign x18.Q.Digits.l) ((Fr.fq n104 l42 l43) * (Fr.fq x18.P.Sign x18.P.Digits.l x18.Q.Digits.l)) : List Int) fun l59 hl59 => ?_
  have hl59n := congrArg List.length hl59
  refine nm (if ¬ (Fr.FrB n104 l42 n105 l43 ∧ Fr.FrB x18.P.Sign x18.P.Digits.l x18.Q.Sign x18.Q.Digits.l) then (1 : Int) else 0 : Int) fun n154 hn154 => ?_
  have zt : Fr.Fz x18.P.Sign x18.P.Digits.l x18.Q.Sign x18.Q.Digits.l (Rat.divInt 1 1000) := by rw [hx18, hl41, hl38]; exact z13_3
  have htl := zt.len (k := 4) (by decide +kernel); have htl1 := htl.1; have htl2 := htl.2
  have zw := Fr.Fz.of (And.intro zb.rt zt.rt) hn152 hl58 hn153 hl59
  rw [zb.v, zt.v] at zw
  refine V.r [.k (pp ((G47 5).b) 6),.ld 5 6 true (fun _ => Dat.cells (DFrac.mk (DBig.mk n104 ⟨l42, (G47 1).ss 0⟩) (DBig.mk n105 ⟨l43, (G47 1).ss 1⟩))),.k (SV.v ⟨atB (G45 5).b, 4, 4⟩),.k (iv 3),.ix g0 (ko true 30 4 l41 (fun _ => ⟨atB (G45 5).b, 4, 4⟩)) 3 (fun _ => ⟨by omega, by omega⟩),.le g0 (ko true 30 4 l41 (fun _ => ⟨atB (G45 5).b, 4, 4⟩)) (3 : Int) none true x18 hx18 (fun _ => ⟨by omega, by omega⟩) true (fun _ => Dat.cells x18),.ct g0 6 20 false [] [] [(kf true (.f 10) l42 (fun _ => (G47 1).ss 0)).a, (kf true (.f 11) l43 (fun _ => (G47 1).ss 1)).a, (kx true (.g 5 0) x18 x18.P.Digits.l (fun _ => x18.P.Digits.s) (fun _ H (h : Dat.good H (x18 : DFrac)) => h.1)).a, (kx true (.g 5 0) x18 x18.Q.Digits.l (fun _ => x18.Q.Digits.s) (fun _ H (h : Dat.good H (x18 : DFrac)) => h.2)).a] (fun _ G => fmul_ctv n104 l42 ((G47 1).ss 0) n105 l43 ((G47 1).ss 1) x18.P.Sign x18.P.Digits.l x18.P.Digits.s x18.Q.Sign x18.Q.Digits.l x18.Q.Digits.s (by omega) (by omega) (by omega) (by omega) n152 hn152 l58 hl58 n153 hn153 l59 hl59 n154 hn154),.v fun G => .tuple #[ag (DFrac.mk (DBig.mk n152 ⟨l58, (G 6).ss 0⟩) (DBig.mk n153 ⟨l59, (G 6).ss 1⟩)), iv n154],.v fun G => ag (DFrac.mk (DBig.mk n152 ⟨l58, (G 6).ss 0⟩) (DBig.mk n153 ⟨l59, (G 6).ss 1⟩)),.k (iv n154),.nb 10 7 (fun b => pp b 0) 30 (fun _ => ca (DFrac.mk (DBig.mk 0 ⟨[], {}⟩) (DBig.mk 0 ⟨[], {}⟩))),.st 7 (fun G => .blk ((G 10).b) (ca (DFrac.mk (DBig.mk n152 ⟨l58, (G 6).ss 0⟩) (DBig.mk n153 ⟨l59, (G 6).ss 1⟩))) 30),.k (iv n154)] fun _ _ G70 kw70 => ?_
  intro S_ s_
  obtain ⟨⟨⟨kl71, -⟩, ⟨kl72, -⟩⟩, ⟨kl73, -⟩, ⟨kl74, -⟩, -⟩ : (Lq x18.P.Digits.l x18.P.Digits.s.v ∧ Lq x18.Q.Digits.l x18.Q.Digits.s.v) ∧ Lq l58 (((G70 6).ss 0).v) ∧ Lq l59 (((G70 6).ss 1).v) ∧ Lq ([⟨#[107]⟩, ⟨#[77]⟩, ⟨#[71]⟩, ⟨#[109]⟩] : List ByteArray) (SV.v ⟨atB (G44 0).b, 4, 4⟩) ∧ Lq l41 (SV.v ⟨atB (G45 5).b, 4, 4⟩) ∧ True := kn kw70 (by kernel_rfl)
  clear kw70
  refine nm ((decide (n151 = 0)) && (decide (n143 = n98 ∧ n144 = n99 ∧ n145 = n100 ∧ n146 = n101 ∧ n147 = n102 ∧ n148 = n103)) : Bool) fun p33 hp33 => ?_
  have e22 : n151 = 0 := by rw [hn151, hrq]
  have e22_0 : n143 = n98 := by rw [hn143, hn98, hrq, hrs1]; rfl
  have e22_1 : n144 = n99 := by rw [hn144, hn99, hrq, hrs1]; rfl
  have e22_2 : n145 = n100 := by rw [hn145, hn100, hrq, hrs1]; rfl
  have e22_3 : n146 = n101 := by rw [hn146, hn101, hrq, hrs1]; rfl
  have e22_4 : n147 = n102 := by rw [hn147, hn102, hrq, hrs1]; rfl
  have e22_5 : n148 = n103 := by rw [hn148, hn103, hrq, hrs1]; rfl
  have z22 := Fr.Fz.of (show (Un.read t9).1.isSome = true by rw [hrq]; rfl) hn149 hl56 hn150 hl57
  rw [show Un.fv (Un.read t9).1 = Un.fv (Un.sym s) * Rat.divInt 1 1000 by rw [hrq]; rfl] at z22
  have hs22 := Fr.Fz.inj z22 zw
  refine V.g [.kb true,.kb true,.k (iv n151),.k (bv (decide (n151 = 0))),.k (bv (decide (n151 = 0))),.k (bv (decide (n151 = 0))),.k (pp ((G66 10).b) 0),.ld 6 0 true (fun _ => [iv n143, iv n144, iv n145, iv n146, iv n147, iv n148]),.k (pp ((G47 5).b) 0),.ld 5 0 true (fun _ => [iv n98, iv n99, iv n100, iv n101, iv n102, iv n103]),.aeq false 23 #[iv n143, iv n144, iv n145, iv n146, iv n147, iv n148] #[iv n98, iv n99, iv n100, iv n101, iv n102, iv n103] _ fun w => dim_equal w n143 n144 n145 n146 n147 n148 n98 n99 n100 n101 n102 n103,.andn g0 false (decide (n151 = 0)) (decide (n143 = n98 ∧ n144 = n99 ∧ n145 = n100 ∧ n146 = n101 ∧ n147 = n102 ∧ n148 = n103)) p33 hp33,.k (bv p33),.k (pp ((G66 10).b) 6),.ld 6 6 true (fun _ => Dat.cells (DFrac.mk (DBig.mk n149 ⟨l56, (G66 6).ss 0⟩) (DBig.mk n150 ⟨l57, (G66 6).ss 1⟩))),.ld 7 0 true (fun _ => Dat.cells (DFrac.mk (DBig.mk n152 ⟨l58, (G70 6).ss 0⟩) (DBig.mk n153 ⟨l59, (G70 6).ss 1⟩))),.cp (gT (b := p33) (iN hp33 (iAT iDT iDT))) 16 15 [(kf true (.f 12) l56 (fun _ => (G66 6).ss 0)).a, (kf true (.f 13) l57 (fun _ => (G66 6).ss 1)).a, (kf true (.f 15) l58 (fun _ => (G70 6).ss 0)).a, (kf true (.f 16) l59 (fun _ => (G70 6).ss 1)).a] (fun hg G => same5t_ct n149 l56 ((G66 6).ss 0) n150 l57 ((G66 6).ss 1) n152 l58 ((G70 6).ss 0) n153 l59 ((G70 6).ss 1) hs22),.and g0 false p33 true,.k (bv (p33 && true))] fun _ _ G71 => ?_
  intro S_ s_
  have e0 : (p33 && true) = true := by
    refine (iAT (iN hp33 (iAT iDT iDT)) iTT).2 ?_
    have e6 := And.intro e22 (And.intro e22_0 (And.intro e22_1 (And.intro e22_2 (And.intro e22_3 (And.intro e22_4 e22_5)))))
    first | exact ⟨e6, trivial⟩ | exact e6
  exact V.ret [0] [] [] [] [] [] (bv (p33 && true)) (fun _ _ => by kernel_rfl) (fun _ _ => (Eq.trans (by kernel_rfl) (cong1 (fun (x0 : Bool) => (bv x0 : Value)) e0)).trans (by kernel_rfl)) (fun _ _ => trivial)
end Kb
