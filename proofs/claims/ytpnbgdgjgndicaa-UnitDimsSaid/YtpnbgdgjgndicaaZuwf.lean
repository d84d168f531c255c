/- Texts for the claim, put together: the calculus of regions, its rules, and contracts of the functions that the law reaches. -/
import Derived.Test.YtpnbgdgjgndicaaZuwe
import Derived.Lib.Join
import Derived.ChangeSame
import Derived.ChangeArms
import Derived.WideKeyArgs
import Derived.Carry
import Derived.OpenShut
set_option linter.unusedVariables false
set_option linter.unusedSectionVars false
set_option linter.unusedSimpArgs false
namespace Kb
open Go Go.Proofs
set_option maxRecDepth 10000 in
theorem uword_ct (s : ByteArray) (hs0 : 0 < s.size) :
    Ct Try.prog 47 #[tv s] [] [] (fun g => .tuple #[.agg #[iv (Un.dv (Un.word s) 0), iv (Un.dv (Un.word s) 1), iv (Un.dv (Un.word s) 2), iv (Un.dv (Un.word s) 3), iv (Un.dv (Un.word s) 4), iv (Un.dv (Un.word s) 5), iv (Fr.rS ((Un.word s).isSome = true) (Un.fv (Un.word s))), ((g.ss 0)).v, iv (Fr.rT ((Un.word s).isSome = true)), ((g.ss 1)).v], bv ((Un.word s).isSome)]) (fun g => [fs true (Fr.rD ((Un.word s).isSome = true) (Un.fv (Un.word s))) (g.ss 0), fs true (Fr.rE ((Un.word s).isSome = true) (Un.fv (Un.word s))) (g.ss 1)]) (fun g => []) (fun g => []) := by
  refine V.fn mo Try.func47 61 4 (by kernel_rfl) fun w H ε k0 => ?_
  clear k0
  refine V.g [.nb 0 0 (fun b => pp b 0) 32 (fun _ => #[iv 0, iv 0, iv 0, iv 0, iv 0, iv 0, iv 0, .slice none 0 0, iv 0, .slice none 0 0]),.kb false] fun _ _ G1 => ?_
  intro S_ s_
  refine nm (Un.dv (Un.sym s) 0 : Int) fun n1 hn1 => ?_
  refine nm (Un.dv (Un.sym s) 1 : Int) fun n2 hn2 => ?_
  refine nm (Un.dv (Un.sym s) 2 : Int) fun n3 hn3 => ?_
  refine nm (Un.dv (Un.sym s) 3 : Int) fun n4 hn4 => ?_
  refine nm (Un.dv (Un.sym s) 4 : Int) fun n5 hn5 => ?_
  refine nm (Un.dv (Un.sym s) 5 : Int) fun n6 hn6 => ?_
  refine nm (Fr.rS ((Un.sym s).isSome = true) (Un.fv (Un.sym s)) : Int) fun n7 hn7 => ?_
  refine nm (Fr.rD ((Un.sym s).isSome = true) (Un.fv (Un.sym s)) : List Int) fun l1 hl1 => ?_
  have hl1n := congrArg List.length hl1
  refine nm (Fr.rT ((Un.sym s).isSome = true) : Int) fun n8 hn8 => ?_
  refine nm (Fr.rE ((Un.sym s).isSome = true) (Un.fv (Un.sym s)) : List Int) fun l2 hl2 => ?_
  have hl2n := congrArg List.length hl2
  refine V.r [.k (tv s),.ct g0 1 81 false [] [] [] (fun _ G => usym_ctv s n1 hn1 n2 hn2 n3 hn3 n4 hn4 n5 hn5 n6 hn6 n7 hn7 l1 hl1 n8 hn8 l2 hl2),.v fun G => .tuple #[.agg #[iv n1, iv n2, iv n3, iv n4, iv n5, iv n6, iv n7, ((G 1).ss 0).v, iv n8, ((G 1).ss 1).v], bv ((Un.sym s).isSome)],.v fun G => .agg #[iv n1, iv n2, iv n3, iv n4, iv n5, iv n6, iv n7, ((G 1).ss 0).v, iv n8, ((G 1).ss 1).v],.k (bv ((Un.sym s).isSome)),.nb 5 1 (fun b => pp b 0) 32 (fun _ => #[iv 0, iv 0, iv 0, iv 0, iv 0, iv 0, iv 0, .slice none 0 0, iv 0, .slice none 0 0]),.st 1 (fun G => .blk ((G 5).b) #[iv n1, iv n2, iv n3, iv n4, iv n5, iv n6, iv n7, ((G 1).ss 0).v, iv n8, ((G 1).ss 1).v] 32),.k (bv ((Un.sym s).isSome))] fun _ _ G2 kw2 => ?_
  intro S_ s_
  obtain ⟨⟨kl1, -⟩, ⟨kl2, -⟩, -⟩ : Lq l1 (((G2 1).ss 0).v) ∧ Lq l2 (((G2 1).ss 1).v) ∧ True := kn kw2 (by kernel_rfl)
  clear kw2
  refine V.g [.k (bv ((Un.sym s).isSome))] fun _ _ G3 => ?_
  intro S_ s_
  refine V.cond (b := (Un.sym s).isSome) Iff.rfl Iff.rfl (by kernel_rfl) (fun q1 => ?_) (fun q2 => ?_)
  · have hsy : (Un.sym s).isSome = true := by have hqq := q1; simpa using hqq
    refine V.g [.ld 1 0 true (fun _ => [iv n1, iv n2, iv n3, iv n4, iv n5, iv n6, iv n7, ((G2 1).ss 0).v, iv n8, ((G2 1).ss 1).v]),.st 0 (fun _ => .blk ((G1 0).b) #[iv n1, iv n2, iv n3, iv n4, iv n5, iv n6, iv n7, ((G2 1).ss 0).v, iv n8, ((G2 1).ss 1).v] 32),.kb true] fun _ _ G4 => ?_
    intro S_ s_
    have e7 : l1 = Fr.rD ((Un.word s).isSome = true) (Un.fv (Un.word s)) := by
      rw [hl1]
      rw [Un.word_y hsy]
    subst e7
    have e9 : l2 = Fr.rE ((Un.word s).isSome = true) (Un.fv (Un.word s)) := by
      rw [hl2]
      rw [Un.word_y hsy]
    subst e9
    have e0 : n1 = Un.dv (Un.word s) 0 := by
      rw [hn1]
      rw [Un.word_y hsy]
    have e1 : n2 = Un.dv (Un.word s) 1 := by
      rw [hn2]
      rw [Un.word_y hsy]
    have e2 : n3 = Un.dv (Un.word s) 2 := by
      rw [hn3]
      rw [Un.word_y hsy]
    have e3 : n4 = Un.dv (Un.word s) 3 := by
      rw [hn4]
      rw [Un.word_y hsy]
    have e4 : n5 = Un.dv (Un.word s) 4 := by
      rw [hn5]
      rw [Un.word_y hsy]
    have e5 : n6 = Un.dv (Un.word s) 5 := by
      rw [hn6]
      rw [Un.word_y hsy]
    have e6 : n7 = Fr.rS ((Un.word s).isSome = true) (Un.fv (Un.word s)) := by
      rw [hn7]
      rw [Un.word_y hsy]
    have e8 : n8 = Fr.rT ((Un.word s).isSome = true) := by
      rw [hn8]
      rw [Un.word_y hsy]
    have e10 : true = (Un.word s).isSome := by rw [Un.word_y hsy, hsy]
    exact V.ret [0, 0] [(G2 1).ss 0, (G2 1).ss 1] [fun _ => {}, fun _ => {}] [] [0, 1] [] (.tuple #[.agg #[iv n1, iv n2, iv n3, iv n4, iv n5, iv n6, iv n7, ((G2 1).ss 0).v, iv n8, ((G2 1).ss 1).v], bv true]) (fun _ _ => by kernel_rfl) (fun _ _ => (Eq.trans (by kernel_rfl) (cong9 (fun (x0 : Int) (x1 : Int) (x2 : Int) (x3 : Int) (x4 : Int) (x5 : Int) (x6 : Int) (x8 : Int) (x10 : Bool) => (.tuple #[.agg #[iv x0, iv x1, iv x2, iv x3, iv x4, iv x5, iv x6, ((G2 1).ss 0).v, iv x8, ((G2 1).ss 1).v], bv x10] : Value)) e0 e1 e2 e3 e4 e5 e6 e8 e10)).trans (by kernel_rfl)) (fun _ _ => trivial)
  have hsn : ¬ (Un.sym s).isSome = true := by have hqq := q2; simpa using hqq
  refine nm ((bl s).getD (0 : Int).toNat default : UInt8) fun c1 hc1 => ?_
  refine nm (Un.pp (Un.pre (c1.toNat : Int)) : Int) fun n9 hn9 => ?_
  refine nm (Un.pq (Un.pre (c1.toNat : Int)) : Int) fun n10 hn10 => ?_
  refine V.g [.k (tv s),.sid g0 s (0 : Int) c1 hc1 (fun _ => ⟨by omega, by omega⟩),.cp g0 2 82 [] (fun _ G => upre_ctv (c1.toNat : Int) n9 hn9 n10 hn10),.k (.tuple #[iv n9, iv n10, bv ((Un.pre (c1.toNat : Int)).isSome)]),.k (iv n9),.k (iv n10),.k (bv ((Un.pre (c1.toNat : Int)).isSome)),.k (iv n9),.k (iv n10),.k (bv ((Un.pre (c1.toNat : Int)).isSome))] fun _ _ G5 => ?_
  intro S_ s_
  refine nm (s.extract (1 : Int).toNat (s.size : Int).toNat : ByteArray) fun t1 ht1 => ?_
  have ht1n : t1.size = min (s.size : Int).toNat s.size - (1 : Int).toNat := by rw [ht1, ByteArray.size_extract]
  refine nm (Un.dv (Un.sym t1) 0 : Int) fun n11 hn11 => ?_
  refine nm (Un.dv (Un.sym t1) 1 : Int) fun n12 hn12 => ?_
  refine nm (Un.dv (Un.sym t1) 2 : Int) fun n13 hn13 => ?_
  refine nm (Un.dv (Un.sym t1) 3 : Int) fun n14 hn14 => ?_
  refine nm (Un.dv (Un.sym t1) 4 : Int) fun n15 hn15 => ?_
  refine nm (Un.dv (Un.sym t1) 5 : Int) fun n16 hn16 => ?_
  refine nm (Fr.rS ((Un.sym t1).isSome = true) (Un.fv (Un.sym t1)) : Int) fun n17 hn17 => ?_
  refine nm (Fr.rD ((Un.sym t1).isSome = true) (Un.fv (Un.sym t1)) : List Int) fun l3 hl3 => ?_
  have hl3n := congrArg List.length hl3
  refine nm (Fr.rT ((Un.sym t1).isSome = true) : Int) fun n18 hn18 => ?_
  refine nm (Fr.rE ((Un.sym t1).isSome = true) (Un.fv (Un.sym t1)) : List Int) fun l4 hl4 => ?_
  have hl4n := congrArg List.length hl4
  refine V.r [.k (tv s),.ssl g0 s (some (1 : Int)) none 1 (s.size : Int) rfl rfl t1 ht1 (fun _ => ⟨by omega, by omega, by omega⟩),.ct g0 2 81 false [] [] [] (fun _ G => usym_ctv t1 n11 hn11 n12 hn12 n13 hn13 n14 hn14 n15 hn15 n16 hn16 n17 hn17 l3 hl3 n18 hn18 l4 hl4),.v fun G => .tuple #[.agg #[iv n11, iv n12, iv n13, iv n14, iv n15, iv n16, iv n17, ((G 2).ss 0).v, iv n18, ((G 2).ss 1).v], bv ((Un.sym t1).isSome)],.v fun G => .agg #[iv n11, iv n12, iv n13, iv n14, iv n15, iv n16, iv n17, ((G 2).ss 0).v, iv n18, ((G 2).ss 1).v],.k (bv ((Un.sym t1).isSome)),.nb 6 2 (fun b => pp b 0) 32 (fun _ => #[iv 0, iv 0, iv 0, iv 0, iv 0, iv 0, iv 0, .slice none 0 0, iv 0, .slice none 0 0]),.st 2 (fun G => .blk ((G 6).b) #[iv n11, iv n12, iv n13, iv n14, iv n15, iv n16, iv n17, ((G 2).ss 0).v, iv n18, ((G 2).ss 1).v] 32),.k (bv ((Un.sym t1).isSome))] fun _ _ G6 kw6 => ?_
  intro S_ s_
  obtain ⟨⟨kl3, -⟩, ⟨kl4, -⟩, -⟩ : Lq l3 (((G6 2).ss 0).v) ∧ Lq l4 (((G6 2).ss 1).v) ∧ True := kn kw6 (by kernel_rfl)
  clear kw6
  refine nm ((!((Un.pre (c1.toNat : Int)).isSome)) || (!((Un.sym t1).isSome)) : Bool) fun p1 hp1 => ?_
  refine V.g [.k (bv ((Un.pre (c1.toNat : Int)).isSome)),.k (bv (!((Un.pre (c1.toNat : Int)).isSome))),.k (bv (!((Un.pre (c1.toNat : Int)).isSome))),.k (bv ((Un.sym t1).isSome)),.k (bv (!((Un.sym t1).isSome))),.orn g0 false (!((Un.pre (c1.toNat : Int)).isSome)) (!((Un.sym t1).isSome)) p1 hp1,.k (bv p1),.k (tv s),.ssl (gF (b := p1) (iN hp1 (iOF (iNF Iff.rfl) (iNF Iff.rfl)))) s (some (1 : Int)) none 1 (s.size : Int) rfl rfl t1 ht1 (fun hg => ⟨by omega, by omega, by omega⟩),.cp (gF (b := p1) (iN hp1 (iOF (iNF Iff.rfl) (iNF Iff.rfl)))) 9 83 [] (fun hg G => upfx_ct t1),.k (bv (!(decide (Un.pf t1)))),.or g0 false p1 (!(decide (Un.pf t1)))] fun _ _ G7 => ?_
  intro S_ s_
  refine V.cond (b := p1 || (!(decide (Un.pf t1)))) (iOT (iN hp1 (iOT (iNT Iff.rfl) (iNT Iff.rfl))) (iNT iDF)) (iOF (iN hp1 (iOF (iNF Iff.rfl) (iNF Iff.rfl))) (iNF iDT)) (by kernel_rfl) (fun q3 => ?_) (fun q4 => ?_)
  · have hwe : Un.wdB s = ((Un.pre (c1.toNat : Int)).isSome = true ∧ (Un.sym t1).isSome = true ∧ Un.pf t1) := by rw [ht1, hc1]; rfl
    have hwk : ¬ Un.wdB s := by rw [hwe]; rintro ⟨h1, h2, h3⟩; have hqq := q3; simp [h1, h2, h3] at hqq
    have hwn := Un.word_n hsn hwk
    refine V.g [.k (.agg #[iv 0, iv 0, iv 0, iv 0, iv 0, iv 0, iv 0, .slice none 0 0, iv 0, .slice none 0 0]),.st 0 (fun _ => .blk ((G1 0).b) #[iv 0, iv 0, iv 0, iv 0, iv 0, iv 0, iv 0, .slice none 0 0, iv 0, .slice none 0 0] 32),.kb false] fun _ _ G8 => ?_
    intro S_ s_
    refine V.nilF (α := Int) ?_
    refine V.nilF (α := Int) ?_
    have e7 : ([] : List Int) = Fr.rD ((Un.word s).isSome = true) (Un.fv (Un.word s)) := (Fr.Fz.no (Un.is_n hwn) (Un.fv (Un.word s))).2.1
    rw [← e7]
    have e9 : ([] : List Int) = Fr.rE ((Un.word s).isSome = true) (Un.fv (Un.word s)) := (Fr.Fz.no (Un.is_n hwn) (Un.fv (Un.word s))).2.2.2
    rw [← e9]
    have e0 : (0 : Int) = Un.dv (Un.word s) 0 := (Un.dv_n hwn 0).symm
    have e1 : (0 : Int) = Un.dv (Un.word s) 1 := (Un.dv_n hwn 1).symm
    have e2 : (0 : Int) = Un.dv (Un.word s) 2 := (Un.dv_n hwn 2).symm
    have e3 : (0 : Int) = Un.dv (Un.word s) 3 := (Un.dv_n hwn 3).symm
    have e4 : (0 : Int) = Un.dv (Un.word s) 4 := (Un.dv_n hwn 4).symm
    have e5 : (0 : Int) = Un.dv (Un.word s) 5 := (Un.dv_n hwn 5).symm
    have e6 : (0 : Int) = Fr.rS ((Un.word s).isSome = true) (Un.fv (Un.word s)) := (Fr.Fz.no (Un.is_n hwn) (Un.fv (Un.word s))).1
    have e8 : (0 : Int) = Fr.rT ((Un.word s).isSome = true) := (Fr.Fz.no (Un.is_n hwn) (Un.fv (Un.word s))).2.2.1
    have e10 : false = (Un.word s).isSome := by rw [hwn]; rfl
    exact V.ret [0, 0] [{}, {}] [fun _ => {}, fun _ => {}] [] [4, 5] [] (.tuple #[.agg #[iv 0, iv 0, iv 0, iv 0, iv 0, iv 0, iv 0, SV.v ({}), iv 0, SV.v ({})], bv false]) (fun _ _ => by kernel_rfl) (fun _ _ => (Eq.trans (by kernel_rfl) (cong9 (fun (x0 : Int) (x1 : Int) (x2 : Int) (x3 : Int) (x4 : Int) (x5 : Int) (x6 : Int) (x8 : Int) (x10 : Bool) => (.tuple #[.agg #[iv x0, iv x1, iv x2, iv x3, iv x4, iv x5, iv x6, SV.v ({}), iv x8, SV.v ({})], bv x10] : Value)) e0 e1 e2 e3 e4 e5 e6 e8 e10)).trans (by kernel_rfl)) (fun _ _ => trivial)
  have hwe : Un.wdB s = ((Un.pre (c1.toNat : Int)).isSome = true ∧ (Un.sym t1).isSome = true ∧ Un.pf t1) := by rw [ht1, hc1]; rfl
  have hwk : Un.wdB s := by rw [hwe]; have hqq := q4; simpa [and_assoc] using hqq
  have hwk2 := hwe.mp hwk
  have hpr := Un.pre_ok hwk2.1
  rw [← hn9, ← hn10] at hpr
  have hwp : Un.word s = some (((Un.sym t1).getD ([], 0)).1, Un.fv (Un.sym t1) * Rat.divInt n9 n10) := by rw [hn9, hn10, ht1, hc1]; exact Un.word_p hsn hwk
  have zs := Fr.Fz.of hwk2.2.1 hn17 hl3 hn18 hl4
  have hzs := zs.len (Un.sym_ok (Un.some_of hwk2.2.1)).2.2.2
  have hzs1 := hzs.1; have hzs2 := hzs.2
  refine nm (Fr.rS (n10 ≠ 0) (Rat.divInt n9 n10) : Int) fun n19 hn19 => ?_
  refine nm (Fr.rD (n10 ≠ 0) (Rat.divInt n9 n10) : List Int) fun l5 hl5 => ?_
  have hl5n := congrArg List.length hl5
  refine nm (Fr.rT (n10 ≠ 0) : Int) fun n20 hn20 => ?_
  refine nm (Fr.rE (n10 ≠ 0) (Rat.divInt n9 n10) : List Int) fun l6 hl6 => ?_
  have hl6n := congrArg List.length hl6
  refine nm (if n10 = 0 then (15 : Int) else 0 : Int) fun n21 hn21 => ?_
  refine V.r [.k (iv n9),.k (iv n10),.ct g0 2 84 false [] [] [] (fun _ G => fof_ctv n9 n10 (by omega) (by omega) n19 hn19 l5 hl5 n20 hn20 l6 hl6 n21 hn21),.v fun G => .tuple #[ag (DFrac.mk (DBig.mk n19 ⟨l5, (G 2).ss 0⟩) (DBig.mk n20 ⟨l6, (G 2).ss 1⟩)), iv n21],.v fun G => ag (DFrac.mk (DBig.mk n19 ⟨l5, (G 2).ss 0⟩) (DBig.mk n20 ⟨l6, (G 2).ss 1⟩)),.k (iv n21),.nb 6 3 (fun b => pp b 0) 30 (fun _ => ca (DFrac.mk (DBig.mk 0 ⟨[], {}⟩) (DBig.mk 0 ⟨[], {}⟩))),.st 3 (fun G => .blk ((G 6).b) (ca (DFrac.mk (DBig.mk n19 ⟨l5, (G 2).ss 0⟩) (DBig.mk n20 ⟨l6, (G 2).ss 1⟩))) 30),.k (iv n21)] fun _ _ G9 kw9 => ?_
  intro S_ s_
  obtain ⟨⟨kl5, -⟩, ⟨kl6, -⟩, -⟩ : Lq l5 (((G9 2).ss 0).v) ∧ Lq l6 (((G9 2).ss 1).v) ∧ True := kn kw9 (by kernel_rfl)
  clear kw9
  refine nm (Fr.rS (Fr.FrB n17 l3 n18 l4 ∧ Fr.FrB n19 l5 n20 l6) ((Fr.fq n17 l3 l4) * (Fr.fq n19 l5 l6)) : Int) fun n22 hn22 => ?_
  refine nm (Fr.rD (Fr.FrB n17 l3 n18 l4 ∧ Fr.FrB n19 l5 n20 l6) ((Fr.fq n17 l3 l4) * (Fr.fq n19 l5 l6)) : List Int) fun l7 hl7 => ?_
  have hl7n := congrArg List.length hl7
  refine nm (Fr.rT (Fr.FrB n17 l3 n18 l4 ∧ Fr.FrB n19 l5 n20 l6) : Int) fun n23 hn23 => ?_
  refine nm (Fr.rE (Fr.FrB n17 l3 n18 l4 ∧ Fr.FrB n19 l5 n20 l6) ((Fr.fq n17 l3 l4) * (Fr.fq n19 l5 l6)) : List Int) fun l8 hl8 => ?_
  have hl8n := congrArg List.length hl8
  refine nm (if ¬ (Fr.FrB n17 l3 n18 l4 ∧ Fr.FrB n19 l5 n20 l6) then (1 : Int) else 0 : Int) fun n24 hn24 => ?_
  have zf := Fr.Fz.of (show n10 ≠ 0 by omega) hn19 hl5 hn20 hl6
  have hzf := zf.len (Fr.Hb.divI (k := 3) (by omega) (by omega) (by omega))
  have hzf1 := hzf.1; have hzf2 := hzf.2
  have zw := Fr.Fz.of ⟨zs.rt, zf.rt⟩ hn22 hl7 hn23 hl8
  rw [zs.v, zf.v] at zw
  refine V.r [.k (pp ((G6 6).b) 6),.ld 2 6 true (fun _ => Dat.cells (DFrac.mk (DBig.mk n17 ⟨l3, (G6 2).ss 0⟩) (DBig.mk n18 ⟨l4, (G6 2).ss 1⟩))),.ld 3 0 true (fun _ => Dat.cells (DFrac.mk (DBig.mk n19 ⟨l5, (G9 2).ss 0⟩) (DBig.mk n20 ⟨l6, (G9 2).ss 1⟩))),.ct g0 3 20 false [] [] [(kf true (.f 2) l3 (fun _ => (G6 2).ss 0)).a, (kf true (.f 3) l4 (fun _ => (G6 2).ss 1)).a, (kf true (.f 4) l5 (fun _ => (G9 2).ss 0)).a, (kf true (.f 5) l6 (fun _ => (G9 2).ss 1)).a] (fun _ G => fmul_ctv n17 l3 ((G6 2).ss 0) n18 l4 ((G6 2).ss 1) n19 l5 ((G9 2).ss 0) n20 l6 ((G9 2).ss 1) (by omega) (by omega) (by omega) (by omega) n22 hn22 l7 hl7 n23 hn23 l8 hl8 n24 hn24),.v fun G => .tuple #[ag (DFrac.mk (DBig.mk n22 ⟨l7, (G 3).ss 0⟩) (DBig.mk n23 ⟨l8, (G 3).ss 1⟩)), iv n24],.v fun G => ag (DFrac.mk (DBig.mk n22 ⟨l7, (G 3).ss 0⟩) (DBig.mk n23 ⟨l8, (G 3).ss 1⟩)),.k (iv n24),.k (pp ((G6 6).b) 6),.st 2 (fun G => .blk ((G6 6).b) #[iv n11, iv n12, iv n13, iv n14, iv n15, iv n16, iv n22, ((G 3).ss 0).v, iv n23, ((G 3).ss 1).v] 32)] fun _ _ G10 kw10 => ?_
  intro S_ s_
  obtain ⟨⟨kl7, -⟩, ⟨kl8, -⟩, -⟩ : Lq l7 (((G10 3).ss 0).v) ∧ Lq l8 (((G10 3).ss 1).v) ∧ True := kn kw10 (by kernel_rfl)
  clear kw10
  refine V.g [.ld 2 0 true (fun _ => [iv n11, iv n12, iv n13, iv n14, iv n15, iv n16, iv n22, ((G10 3).ss 0).v, iv n23, ((G10 3).ss 1).v]),.st 0 (fun _ => .blk ((G1 0).b) #[iv n11, iv n12, iv n13, iv n14, iv n15, iv n16, iv n22, ((G10 3).ss 0).v, iv n23, ((G10 3).ss 1).v] 32),.kb true] fun _ _ G11 => ?_
  intro S_ s_
  have e7 : l7 = Fr.rD ((Un.word s).isSome = true) (Un.fv (Un.word s)) := (Fr.Fz.ret zw (Un.is_s hwp) (Un.fv_s hwp).symm).2.1
  subst e7
  have e9 : l8 = Fr.rE ((Un.word s).isSome = true) (Un.fv (Un.word s)) := (Fr.Fz.ret zw (Un.is_s hwp) (Un.fv_s hwp).symm).2.2.2
  subst e9
  have e0 : n11 = Un.dv (Un.word s) 0 := by
    rw [hn11, ht1]
    rw [Un.dv_s hwp, ht1]; rfl
  have e1 : n12 = Un.dv (Un.word s) 1 := by
    rw [hn12, ht1]
    rw [Un.dv_s hwp, ht1]; rfl
  have e2 : n13 = Un.dv (Un.word s) 2 := by
    rw [hn13, ht1]
    rw [Un.dv_s hwp, ht1]; rfl
  have e3 : n14 = Un.dv (Un.word s) 3 := by
    rw [hn14, ht1]
    rw [Un.dv_s hwp, ht1]; rfl
  have e4 : n15 = Un.dv (Un.word s) 4 := by
    rw [hn15, ht1]
    rw [Un.dv_s hwp, ht1]; rfl
  have e5 : n16 = Un.dv (Un.word s) 5 := by
    rw [hn16, ht1]
    rw [Un.dv_s hwp, ht1]; rfl
  have e6 : n22 = Fr.rS ((Un.word s).isSome = true) (Un.fv (Un.word s)) := (Fr.Fz.ret zw (Un.is_s hwp) (Un.fv_s hwp).symm).1
  have e8 : n23 = Fr.rT ((Un.word s).isSome = true) := (Fr.Fz.ret zw (Un.is_s hwp) (Un.fv_s hwp).symm).2.2.1
  have e10 : true = (Un.word s).isSome := by rw [hwp]; rfl
  exact V.ret [0, 0] [(G10 3).ss 0, (G10 3).ss 1] [fun _ => {}, fun _ => {}] [] [6, 7] [] (.tuple #[.agg #[iv n11, iv n12, iv n13, iv n14, iv n15, iv n16, iv n22, ((G10 3).ss 0).v, iv n23, ((G10 3).ss 1).v], bv true]) (fun _ _ => by kernel_rfl) (fun _ _ => (Eq.trans (by kernel_rfl) (cong9 (fun (x0 : Int) (x1 : Int) (x2 : Int) (x3 : Int) (x4 : Int) (x5 : Int) (x6 : Int) (x8 : Int) (x10 : Bool) => (.tuple #[.agg #[iv x0, iv x1, iv x2, iv x3, iv x4, iv x5, iv x6, ((G10 3).ss 0).v, iv x8, ((G10 3).ss 1).v], bv x10] : Value)) e0 e1 e2 e3 e4 e5 e6 e8 e10)).trans (by kernel_rfl)) (fun _ _ => trivial)
theorem uword_ctv (s : ByteArray) (hs0 : 0 < s.size) (rv0 : Int) (erv0 : rv0 = Un.dv (Un.word s) 0) (rv1 : Int) (erv1 : rv1 = Un.dv (Un.word s) 1) (rv2 : Int) (erv2 : rv2 = Un.dv (Un.word s) 2) (rv3 : Int) (erv3 : rv3 = Un.dv (Un.word s) 3) (rv4 : Int) (erv4 : rv4 = Un.dv (Un.word s) 4) (rv5 : Int) (erv5 : rv5 = Un.dv (Un.word s) 5) (rv6 : Int) (erv6 : rv6 = Fr.rS ((Un.word s).isSome = true) (Un.fv (Un.word s))) (rv7 : List Int) (erv7 : rv7 = Fr.rD ((Un.word s).isSome = true) (Un.fv (Un.word s))) (rv8 : Int) (erv8 : rv8 = Fr.rT ((Un.word s).isSome = true)) (rv9 : List Int) (erv9 : rv9 = Fr.rE ((Un.word s).isSome = true) (Un.fv (Un.word s))) :
    Ct Try.prog 47 #[tv s] [] [] (fun g => .tuple #[.agg #[iv rv0, iv rv1, iv rv2, iv rv3, iv rv4, iv rv5, iv rv6, ((g.ss 0)).v, iv rv8, ((g.ss 1)).v], bv ((Un.word s).isSome)]) (fun g => [fs true rv7 (g.ss 0), fs true rv9 (g.ss 1)]) (fun g => []) (fun g => []) := by
  subst erv0 erv1 erv2 erv3 erv4 erv5 erv6 erv7 erv8 erv9; exact uword_ct s hs0
set_option maxRecDepth 10000 in
theorem ucut_ct (s : ByteArray) (hs : s.size ≤ 1000000) :
    Cp Try.prog 79 #[tv s] [] (.tuple #[ag (Ditem.mk (Un.cuW s) (Un.cuE s)), tv (Un.cuR s), bv (decide (0 < Un.nl s))]) := by
  refine V.fn mo Try.func79 49 2 (by kernel_rfl) fun w H ε k0 => ?_
  clear k0
  refine V.g [.nb 0 0 (fun b => pp b 0) 80 (fun _ => ca (Ditem.mk ByteArray.empty 0)),.k (tv ByteArray.empty),.kb false] fun _ _ G1 => ?_
  intro S_ s_
  refine V.g [.k (iv 0)] fun _ _ G2 => ?_
  intro S_ s_
  refine V.loop (γ := Int) (fun n => ⟨[(0, tv s), (2, pp ((G1 0).b) 0), (5, iv n)], [], [.blk ((G1 0).b) (ca (Ditem.mk ByteArray.empty 0)) 80, .no]⟩) (fun n => (0 ≤ n) ∧ (n ≤ (s.size : Int)) ∧ (∀ j, j < n.toNat → Un.ltr (((bl s).getD j default).toNat : Int))) (fun n => ((s.size : Int) - n).toNat) 0 (by kernel_rfl) [] (by kernel_rfl) ?_ ?_
  · refine ⟨?_, ?_, ?_⟩
    · show 0 ≤ (0 : Int)
      omega
    · show (0 : Int) ≤ (s.size : Int)
      omega
    show ∀ j, j < (0 : Int).toNat → Un.ltr (((bl s).getD j default).toNat : Int)
    intro j hj; simp at hj
  rintro n hF1 kw3 Z1 hZ1
  have hF1 : (0 ≤ n) ∧ (n ≤ (s.size : Int)) ∧ (∀ j, j < n.toNat → Un.ltr (((bl s).getD j default).toNat : Int)) := hF1
  obtain ⟨hf1, hf2, hf3⟩ := hF1
  clear kw3
  refine nm ((bl s).getD n.toNat default : UInt8) fun c1 hc1 => ?_
  refine nm ((decide (n < (s.size : Int))) && (decide (Un.ltr (c1.toNat : Int))) : Bool) fun p1 hp1 => ?_
  refine V.g [.k (iv n),.k (tv s),.k (iv (s.size : Int)),.k (bv (decide (n < (s.size : Int)))),.k (bv (decide (n < (s.size : Int)))),.k (tv s),.k (iv n),.sid (gT (b := decide (n < (s.size : Int))) iDT) s n c1 hc1 (fun hg => ⟨by omega, by omega⟩),.cp (gT (b := decide (n < (s.size : Int))) iDT) 8 115 [] (fun hg G => ultr_ct (c1.toNat : Int)),.andn g0 false (decide (n < (s.size : Int))) (decide (Un.ltr (c1.toNat : Int))) p1 hp1] fun _ _ G3 => ?_
  intro S_ s_
  refine V.cond (b := p1) (iN hp1 (iAT iDT iDT)) (iN hp1 (iAF iDF iDF)) (by kernel_rfl) (fun q1 => ?_) (fun q2 => ?_)
  · refine V.g [.k (iv n),.a (n + 1) (by omega) (by omega),.k (iv (n + 1))] fun _ _ G4 => ?_
    intro S_ s_
    refine V.rnd hZ1 (n + 1) [] (by kernel_rfl) ?_ ?_
    · refine ⟨?_, ?_, ?_⟩
      · show 0 ≤ (n + 1)
        omega
      · show (n + 1) ≤ (s.size : Int)
        omega
      show ∀ j, j < (n + 1).toNat → Un.ltr (((bl s).getD j default).toNat : Int)
      intro j hj; by_cases e : j < n.toNat
      · exact hf3 j e
      rw [show j = n.toNat by omega, ← hc1]; exact (q1).2
    show ((s.size : Int) - (n + 1)).toNat < ((s.size : Int) - n).toNat
    omega
  have hnl : Un.nl s = n.toNat := Un.nl_at (by omega) hf3 (by have hqq := q2; rcases hqq with h | h; exact .inl (by omega); right; rw [hc1] at h; exact h)
  refine nm (s.extract (0 : Int).toNat n.toNat : ByteArray) fun t1 ht1 => ?_
  have ht1n : t1.size = min n.toNat s.size - (0 : Int).toNat := by rw [ht1, ByteArray.size_extract]
  refine V.g [.k (tv s),.k (iv n),.ssl g0 s none (some n) 0 n rfl rfl t1 ht1 (fun _ => ⟨by omega, by omega, by omega⟩),.k (ag (Ditem.mk t1 1)),.nb 4 1 (fun b => pp b 0) 80 (fun _ => ca (Ditem.mk ByteArray.empty 0)),.st 1 (fun G => .blk ((G 4).b) (ca (Ditem.mk t1 1)) 80)] fun _ _ G5 => ?_
  intro S_ s_
  refine nm (s.extract n.toNat (s.size : Int).toNat : ByteArray) fun t2 ht2 => ?_
  have ht2n : t2.size = min (s.size : Int).toNat s.size - n.toNat := by rw [ht2, ByteArray.size_extract]
  refine V.g [.k (tv s),.k (iv n),.ssl g0 s (some n) none n (s.size : Int) rfl rfl t2 ht2 (fun _ => ⟨by omega, by omega, by omega⟩),.k (tv t2)] fun _ _ G6 => ?_
  intro S_ s_
  have hrest : Un.rest s = t2 := by unfold Un.rest; rw [hnl, ht2]; rfl
  have hcw : Un.cuW s = t1 := by unfold Un.cuW; rw [hnl, ht1]; rfl
  refine nm ((bl t2).getD (0 : Int).toNat default : UInt8) fun c2 hc2 => ?_
  refine nm ((!(decide (t2 = ByteArray.empty))) && (decide (50 ≤ (c2.toNat : Int))) : Bool) fun p2 hp2 => ?_
  refine V.g [.k (tv t2),.sne t2 ByteArray.empty,.k (bv (!(decide (t2 = ByteArray.empty)))),.k (tv t2),.sid (gT (b := !(decide (t2 = ByteArray.empty))) (iNT iDF)) t2 (0 : Int) c2 hc2 (fun hg => ⟨by omega, by have := Dm.size_ne hg; omega⟩),.k (bv (decide (50 ≤ (c2.toNat : Int)))),.andn g0 false (!(decide (t2 = ByteArray.empty))) (decide (50 ≤ (c2.toNat : Int))) p2 hp2,.k (bv p2),.k (tv t2),.sid (gT (b := p2) (iN hp2 (iAT (iNT iDF) iDT))) t2 (0 : Int) c2 hc2 (fun hg => ⟨by omega, by have := Dm.size_ne hg.1; omega⟩),.k (bv (decide ((c2.toNat : Int) ≤ 57))),.and g0 false p2 (decide ((c2.toNat : Int) ≤ 57))] fun _ _ G7 => ?_
  intro S_ s_
  refine V.cond (b := p2 && (decide ((c2.toNat : Int) ≤ 57))) (iAT (iN hp2 (iAT (iNT iDF) iDT)) iDT) (iAF (iN hp2 (iAF (iNF iDT) iDF)) iDF) (by kernel_rfl) (fun q3 => ?_) (fun q4 => ?_)
  · obtain ⟨⟨hne, hlo⟩, hup⟩ := q3
    have hsz := Dm.size_ne hne
    have hcd : (bl t2).getD 0 default = c2 := hc2.symm
    have hnum : Un.num t2 := by unfold Un.num; rw [hcd]; exact ⟨⟨hne, hlo⟩, hup⟩
    refine nm ((c2.toNat : Int) - 48 : Int) fun n1 hn1 => ?_
    refine nm (t2.extract (1 : Int).toNat (t2.size : Int).toNat : ByteArray) fun t3 ht3 => ?_
    have ht3n : t3.size = min (t2.size : Int).toNat t2.size - (1 : Int).toNat := by rw [ht3, ByteArray.size_extract]
    refine V.g [.k (tv t2),.sid g0 t2 (0 : Int) c2 hc2 (fun _ => ⟨by omega, by omega⟩),.ek g0 .u8 ((c2.toNat : Int) - 48) n1 (fun _ => by rw [wrapU8]; omega),.arg g0 n1 n1 rfl (fun _ => by omega),.k (tv t2),.ssl g0 t2 (some (1 : Int)) none 1 (t2.size : Int) rfl rfl t3 ht3 (fun _ => ⟨by omega, by omega, by omega⟩),.k (pp ((G5 4).b) 1),.st 1 (fun _ => .blk ((G5 4).b) (ca (Ditem.mk t1 n1)) 80),.k (tv t3)] fun _ _ G8 => ?_
    intro S_ s_
    have hce : Un.cuE s = n1 := by unfold Un.cuE; rw [hrest, if_pos hnum, hcd, hn1]
    have hcr : Un.cuR s = t3 := by unfold Un.cuR; rw [hrest, if_pos hnum, ht3]; rfl
    refine V.g [.ld 1 0 true (fun _ => Dat.cells (Ditem.mk t1 n1)),.k (tv t3),.k (iv n),.k (bv (decide (0 < n))),.st 0 (fun _ => .blk ((G1 0).b) (ca (Ditem.mk t1 n1)) 80),.k (tv t3),.k (bv (decide (0 < n)))] fun _ _ G9 => ?_
    intro S_ s_
    have e0 : t1 = Un.cuW s := hcw.symm
    have e1 : n1 = Un.cuE s := hce.symm
    have e2 : t3 = Un.cuR s := hcr.symm
    have e3 : (decide (0 < n)) = decide (0 < Un.nl s) := by
      refine Bool.eq_iff_iff.2 (Iff.trans iDT (Iff.trans ?_ decide_eq_true_iff.symm))
      rw [hnl]; omega
    exact V.ret [0, 0, 0] [] [] [] [] [] (.tuple #[ag (Ditem.mk t1 n1), tv t3, bv (decide (0 < n))]) (fun _ _ => by kernel_rfl) (fun _ _ => (Eq.trans (by kernel_rfl) (cong4 (fun (x0 : ByteArray) (x1 : Int) (x2 : ByteArray) (x3 : Bool) => (.tuple #[.agg #[tv x0, iv x1], tv x2, bv x3] : Value)) e0 e1 e2 e3)).trans (by kernel_rfl)) (fun _ _ => trivial)
  have hcd : (bl t2).getD 0 default = c2 := hc2.symm
  have hnum : ¬ Un.num t2 := by unfold Un.num; rw [hcd]; rintro ⟨⟨h1, h2⟩, h3⟩; have hqq := q4; rcases hqq with (h | h) | h; exact h1 h; exact h h2; exact h h3
  have hce : Un.cuE s = 1 := by unfold Un.cuE; rw [hrest, if_neg hnum]
  have hcr : Un.cuR s = t2 := by unfold Un.cuR; rw [hrest, if_neg hnum]
  refine V.g [.ld 1 0 true (fun _ => Dat.cells (Ditem.mk t1 1)),.k (tv t2),.k (iv n),.k (bv (decide (0 < n))),.st 0 (fun _ => .blk ((G1 0).b) (ca (Ditem.mk t1 1)) 80),.k (tv t2),.k (bv (decide (0 < n)))] fun _ _ G10 => ?_
  intro S_ s_
  have e0 : t1 = Un.cuW s := hcw.symm
  have e1 : (1 : Int) = Un.cuE s := hce.symm
  have e2 : t2 = Un.cuR s := hcr.symm
  have e3 : (decide (0 < n)) = decide (0 < Un.nl s) := by
    refine Bool.eq_iff_iff.2 (Iff.trans iDT (Iff.trans ?_ decide_eq_true_iff.symm))
    rw [hnl]; omega
  exact V.ret [0, 0, 0] [] [] [] [] [] (.tuple #[ag (Ditem.mk t1 1), tv t2, bv (decide (0 < n))]) (fun _ _ => by kernel_rfl) (fun _ _ => (Eq.trans (by kernel_rfl) (cong4 (fun (x0 : ByteArray) (x1 : Int) (x2 : ByteArray) (x3 : Bool) => (.tuple #[.agg #[tv x0, iv x1], tv x2, bv x3] : Value)) e0 e1 e2 e3)).trans (by kernel_rfl)) (fun _ _ => trivial)
theorem ucut_ctv (s : ByteArray) (hs : s.size ≤ 1000000) (rv0 : ByteArray) (erv0 : rv0 = Un.cuW s) (rv1 : Int) (erv1 : rv1 = Un.cuE s) (rv2 : ByteArray) (erv2 : rv2 = Un.cuR s) :
    Cp Try.prog 79 #[tv s] [] (.tuple #[ag (Ditem.mk rv0 rv1), tv rv2, bv (decide (0 < Un.nl s))]) := by
  subst erv0 erv1 erv2; exact ucut_ct s hs

open Go Go.Proofs
set_option maxRecDepth 10000 in
theorem utimes_ct (a_P_Sign : Int) (a_P_Digits : List Int) (a_P_Digitss : SV) (a_Q_Sign : Int) (a_Q_Digits : List Int) (a_Q_Digitss : SV) (f_P_Sign : Int) (f_P_Digits : List Int) (f_P_Digitss : SV) (f_Q_Sign : Int) (f_Q_Digits : List Int) (f_Q_Digitss : SV) (exp : Int) (hFA : Fr.FrB a_P_Sign a_P_Digits a_Q_Sign a_Q_Digits) (hFF : Fr.FrB f_P_Sign f_P_Digits f_Q_Sign f_Q_Digits) (hf0 : f_P_Sign ≠ 0) (he : -9 ≤ exp ∧ exp ≤ 9) (hla : a_P_Digits.length ≤ 1000000 ∧ a_Q_Digits.length ≤ 1000000) (hlf : f_P_Digits.length ≤ 1000 ∧ f_Q_Digits.length ≤ 1000) :
    Ct Try.prog 48 #[ag (DFrac.mk (DBig.mk a_P_Sign ⟨a_P_Digits, a_P_Digitss⟩) (DBig.mk a_Q_Sign ⟨a_Q_Digits, a_Q_Digitss⟩)), ag (DFrac.mk (DBig.mk f_P_Sign ⟨f_P_Digits, f_P_Digitss⟩) (DBig.mk f_Q_Sign ⟨f_Q_Digits, f_Q_Digitss⟩)), iv exp] [fs true a_P_Digits a_P_Digitss, fs true a_Q_Digits a_Q_Digitss, fs true f_P_Digits f_P_Digitss, fs true f_Q_Digits f_Q_Digitss] [] (fun g => ag (DFrac.mk (DBig.mk (Fr.rS (True) (Un.tm (Fr.fq a_P_Sign a_P_Digits a_Q_Digits) (Fr.fq f_P_Sign f_P_Digits f_Q_Digits) exp)) ⟨Fr.rD (True) (Un.tm (Fr.fq a_P_Sign a_P_Digits a_Q_Digits) (Fr.fq f_P_Sign f_P_Digits f_Q_Digits) exp), (g.ss 0)⟩) (DBig.mk (Fr.rT (True)) ⟨Fr.rE (True) (Un.tm (Fr.fq a_P_Sign a_P_Digits a_Q_Digits) (Fr.fq f_P_Sign f_P_Digits f_Q_Digits) exp), (g.ss 1)⟩))) (fun g => [fs false (Fr.rD (True) (Un.tm (Fr.fq a_P_Sign a_P_Digits a_Q_Digits) (Fr.fq f_P_Sign f_P_Digits f_Q_Digits) exp)) (g.ss 0), fs false (Fr.rE (True) (Un.tm (Fr.fq a_P_Sign a_P_Digits a_Q_Digits) (Fr.fq f_P_Sign f_P_Digits f_Q_Digits) exp)) (g.ss 1)]) (fun g => []) (fun g => []) := by
  refine V.fn mo Try.func48 29 3 (by kernel_rfl) fun w H ε k0 => ?_
  obtain ⟨⟨kl1, -⟩, ⟨kl2, -⟩, ⟨kl3, -⟩, ⟨kl4, -⟩, -⟩ : Lq a_P_Digits a_P_Digitss.v ∧ Lq a_Q_Digits a_Q_Digitss.v ∧ Lq f_P_Digits f_P_Digitss.v ∧ Lq f_Q_Digits f_Q_Digitss.v ∧ True := kn k0 (by kernel_rfl)
  clear k0
  refine V.g [.nb 0 0 (fun b => pp b 0) 30 (fun _ => ca (DFrac.mk (DBig.mk a_P_Sign ⟨a_P_Digits, a_P_Digitss⟩) (DBig.mk a_Q_Sign ⟨a_Q_Digits, a_Q_Digitss⟩))),.nb 1 1 (fun b => pp b 0) 30 (fun _ => ca (DFrac.mk (DBig.mk f_P_Sign ⟨f_P_Digits, f_P_Digitss⟩) (DBig.mk f_Q_Sign ⟨f_Q_Digits, f_Q_Digitss⟩))),.nb 2 2 (fun b => pp b 0) 30 (fun _ => ca (DFrac.mk (DBig.mk 0 ⟨[], {}⟩) (DBig.mk 0 ⟨[], {}⟩)))] fun _ _ G1 => ?_
  intro S_ s_
  refine V.g [.k (iv exp),.k (iv exp),.ng exp (-exp) rfl (by omega) (by omega),.mx exp (-exp),.k (iv 0)] fun _ _ G2 => ?_
  intro S_ s_
  refine V.loop (γ := Int × Int × List Int × SV × Int × List Int × SV) (fun ⟨k0, a_0, a_1, a_1s, a_2, a_3, a_3s⟩ => ⟨[(2, iv exp), (3, pp ((G1 0).b) 0), (4, pp ((G1 1).b) 0), (6, pp ((G1 2).b) 0), (10, iv (max exp (-exp))), (11, iv k0)], [fs false a_1 a_1s, fs false a_3 a_3s, fs false f_P_Digits f_P_Digitss, fs false f_Q_Digits f_Q_Digitss], [.blk ((G1 0).b) (ca (DFrac.mk (DBig.mk a_0 ⟨a_1, a_1s⟩) (DBig.mk a_2 ⟨a_3, a_3s⟩))) 30, .blk ((G1 1).b) (ca (DFrac.mk (DBig.mk f_P_Sign ⟨f_P_Digits, f_P_Digitss⟩) (DBig.mk f_Q_Sign ⟨f_Q_Digits, f_Q_Digitss⟩))) 30, .blk ((G1 2).b) (ca (DFrac.mk (DBig.mk 0 ⟨[], {}⟩) (DBig.mk 0 ⟨[], {}⟩))) 30]⟩) (fun ⟨k0, a_0, a_1, a_1s, a_2, a_3, a_3s⟩ => (0 ≤ k0) ∧ (k0 ≤ max exp (-exp)) ∧ (Fr.Fz a_0 a_1 a_2 a_3 (Un.tmN (Fr.fq a_P_Sign a_P_Digits a_Q_Digits) (Fr.fq f_P_Sign f_P_Digits f_Q_Digits) (0 < exp) k0.toNat))) (fun ⟨k0, a_0, a_1, a_1s, a_2, a_3, a_3s⟩ => (max exp (-exp) - k0).toNat) (0, a_P_Sign, a_P_Digits, a_P_Digitss, a_Q_Sign, a_Q_Digits, a_Q_Digitss) (by kernel_rfl) [0, 1, 2, 3] (by kernel_rfl) ?_ ?_
  · refine ⟨?_, ?_, ?_⟩
    · show 0 ≤ (0 : Int)
      omega
    · show (0 : Int) ≤ max exp (-exp)
      omega
    show Fr.Fz a_P_Sign a_P_Digits a_Q_Sign a_Q_Digits (Un.tmN (Fr.fq a_P_Sign a_P_Digits a_Q_Digits) (Fr.fq f_P_Sign f_P_Digits f_Q_Digits) (0 < exp) (0 : Int).toNat)
    exact Fr.FrB.z hFA
  rintro ⟨k0, a_0, a_1, a_1s, a_2, a_3, a_3s⟩ hF1 kw3 Z1 hZ1
  have hF1 : (0 ≤ k0) ∧ (k0 ≤ max exp (-exp)) ∧ (Fr.Fz a_0 a_1 a_2 a_3 (Un.tmN (Fr.fq a_P_Sign a_P_Digits a_Q_Digits) (Fr.fq f_P_Sign f_P_Digits f_Q_Digits) (0 < exp) k0.toNat)) := hF1
  obtain ⟨hf1, hf2, hf3⟩ := hF1
  obtain ⟨⟨kl5, -⟩, ⟨kl6, -⟩, -, -, -⟩ : Lq a_1 a_1s.v ∧ Lq a_3 a_3s.v ∧ Lq f_P_Digits f_P_Digitss.v ∧ Lq f_Q_Digits f_Q_Digitss.v ∧ True := kn kw3 (by kernel_rfl)
  clear kw3
  have hzl := hf3.len (Un.tmN_hb (hFA.hb hla.1 hla.2) (hFF.hb hlf.1 hlf.2) _)
  have hzl1 := hzl.1; have hzl2 := hzl.2
  refine V.g [.k (bv (decide (k0 < max exp (-exp))))] fun _ _ G3 => ?_
  intro S_ s_
  refine V.cond (b := decide (k0 < max exp (-exp))) iDT iDF (by kernel_rfl) (fun q1 => ?_) (fun q2 => ?_)
  · refine V.g [.k (iv exp),.k (bv (decide (0 < exp)))] fun _ _ G4 => ?_
    intro S_ s_
    refine V.cond (b := decide (0 < exp)) iDT iDF (by kernel_rfl) (fun q3 => ?_) (fun q4 => ?_)
    · refine nm (Fr.rS (Fr.FrB a_0 a_1 a_2 a_3 ∧ Fr.FrB f_P_Sign f_P_Digits f_Q_Sign f_Q_Digits) ((Fr.fq a_0 a_1 a_3) * (Fr.fq f_P_Sign f_P_Digits f_Q_Digits)) : Int) fun n1 hn1 => ?_
      refine nm (Fr.rD (Fr.FrB a_0 a_1 a_2 a_3 ∧ Fr.FrB f_P_Sign f_P_Digits f_Q_Sign f_Q_Digits) ((Fr.fq a_0 a_1 a_3) * (Fr.fq f_P_Sign f_P_Digits f_Q_Digits)) : List Int) fun l1 hl1 => ?_
      have hl1n := congrArg List.length hl1
      refine nm (Fr.rT (Fr.FrB a_0 a_1 a_2 a_3 ∧ Fr.FrB f_P_Sign f_P_Digits f_Q_Sign f_Q_Digits) : Int) fun n2 hn2 => ?_
      refine nm (Fr.rE (Fr.FrB a_0 a_1 a_2 a_3 ∧ Fr.FrB f_P_Sign f_P_Digits f_Q_Sign f_Q_Digits) ((Fr.fq a_0 a_1 a_3) * (Fr.fq f_P_Sign f_P_Digits f_Q_Digits)) : List Int) fun l2 hl2 => ?_
      have hl2n := congrArg List.length hl2
      refine nm (if ¬ (Fr.FrB a_0 a_1 a_2 a_3 ∧ Fr.FrB f_P_Sign f_P_Digits f_Q_Sign f_Q_Digits) then (1 : Int) else 0 : Int) fun n3 hn3 => ?_
      refine V.r [.ld 0 0 true (fun _ => Dat.cells (DFrac.mk (DBig.mk a_0 ⟨a_1, a_1s⟩) (DBig.mk a_2 ⟨a_3, a_3s⟩))),.ld 1 0 true (fun _ => Dat.cells (DFrac.mk (DBig.mk f_P_Sign ⟨f_P_Digits, f_P_Digitss⟩) (DBig.mk f_Q_Sign ⟨f_Q_Digits, f_Q_Digitss⟩))),.ct g0 2 20 false [] [] [(kf false (.f 0) a_1 (fun _ => a_1s)).a, (kf false (.f 1) a_3 (fun _ => a_3s)).a, (kf false (.f 2) f_P_Digits (fun _ => f_P_Digitss)).a, (kf false (.f 3) f_Q_Digits (fun _ => f_Q_Digitss)).a] (fun _ G => fmul_ctv a_0 a_1 a_1s a_2 a_3 a_3s f_P_Sign f_P_Digits f_P_Digitss f_Q_Sign f_Q_Digits f_Q_Digitss (by omega) (by omega) (by omega) (by omega) n1 hn1 l1 hl1 n2 hn2 l2 hl2 n3 hn3),.v fun G => .tuple #[ag (DFrac.mk (DBig.mk n1 ⟨l1, (G 2).ss 0⟩) (DBig.mk n2 ⟨l2, (G 2).ss 1⟩)), iv n3],.v fun G => ag (DFrac.mk (DBig.mk n1 ⟨l1, (G 2).ss 0⟩) (DBig.mk n2 ⟨l2, (G 2).ss 1⟩)),.k (iv n3),.st 0 (fun G => .blk ((G1 0).b) (ca (DFrac.mk (DBig.mk n1 ⟨l1, (G 2).ss 0⟩) (DBig.mk n2 ⟨l2, (G 2).ss 1⟩))) 30)] fun _ _ G5 kw6 => ?_
      intro S_ s_
      obtain ⟨⟨kl7, -⟩, ⟨kl8, -⟩, -⟩ : Lq l1 (((G5 2).ss 0).v) ∧ Lq l2 (((G5 2).ss 1).v) ∧ True := kn kw6 (by kernel_rfl)
      clear kw6
      have hzn := Fr.Fz.of ⟨hf3.rt, hFF⟩ hn1 hl1 hn2 hl2
      rw [hf3.v] at hzn
      refine V.g [.a (k0 + 1) (by omega) (by omega),.k (iv (k0 + 1))] fun _ _ G6 => ?_
      intro S_ s_
      refine V.rnd hZ1 (k0 + 1, n1, l1, (G5 2).ss 0, n2, l2, (G5 2).ss 1) [4, 5, 2, 3] (by kernel_rfl) ?_ ?_
      · refine ⟨?_, ?_, ?_⟩
        · show 0 ≤ (k0 + 1)
          omega
        · show (k0 + 1) ≤ max exp (-exp)
          omega
        show Fr.Fz n1 l1 n2 l2 (Un.tmN (Fr.fq a_P_Sign a_P_Digits a_Q_Digits) (Fr.fq f_P_Sign f_P_Digits f_Q_Digits) (0 < exp) (k0 + 1).toNat)
        rw [show (k0 + 1).toNat = k0.toNat + 1 by omega, Un.tmN_y q3]; exact hzn
      show (max exp (-exp) - (k0 + 1)).toNat < (max exp (-exp) - k0).toNat
      omega
    refine nm (Fr.rS ((Fr.FrB a_0 a_1 a_2 a_3 ∧ Fr.FrB f_P_Sign f_P_Digits f_Q_Sign f_Q_Digits) ∧ f_P_Sign ≠ 0) ((Fr.fq a_0 a_1 a_3) / (Fr.fq f_P_Sign f_P_Digits f_Q_Digits)) : Int) fun n4 hn4 => ?_
    refine nm (Fr.rD ((Fr.FrB a_0 a_1 a_2 a_3 ∧ Fr.FrB f_P_Sign f_P_Digits f_Q_Sign f_Q_Digits) ∧ f_P_Sign ≠ 0) ((Fr.fq a_0 a_1 a_3) / (Fr.fq f_P_Sign f_P_Digits f_Q_Digits)) : List Int) fun l3 hl3 => ?_
    have hl3n := congrArg List.length hl3
    refine nm (Fr.rT ((Fr.FrB a_0 a_1 a_2 a_3 ∧ Fr.FrB f_P_Sign f_P_Digits f_Q_Sign f_Q_Digits) ∧ f_P_Sign ≠ 0) : Int) fun n5 hn5 => ?_
    refine nm (Fr.rE ((Fr.FrB a_0 a_1 a_2 a_3 ∧ Fr.FrB f_P_Sign f_P_Digits f_Q_Sign f_Q_Digits) ∧ f_P_Sign ≠ 0) ((Fr.fq a_0 a_1 a_3) / (Fr.fq f_P_Sign f_P_Digits f_Q_Digits)) : List Int) fun l4 hl4 => ?_
    have hl4n := congrArg List.length hl4
    refine nm (if ¬ (Fr.FrB a_0 a_1 a_2 a_3 ∧ Fr.FrB f_P_Sign f_P_Digits f_Q_Sign f_Q_Digits) then (1 : Int) else if f_P_Sign = 0 then 15 else 0 : Int) fun n6 hn6 => ?_
    refine V.r [.ld 0 0 true (fun _ => Dat.cells (DFrac.mk (DBig.mk a_0 ⟨a_1, a_1s⟩) (DBig.mk a_2 ⟨a_3, a_3s⟩))),.ld 1 0 true (fun _ => Dat.cells (DFrac.mk (DBig.mk f_P_Sign ⟨f_P_Digits, f_P_Digitss⟩) (DBig.mk f_Q_Sign ⟨f_Q_Digits, f_Q_Digitss⟩))),.ct g0 2 40 false [] [] [(kf false (.f 0) a_1 (fun _ => a_1s)).a, (kf false (.f 1) a_3 (fun _ => a_3s)).a, (kf false (.f 2) f_P_Digits (fun _ => f_P_Digitss)).a, (kf false (.f 3) f_Q_Digits (fun _ => f_Q_Digitss)).a] (fun _ G => fdiv_ctv a_0 a_1 a_1s a_2 a_3 a_3s f_P_Sign f_P_Digits f_P_Digitss f_Q_Sign f_Q_Digits f_Q_Digitss (by omega) (by omega) (by omega) (by omega) n4 hn4 l3 hl3 n5 hn5 l4 hl4 n6 hn6),.v fun G => .tuple #[ag (DFrac.mk (DBig.mk n4 ⟨l3, (G 2).ss 0⟩) (DBig.mk n5 ⟨l4, (G 2).ss 1⟩)), iv n6],.v fun G => ag (DFrac.mk (DBig.mk n4 ⟨l3, (G 2).ss 0⟩) (DBig.mk n5 ⟨l4, (G 2).ss 1⟩)),.k (iv n6),.st 0 (fun G => .blk ((G1 0).b) (ca (DFrac.mk (DBig.mk n4 ⟨l3, (G 2).ss 0⟩) (DBig.mk n5 ⟨l4, (G 2).ss 1⟩))) 30)] fun _ _ G7 kw8 => ?_
    intro S_ s_
    obtain ⟨⟨kl9, -⟩, ⟨kl10, -⟩, -⟩ : Lq l3 (((G7 2).ss 0).v) ∧ Lq l4 (((G7 2).ss 1).v) ∧ True := kn kw8 (by kernel_rfl)
    clear kw8
    have hzn := Fr.Fz.of ⟨⟨hf3.rt, hFF⟩, hf0⟩ hn4 hl3 hn5 hl4
    rw [hf3.v] at hzn
    refine V.g [.a (k0 + 1) (by omega) (by omega),.k (iv (k0 + 1))] fun _ _ G8 => ?_
    intro S_ s_
    refine V.rnd hZ1 (k0 + 1, n4, l3, (G7 2).ss 0, n5, l4, (G7 2).ss 1) [4, 5, 2, 3] (by kernel_rfl) ?_ ?_
    · refine ⟨?_, ?_, ?_⟩
      · show 0 ≤ (k0 + 1)
        omega
      · show (k0 + 1) ≤ max exp (-exp)
        omega
      show Fr.Fz n4 l3 n5 l4 (Un.tmN (Fr.fq a_P_Sign a_P_Digits a_Q_Digits) (Fr.fq f_P_Sign f_P_Digits f_Q_Digits) (0 < exp) (k0 + 1).toNat)
      rw [show (k0 + 1).toNat = k0.toNat + 1 by omega, Un.tmN_n q4]; exact hzn
    show (max exp (-exp) - (k0 + 1)).toNat < (max exp (-exp) - k0).toNat
    omega
  have htm : Un.tmN (Fr.fq a_P_Sign a_P_Digits a_Q_Digits) (Fr.fq f_P_Sign f_P_Digits f_Q_Digits) (0 < exp) k0.toNat = Un.tm (Fr.fq a_P_Sign a_P_Digits a_Q_Digits) (Fr.fq f_P_Sign f_P_Digits f_Q_Digits) exp := by unfold Un.tm; rw [show exp.natAbs = k0.toNat by omega]
  refine V.g [.ld 0 0 true (fun _ => Dat.cells (DFrac.mk (DBig.mk a_0 ⟨a_1, a_1s⟩) (DBig.mk a_2 ⟨a_3, a_3s⟩))),.st 2 (fun _ => .blk ((G1 2).b) (ca (DFrac.mk (DBig.mk a_0 ⟨a_1, a_1s⟩) (DBig.mk a_2 ⟨a_3, a_3s⟩))) 30)] fun _ _ G9 => ?_
  intro S_ s_
  have e1 : a_1 = Fr.rD (True) (Un.tm (Fr.fq a_P_Sign a_P_Digits a_Q_Digits) (Fr.fq f_P_Sign f_P_Digits f_Q_Digits) exp) := (Fr.Fz.ret hf3 True.intro htm).2.1
  subst e1
  have e3 : a_3 = Fr.rE (True) (Un.tm (Fr.fq a_P_Sign a_P_Digits a_Q_Digits) (Fr.fq f_P_Sign f_P_Digits f_Q_Digits) exp) := (Fr.Fz.ret hf3 True.intro htm).2.2.2
  subst e3
  have e0 : a_0 = Fr.rS (True) (Un.tm (Fr.fq a_P_Sign a_P_Digits a_Q_Digits) (Fr.fq f_P_Sign f_P_Digits f_Q_Digits) exp) := (Fr.Fz.ret hf3 True.intro htm).1
  have e2 : a_2 = Fr.rT (True) := (Fr.Fz.ret hf3 True.intro htm).2.2.1
  exact V.ret [2] [a_1s, a_3s] [fun _ => {}, fun _ => {}] [] [0, 1] [] (ag (DFrac.mk (DBig.mk a_0 ⟨(Fr.rD (True) (Un.tm (Fr.fq a_P_Sign a_P_Digits a_Q_Digits) (Fr.fq f_P_Sign f_P_Digits f_Q_Digits) exp)), a_1s⟩) (DBig.mk a_2 ⟨(Fr.rE (True) (Un.tm (Fr.fq a_P_Sign a_P_Digits a_Q_Digits) (Fr.fq f_P_Sign f_P_Digits f_Q_Digits) exp)), a_3s⟩))) (fun _ _ => by kernel_rfl) (fun _ _ => (Eq.trans (by kernel_rfl) (cong2 (fun (x0 : Int) (x2 : Int) => (.agg #[iv x0, a_1s.v, iv x2, a_3s.v] : Value)) e0 e2)).trans (by kernel_rfl)) (fun _ _ => trivial)
theorem utimes_ctv (a_P_Sign : Int) (a_P_Digits : List Int) (a_P_Digitss : SV) (a_Q_Sign : Int) (a_Q_Digits : List Int) (a_Q_Digitss : SV) (f_P_Sign : Int) (f_P_Digits : List Int) (f_P_Digitss : SV) (f_Q_Sign : Int) (f_Q_Digits : List Int) (f_Q_Digitss : SV) (exp : Int) (hFA : Fr.FrB a_P_Sign a_P_Digits a_Q_Sign a_Q_Digits) (hFF : Fr.FrB f_P_Sign f_P_Digits f_Q_Sign f_Q_Digits) (hf0 : f_P_Sign ≠ 0) (he : -9 ≤ exp ∧ exp ≤ 9) (hla : a_P_Digits.length ≤ 1000000 ∧ a_Q_Digits.length ≤ 1000000) (hlf : f_P_Digits.length ≤ 1000 ∧ f_Q_Digits.length ≤ 1000) (rv0 : Int) (erv0 : rv0 = Fr.rS (True) (Un.tm (Fr.fq a_P_Sign a_P_Digits a_Q_Digits) (Fr.fq f_P_Sign f_P_Digits f_Q_Digits) exp)) (rv1 : List Int) (erv1 : rv1 = Fr.rD (True) (Un.tm (Fr.fq a_P_Sign a_P_Digits a_Q_Digits) (Fr.fq f_P_Sign f_P_Digits f_Q_Digits) exp)) (rv2 : Int) (erv2 : rv2 = Fr.rT (True)) (rv3 : List Int) (erv3 : rv3 = Fr.rE (True) (Un.tm (Fr.fq a_P_Sign a_P_Digits a_Q_Digits) (Fr.fq f_P_Sign f_P_Digits f_Q_Digits) exp)) :
    Ct Try.prog 48 #[ag (DFrac.mk (DBig.mk a_P_Sign ⟨a_P_Digits, a_P_Digitss⟩) (DBig.mk a_Q_Sign ⟨a_Q_Digits, a_Q_Digitss⟩)), ag (DFrac.mk (DBig.mk f_P_Sign ⟨f_P_Digits, f_P_Digitss⟩) (DBig.mk f_Q_Sign ⟨f_Q_Digits, f_Q_Digitss⟩)), iv exp] [fs true a_P_Digits a_P_Digitss, fs true a_Q_Digits a_Q_Digitss, fs true f_P_Digits f_P_Digitss, fs true f_Q_Digits f_Q_Digitss] [] (fun g => ag (DFrac.mk (DBig.mk rv0 ⟨rv1, (g.ss 0)⟩) (DBig.mk rv2 ⟨rv3, (g.ss 1)⟩))) (fun g => [fs false rv1 (g.ss 0), fs false rv3 (g.ss 1)]) (fun g => []) (fun g => []) := by
  subst erv0 erv1 erv2 erv3; exact utimes_ct a_P_Sign a_P_Digits a_P_Digitss a_Q_Sign a_Q_Digits a_Q_Digitss f_P_Sign f_P_Digits f_P_Digitss f_Q_Sign f_Q_Digits f_Q_Digitss exp hFA hFF hf0 he hla hlf
set_option maxRecDepth 10000 in
theorem hasp_ct (s prefix_ : ByteArray) :
    Cp Try.prog 129 #[tv s, tv prefix_] [] (bv (decide (Dm.cpB s prefix_))) := by
  refine V.fn mo Try.func129 18 0 (by kernel_rfl) fun w H ε k0 => ?_
  clear k0
  refine V.g [.kb false] fun _ _ G1 => ?_
  intro S_ s_
  refine nm (s.extract (0 : Int).toNat (prefix_.size : Int).toNat : ByteArray) fun t1 ht1 => ?_
  have ht1n : t1.size = min (prefix_.size : Int).toNat s.size - (0 : Int).toNat := by rw [ht1, ByteArray.size_extract]
  refine nm ((decide ((prefix_.size : Int) ≤ (s.size : Int))) && (decide (t1 = prefix_)) : Bool) fun p1 hp1 => ?_
  refine V.g [.k (tv s),.k (iv (s.size : Int)),.k (tv prefix_),.k (iv (prefix_.size : Int)),.k (bv (decide ((prefix_.size : Int) ≤ (s.size : Int)))),.k (bv (decide ((prefix_.size : Int) ≤ (s.size : Int)))),.k (tv s),.k (tv prefix_),.k (iv (prefix_.size : Int)),.ssl (gT (b := decide ((prefix_.size : Int) ≤ (s.size : Int))) iDT) s none (some (prefix_.size : Int)) 0 (prefix_.size : Int) rfl rfl t1 ht1 (fun hg => ⟨by omega, by omega, by omega⟩),.k (tv prefix_),.seq t1 prefix_,.andn g0 false (decide ((prefix_.size : Int) ≤ (s.size : Int))) (decide (t1 = prefix_)) p1 hp1,.k (bv p1)] fun _ _ G2 => ?_
  intro S_ s_
  have e0 : p1 = decide (Dm.cpB s prefix_) := by
    refine Bool.eq_iff_iff.2 (Iff.trans (iN hp1 (iAT iDT iDT)) (Iff.trans ?_ decide_eq_true_iff.symm))
    rw [ht1]; exact Iff.rfl
  exact V.ret [0] [] [] [] [] [] (bv p1) (fun _ _ => by kernel_rfl) (fun _ _ => (Eq.trans (by kernel_rfl) (cong1 (fun (x0 : Bool) => (bv x0 : Value)) e0)).trans (by kernel_rfl)) (fun _ _ => trivial)
set_option maxRecDepth 10000 in
theorem slcut_ct (s prefix_ : ByteArray) :
    Cp Try.prog 114 #[tv s, tv prefix_] [] (.tuple #[tv (Dm.cpR s prefix_), bv (decide (Dm.cpB s prefix_))]) := by
  refine V.fn mo Try.func114 15 0 (by kernel_rfl) fun w H ε k0 => ?_
  clear k0
  refine V.g [.k (tv ByteArray.empty),.kb false] fun _ _ G1 => ?_
  intro S_ s_
  refine V.g [.k (tv s),.k (tv prefix_),.cp g0 2 129 [] (fun _ G => hasp_ct s prefix_),.k (bv (!(decide (Dm.cpB s prefix_))))] fun _ _ G2 => ?_
  intro S_ s_
  refine V.cond (b := !(decide (Dm.cpB s prefix_))) (iNT iDF) (iNF iDT) (by kernel_rfl) (fun q1 => ?_) (fun q2 => ?_)
  · refine V.g [.k (tv s),.k (tv s),.kb false] fun _ _ G3 => ?_
    intro S_ s_
    have e0 : s = Dm.cpR s prefix_ := (if_neg q1).symm
    have e1 : false = decide (Dm.cpB s prefix_) := (decide_eq_false q1).symm
    exact V.ret [0, 0] [] [] [] [] [] (.tuple #[tv s, bv false]) (fun _ _ => by kernel_rfl) (fun _ _ => (Eq.trans (by kernel_rfl) (cong2 (fun (x0 : ByteArray) (x1 : Bool) => (.tuple #[tv x0, bv x1] : Value)) e0 e1)).trans (by kernel_rfl)) (fun _ _ => trivial)
  have hB : Dm.cpB s prefix_ := by first | exact q2 | exact Decidable.not_not.1 q2
  have hB1 := hB.1
  refine nm (s.extract (prefix_.size : Int).toNat (s.size : Int).toNat : ByteArray) fun t1 ht1 => ?_
  have ht1n : t1.size = min (s.size : Int).toNat s.size - (prefix_.size : Int).toNat := by rw [ht1, ByteArray.size_extract]
  refine V.g [.k (tv s),.k (tv prefix_),.k (iv (prefix_.size : Int)),.ssl g0 s (some (prefix_.size : Int)) none (prefix_.size : Int) (s.size : Int) rfl rfl t1 ht1 (fun _ => ⟨by omega, by omega, by omega⟩),.k (tv t1),.kb true] fun _ _ G4 => ?_
  intro S_ s_
  have e0 : t1 = Dm.cpR s prefix_ := by unfold Dm.cpR; rw [if_pos hB, ht1]; rfl
  have e1 : true = decide (Dm.cpB s prefix_) := (decide_eq_true hB).symm
  exact V.ret [0, 0] [] [] [] [] [] (.tuple #[tv t1, bv true]) (fun _ _ => by kernel_rfl) (fun _ _ => (Eq.trans (by kernel_rfl) (cong2 (fun (x0 : ByteArray) (x1 : Bool) => (.tuple #[tv x0, bv x1] : Value)) e0 e1)).trans (by kernel_rfl)) (fun _ _ => trivial)
theorem slcut_ctv (s prefix_ : ByteArray) (rv0 : ByteArray) (erv0 : rv0 = Dm.cpR s prefix_) :
    Cp Try.prog 114 #[tv s, tv prefix_] [] (.tuple #[tv rv0, bv (decide (Dm.cpB s prefix_))]) := by
  subst erv0; exact slcut_ct s prefix_ 
set_option maxRecDepth 10000 in
theorem cutp_ct (s prefix_ : ByteArray) :
    Cp Try.prog 78 #[tv s, tv prefix_] [] (.tuple #[tv (Dm.cpR s prefix_), bv (decide (Dm.cpB s prefix_))]) := by
  refine V.fn mo Try.func78 11 0 (by kernel_rfl) fun w H ε k0 => ?_
  clear k0
  refine V.g [.k (tv ByteArray.empty),.kb false] fun _ _ G1 => ?_
  intro S_ s_
  refine nm (Dm.cpR s prefix_ : ByteArray) fun t1 ht1 => ?_
  refine V.g [.k (tv s),.k (tv prefix_),.cp g0 2 114 [] (fun _ G => slcut_ctv s prefix_ t1 ht1),.k (tv t1),.k (bv (decide (Dm.cpB s prefix_))),.k (tv t1),.k (bv (decide (Dm.cpB s prefix_)))] fun _ _ G2 => ?_
  intro S_ s_
  have e0 : t1 = Dm.cpR s prefix_ := ht1
  exact V.ret [0, 0] [] [] [] [] [] (.tuple #[tv t1, bv (decide (Dm.cpB s prefix_))]) (fun _ _ => by kernel_rfl) (fun _ _ => (Eq.trans (by kernel_rfl) (cong1 (fun (x0 : ByteArray) => (.tuple #[tv x0, bv (decide (Dm.cpB s prefix_))] : Value)) e0)).trans (by kernel_rfl)) (fun _ _ => trivial)
theorem cutp_ctv (s prefix_ : ByteArray) (rv0 : ByteArray) (erv0 : rv0 = Dm.cpR s prefix_) :
    Cp Try.prog 78 #[tv s, tv prefix_] [] (.tuple #[tv rv0, bv (decide (Dm.cpB s prefix_))]) := by
  subst erv0; exact cutp_ct s prefix_ 
set_option maxRecDepth 10000 in
theorem uitems_ct (s : ByteArray) (hs : s.size ≤ 1000000) :
    Ct Try.prog 45 #[tv s] [] [] (fun g => .tuple #[((g.ss 0)).v, bv ((Un.items s).isSome)]) (fun g => [fs true ((Un.items s).getD []) (g.ss 0)]) (fun g => []) (fun g => []) := by
  refine V.fn mo Try.func45 58 2 (by kernel_rfl) fun w H ε k0 => ?_
  clear k0
  refine V.g [.k (.slice none 0 0),.kb false] fun _ _ G1 => ?_
  intro S_ s_
  refine V.g [.k (.slice none 0 0)] fun _ _ G2 => ?_
  intro S_ s_
  refine V.g [.k (tv s),.seq s ByteArray.empty] fun _ _ G3 => ?_
  intro S_ s_
  refine V.cond (b := decide (s = ByteArray.empty)) iDT iDF (by kernel_rfl) (fun q1 => ?_) (fun q2 => ?_)
  · refine V.g [.k (.slice none 0 0),.kb true] fun _ _ G4 => ?_
    intro S_ s_
    refine V.nilF (α := Ditem) ?_
    have e0 : ([] : List Ditem) = (Un.items s).getD [] := by rw [Un.items_nil q1]; rfl
    rw [← e0]
    have e1 : true = (Un.items s).isSome := by rw [Un.items_nil q1]; rfl
    exact V.ret [0, 0] [{}] [fun _ => {}] [] [0] [] (.tuple #[SV.v ({}), bv true]) (fun _ _ => by kernel_rfl) (fun _ _ => (Eq.trans (by kernel_rfl) (cong1 (fun (x1 : Bool) => (.tuple #[SV.v ({}), bv x1] : Value)) e1)).trans (by kernel_rfl)) (fun _ _ => trivial)
  have hne : ¬ s = ByteArray.empty := q2
  refine V.g [.k (tv s),.k (iv (s.size : Int)),.k (bv (decide (40 < (s.size : Int))))] fun _ _ G5 => ?_
  intro S_ s_
  refine V.cond (b := decide (40 < (s.size : Int))) iDT iDF (by kernel_rfl) (fun q3 => ?_) (fun q4 => ?_)
  · refine V.g [.k (.slice none 0 0),.kb false] fun _ _ G6 => ?_
    intro S_ s_
    refine V.nilF (α := Ditem) ?_
    have e0 : ([] : List Ditem) = (Un.items s).getD [] := by rw [Un.items_far hne (by omega)]; rfl
    rw [← e0]
    have e1 : false = (Un.items s).isSome := by rw [Un.items_far hne (by omega)]; rfl
    exact V.ret [0, 0] [{}] [fun _ => {}] [] [0] [] (.tuple #[SV.v ({}), bv false]) (fun _ _ => by kernel_rfl) (fun _ _ => (Eq.trans (by kernel_rfl) (cong1 (fun (x1 : Bool) => (.tuple #[SV.v ({}), bv x1] : Value)) e1)).trans (by kernel_rfl)) (fun _ _ => trivial)
  refine nm (Dm.cpR s ⟨#[49]⟩ : ByteArray) fun t1 ht1 => ?_
  refine V.g [.k (tv s),.cp g0 1 78 [] (fun _ G => cutp_ctv s ⟨#[49]⟩ t1 ht1),.k (.tuple #[tv t1, bv (decide (Dm.cpB s ⟨#[49]⟩))]),.k (tv t1),.k (bv (decide (Dm.cpB s ⟨#[49]⟩))),.k (tv t1),.k (bv (decide (Dm.cpB s ⟨#[49]⟩)))] fun _ _ G7 => ?_
  intro S_ s_
  refine V.g [.k (bv (decide (Dm.cpB s ⟨#[49]⟩))),.k (bv (!(decide (Dm.cpB s ⟨#[49]⟩))))] fun _ _ G8 => ?_
  intro S_ s_
  refine V.cond (b := !(decide (Dm.cpB s ⟨#[49]⟩))) (iNT iDF) (iNF iDT) (by kernel_rfl) (fun q5 => ?_) (fun q6 => ?_)
  · have hz1 : (⟨#[42]⟩ : ByteArray).size = 1 := rfl
    refine nm ((⟨#[42]⟩ : ByteArray) ++ s : ByteArray) fun t2 ht2 => ?_
    have ht2n : t2.size = (⟨#[42]⟩ : ByteArray).size + s.size := by rw [ht2, ByteArray.size_append]
    refine V.g [.k (tv s),.sad g0 ⟨#[42]⟩ s t2 ht2 (fun _ => by omega),.k (tv t2)] fun _ _ G9 => ?_
    intro S_ s_
    refine V.on (α := Ditem) 1 80 (by kernel_rfl) ?_
    refine V.loop (γ := List Ditem × SV × ByteArray) (fun ⟨out, outs, rest⟩ => ⟨[(4, outs.v), (5, tv rest)], [], [.no, os true 80 out outs]⟩) (fun ⟨out, outs, rest⟩ => (Un.itA out rest = Un.items s) ∧ (rest.size + out.length ≤ 41)) (fun ⟨out, outs, rest⟩ => rest.size) (([] : List Ditem), {}, t2) (by kernel_rfl) [] (by kernel_rfl) ?_ ?_
    · refine ⟨?_, ?_⟩
      · show Un.itA ([] : List Ditem) t2 = Un.items s
        exact ((Un.items_is hne (by omega)).trans (congrArg (Un.itA []) (by unfold Un.start; rw [ht2]; first | exact if_neg q5 | exact if_pos q5))).symm
      show t2.size + ([] : List Ditem).length ≤ 41
      show _ + 0 ≤ 41; first | (have := Dm.cpR_size (s := s) (p := ⟨#[49]⟩); rw [← ht2] at this; omega) | omega
    rintro ⟨out, outs, rest⟩ hF1 kw10 Z1 hZ1
    have hF1 : (Un.itA out rest = Un.items s) ∧ (rest.size + out.length ≤ 41) := hF1
    obtain ⟨hf1, hf2⟩ := hF1
    obtain ⟨⟨kl1, -⟩, -⟩ : Lq out outs.v ∧ True := kn kw10 (by kernel_rfl)
    clear kw10
    refine V.g [.k (tv rest),.sne rest ByteArray.empty] fun _ _ G10 => ?_
    intro S_ s_
    refine V.cond (b := !(decide (rest = ByteArray.empty))) (iNT iDF) (iNF iDT) (by kernel_rfl) (fun q7 => ?_) (fun q8 => ?_)
    · have hrn : ¬ rest = ByteArray.empty := q7
      have hrz := Dm.size_ne hrn
      refine nm ((bl rest).getD (0 : Int).toNat default : UInt8) fun c1 hc1 => ?_
      refine V.g [.k (tv rest),.sid g0 rest (0 : Int) c1 hc1 (fun _ => ⟨by omega, by omega⟩),.k (.int .u8 (c1.toNat : Int))] fun _ _ G11 => ?_
      intro S_ s_
      have hcd : (bl rest).getD 0 default = c1 := hc1.symm
      refine nm (rest.extract (1 : Int).toNat (rest.size : Int).toNat : ByteArray) fun t3 ht3 => ?_
      have ht3n : t3.size = min (rest.size : Int).toNat rest.size - (1 : Int).toNat := by rw [ht3, ByteArray.size_extract]
      refine nm (Un.cuW t3 : ByteArray) fun t4 ht4 => ?_
      refine nm (Un.cuE t3 : Int) fun n1 hn1 => ?_
      refine nm (Un.cuR t3 : ByteArray) fun t5 ht5 => ?_
      refine V.g [.k (tv rest),.ssl g0 rest (some (1 : Int)) none 1 (rest.size : Int) rfl rfl t3 ht3 (fun _ => ⟨by omega, by omega, by omega⟩),.cp g0 2 79 [] (fun _ G => ucut_ctv t3 (by omega) t4 ht4 n1 hn1 t5 ht5),.k (.tuple #[ag (Ditem.mk t4 n1), tv t5, bv (decide (0 < Un.nl t3))]),.k (ag (Ditem.mk t4 n1)),.k (tv t5),.k (bv (decide (0 < Un.nl t3))),.nb 7 0 (fun b => pp b 0) 80 (fun _ => ca (Ditem.mk ByteArray.empty 0)),.st 0 (fun G => .blk ((G 7).b) (ca (Ditem.mk t4 n1)) 80),.k (tv t5),.k (bv (decide (0 < Un.nl t3)))] fun _ _ G12 => ?_
      intro S_ s_
      have htd : rest.extract 1 rest.size = t3 := ht3.symm
      have hgd : Un.good rest = (0 < Un.nl t3 ∧ ((c1.toNat : Int) = 42 ∨ (c1.toNat : Int) = 47)) := by unfold Un.good; rw [htd, hcd]
      have hcz := Un.cuR_size t3
      have hcz0 := Un.cuR_size t3
      have hce := Un.cuE_rg t3
      rw [← ht5] at hcz
      rw [← hn1] at hce
      refine nm ((!(decide ((c1.toNat : Int) = 42))) && (!(decide ((c1.toNat : Int) = 47))) : Bool) fun p1 hp1 => ?_
      refine V.g [.k (bv (decide (0 < Un.nl t3))),.k (bv (!(decide (0 < Un.nl t3)))),.k (bv (!(decide (0 < Un.nl t3)))),.k (.int .u8 (c1.toNat : Int)),.k (bv (!(decide ((c1.toNat : Int) = 42)))),.k (bv (!(decide ((c1.toNat : Int) = 42)))),.k (.int .u8 (c1.toNat : Int)),.k (bv (!(decide ((c1.toNat : Int) = 47)))),.andn (gF (b := !(decide (0 < Un.nl t3))) (iNF iDT)) false (!(decide ((c1.toNat : Int) = 42))) (!(decide ((c1.toNat : Int) = 47))) p1 hp1,.or g0 false (!(decide (0 < Un.nl t3))) p1] fun _ _ G13 => ?_
      intro S_ s_
      refine V.cond (b := (!(decide (0 < Un.nl t3))) || p1) (iOT (iNT iDF) (iN hp1 (iAT (iNT iDF) (iNT iDF)))) (iOF (iNF iDT) (iN hp1 (iAF (iNF iDT) (iNF iDT)))) (by kernel_rfl) (fun q9 => ?_) (fun q10 => ?_)
      · have hbad : Un.items s = none := by rw [← hf1]; exact Un.itA_bad hrn (by rw [hgd]; rintro ⟨h1, h2⟩; have hqq := q9; rcases hqq with h | ⟨h3, h4⟩; exact h h1; rcases h2 with h2 | h2; exact h3 h2; exact h4 h2)
        refine V.g [.k (.slice none 0 0),.kb false] fun _ _ G14 => ?_
        intro S_ s_
        refine V.nilF (α := Ditem) ?_
        have e0 : ([] : List Ditem) = (Un.items s).getD [] := by rw [hbad]; rfl
        rw [← e0]
        have e1 : false = (Un.items s).isSome := by rw [hbad]; rfl
        exact V.ret [0, 0] [{}] [fun _ => {}] [] [0] [] (.tuple #[SV.v ({}), bv false]) (fun _ _ => by kernel_rfl) (fun _ _ => (Eq.trans (by kernel_rfl) (cong1 (fun (x1 : Bool) => (.tuple #[SV.v ({}), bv x1] : Value)) e1)).trans (by kernel_rfl)) (fun _ _ => trivial)
      have hgg : Un.good rest := by rw [hgd]; exact q10
      have hgp := (q10).1
      refine V.g [.k (.int .u8 (c1.toNat : Int)),.k (bv (decide ((c1.toNat : Int) = 47)))] fun _ _ G15 => ?_
      intro S_ s_
      refine V.cond (b := decide ((c1.toNat : Int) = 47)) iDT iDF (by kernel_rfl) (fun q11 => ?_) (fun q12 => ?_)
      · have hx : Ditem.mk t4 (-n1) = Un.itm ((bl rest).getD 0 default) t3 := by rw [hcd]; unfold Un.itm; rw [if_pos q11, ht4, hn1]
        refine V.g [.k (pp ((G12 7).b) 1),.ld 0 1 false (fun _ => [iv n1]),.ng n1 (-n1) rfl (by omega) (by omega),.k (pp ((G12 7).b) 1),.st 0 (fun _ => .blk ((G12 7).b) (ca (Ditem.mk t4 (-n1))) 80)] fun _ _ G16 => ?_
        intro S_ s_
        refine nm (out ++ ([Ditem.mk t4 (-n1)] : List Ditem) : List Ditem) fun l1 hl1 => ?_
        have hl1n := congrArg List.length hl1; try simp only [List.length_append, List.length_cons, List.length_nil, List.length_replicate, List.length_set, List.length_take, List.length_drop, List.length_map, List.length_reverse, List.length_range] at hl1n
        refine V.r [.k (outs.v),.ld 0 0 true (fun _ => Dat.cells (Ditem.mk t4 (-n1))),.nr 2 true 80 ([Ditem.mk t4 (-n1)] : List Ditem) [] (fun _ _ _ _ _ => trivial) (fun _ => #[tv t4, iv (-n1)]),.ap 3 1 80 24 false true out (fun _ => outs) (kf true (.g 2 0) ([Ditem.mk t4 (-n1)] : List Ditem) (fun G => ⟨atB (G 2).b, 1, 1⟩)) true l1 hl1 (by (try simp only [List.length_append, List.length_cons, List.length_nil, List.length_replicate, List.length_set, List.length_take, List.length_drop, List.length_map, List.length_reverse, List.length_range]); omega) (fun h => by cases h) (.inr fun _ _ => trivial),.k (tv t5),.v fun G => ((G 3).s).v,.k (tv t5)] fun _ _ G17 kw18 => ?_
        intro S_ s_
        obtain ⟨⟨kl2, -⟩, -⟩ : Lq ([Ditem.mk t4 (-n1)] : List Ditem) (SV.v ⟨atB (G17 2).b, 1, 1⟩) ∧ Lq l1 (((G17 3).s).v) ∧ True := kn kw18 (by kernel_rfl)
        clear kw18
        refine V.rnd hZ1 (l1, (G17 3).s, t5) [] (by kernel_rfl) ?_ ?_
        · refine ⟨?_, ?_⟩
          · show Un.itA l1 t5 = Un.items s
            rw [hl1, ht5]; exact (Un.itA_step hrn hgg ht3 hx).trans hf1
          show t5.size + l1.length ≤ 41
          omega
        show t5.size < rest.size
        rw [ht5]
        omega
      have hx : Ditem.mk t4 (n1) = Un.itm ((bl rest).getD 0 default) t3 := by rw [hcd]; unfold Un.itm; rw [if_neg q12, ht4, hn1]
      refine nm (out ++ ([Ditem.mk t4 n1] : List Ditem) : List Ditem) fun l2 hl2 => ?_
      have hl2n := congrArg List.length hl2; try simp only [List.length_append, List.length_cons, List.length_nil, List.length_replicate, List.length_set, List.length_take, List.length_drop, List.length_map, List.length_reverse, List.length_range] at hl2n
      refine V.r [.k (outs.v),.ld 0 0 true (fun _ => Dat.cells (Ditem.mk t4 n1)),.nr 2 true 80 ([Ditem.mk t4 n1] : List Ditem) [] (fun _ _ _ _ _ => trivial) (fun _ => #[tv t4, iv n1]),.ap 3 1 80 24 false true out (fun _ => outs) (kf true (.g 2 0) ([Ditem.mk t4 n1] : List Ditem) (fun G => ⟨atB (G 2).b, 1, 1⟩)) true l2 hl2 (by (try simp only [List.length_append, List.length_cons, List.length_nil, List.length_replicate, List.length_set, List.length_take, List.length_drop, List.length_map, List.length_reverse, List.length_range]); omega) (fun h => by cases h) (.inr fun _ _ => trivial),.k (tv t5),.v fun G => ((G 3).s).v,.k (tv t5)] fun _ _ G18 kw19 => ?_
      intro S_ s_
      obtain ⟨⟨kl3, -⟩, -⟩ : Lq ([Ditem.mk t4 n1] : List Ditem) (SV.v ⟨atB (G18 2).b, 1, 1⟩) ∧ Lq l2 (((G18 3).s).v) ∧ True := kn kw19 (by kernel_rfl)
      clear kw19
      refine V.rnd hZ1 (l2, (G18 3).s, t5) [] (by kernel_rfl) ?_ ?_
      · refine ⟨?_, ?_⟩
        · show Un.itA l2 t5 = Un.items s
          rw [hl2, ht5]; exact (Un.itA_step hrn hgg ht3 hx).trans hf1
        show t5.size + l2.length ≤ 41
        omega
      show t5.size < rest.size
      rw [ht5]
      omega
    have hfin := hf1.symm.trans (Un.itA_end q8)
    refine V.g [.k (outs.v),.k (outs.v),.kb true] fun _ _ G19 => ?_
    intro S_ s_
    refine V.frz 1 true 80 out outs (by kernel_rfl) ?_
    have e0 : out = (Un.items s).getD [] := by rw [hfin]; rfl
    subst e0
    have e1 : true = (Un.items s).isSome := by rw [hfin]; rfl
    exact V.ret [0, 0] [outs] [fun _ => {}] [] [0] [] (.tuple #[outs.v, bv true]) (fun _ _ => by kernel_rfl) (fun _ _ => (Eq.trans (by kernel_rfl) (cong1 (fun (x1 : Bool) => (.tuple #[outs.v, bv x1] : Value)) e1)).trans (by kernel_rfl)) (fun _ _ => trivial)
  refine V.on (α := Ditem) 1 80 (by kernel_rfl) ?_
  refine V.loop (γ := List Ditem × SV × ByteArray) (fun ⟨out_1, out_1s, rest_1⟩ => ⟨[(4, out_1s.v), (5, tv rest_1)], [], [.no, os true 80 out_1 out_1s]⟩) (fun ⟨out_1, out_1s, rest_1⟩ => (Un.itA out_1 rest_1 = Un.items s) ∧ (rest_1.size + out_1.length ≤ 41)) (fun ⟨out_1, out_1s, rest_1⟩ => rest_1.size) (([] : List Ditem), {}, t1) (by kernel_rfl) [] (by kernel_rfl) ?_ ?_
  · refine ⟨?_, ?_⟩
    · show Un.itA ([] : List Ditem) t1 = Un.items s
      exact ((Un.items_is hne (by omega)).trans (congrArg (Un.itA []) (by unfold Un.start; rw [ht1]; first | exact if_neg q6 | exact if_pos q6))).symm
    show t1.size + ([] : List Ditem).length ≤ 41
    show _ + 0 ≤ 41; first | (have := Dm.cpR_size (s := s) (p := ⟨#[49]⟩); rw [← ht1] at this; omega) | omega
  rintro ⟨out_1, out_1s, rest_1⟩ hF2 kw21 Z2 hZ2
  have hF2 : (Un.itA out_1 rest_1 = Un.items s) ∧ (rest_1.size + out_1.length ≤ 41) := hF2
  obtain ⟨hf3, hf4⟩ := hF2
  obtain ⟨⟨kl4, -⟩, -⟩ : Lq out_1 out_1s.v ∧ True := kn kw21 (by kernel_rfl)
  clear kw21
  refine V.g [.k (tv rest_1),.sne rest_1 ByteArray.empty] fun _ _ G20 => ?_
  intro S_ s_
  refine V.cond (b := !(decide (rest_1 = ByteArray.empty))) (iNT iDF) (iNF iDT) (by kernel_rfl) (fun q13 => ?_) (fun q14 => ?_)
  · have hrn : ¬ rest_1 = ByteArray.empty := q13
    have hrz := Dm.size_ne hrn
    refine nm ((bl rest_1).getD (0 : Int).toNat default : UInt8) fun c2 hc2 => ?_
    refine V.g [.k (tv rest_1),.sid g0 rest_1 (0 : Int) c2 hc2 (fun _ => ⟨by omega, by omega⟩),.k (.int .u8 (c2.toNat : Int))] fun _ _ G21 => ?_
    intro S_ s_
    have hcd : (bl rest_1).getD 0 default = c2 := hc2.symm
    refine nm (rest_1.extract (1 : Int).toNat (rest_1.size : Int).toNat : ByteArray) fun t6 ht6 => ?_
    have ht6n : t6.size = min (rest_1.size : Int).toNat rest_1.size - (1 : Int).toNat := by rw [ht6, ByteArray.size_extract]
    refine nm (Un.cuW t6 : ByteArray) fun t7 ht7 => ?_
    refine nm (Un.cuE t6 : Int) fun n2 hn2 => ?_
    refine nm (Un.cuR t6 : ByteArray) fun t8 ht8 => ?_
    refine V.g [.k (tv rest_1),.ssl g0 rest_1 (some (1 : Int)) none 1 (rest_1.size : Int) rfl rfl t6 ht6 (fun _ => ⟨by omega, by omega, by omega⟩),.cp g0 2 79 [] (fun _ G => ucut_ctv t6 (by omega) t7 ht7 n2 hn2 t8 ht8),.k (.tuple #[ag (Ditem.mk t7 n2), tv t8, bv (decide (0 < Un.nl t6))]),.k (ag (Ditem.mk t7 n2)),.k (tv t8),.k (bv (decide (0 < Un.nl t6))),.nb 7 0 (fun b => pp b 0) 80 (fun _ => ca (Ditem.mk ByteArray.empty 0)),.st 0 (fun G => .blk ((G 7).b) (ca (Ditem.mk t7 n2)) 80),.k (tv t8),.k (bv (decide (0 < Un.nl t6)))] fun _ _ G22 => ?_
    intro S_ s_
    have htd : rest_1.extract 1 rest_1.size = t6 := ht6.symm
    have hgd : Un.good rest_1 = (0 < Un.nl t6 ∧ ((c2.toNat : Int) = 42 ∨ (c2.toNat : Int) = 47)) := by unfold Un.good; rw [htd, hcd]
    have hcz := Un.cuR_size t6
    have hcz0 := Un.cuR_size t6
    have hce := Un.cuE_rg t6
    rw [← ht8] at hcz
    rw [← hn2] at hce
    refine nm ((!(decide ((c2.toNat : Int) = 42))) && (!(decide ((c2.toNat : Int) = 47))) : Bool) fun p2 hp2 => ?_
    refine V.g [.k (bv (decide (0 < Un.nl t6))),.k (bv (!(decide (0 < Un.nl t6)))),.k (bv (!(decide (0 < Un.nl t6)))),.k (.int .u8 (c2.toNat : Int)),.k (bv (!(decide ((c2.toNat : Int) = 42)))),.k (bv (!(decide ((c2.toNat : Int) = 42)))),.k (.int .u8 (c2.toNat : Int)),.k (bv (!(decide ((c2.toNat : Int) = 47)))),.andn (gF (b := !(decide (0 < Un.nl t6))) (iNF iDT)) false (!(decide ((c2.toNat : Int) = 42))) (!(decide ((c2.toNat : Int) = 47))) p2 hp2,.or g0 false (!(decide (0 < Un.nl t6))) p2] fun _ _ G23 => ?_
    intro S_ s_
    refine V.cond (b := (!(decide (0 < Un.nl t6))) || p2) (iOT (iNT iDF) (iN hp2 (iAT (iNT iDF) (iNT iDF)))) (iOF (iNF iDT) (iN hp2 (iAF (iNF iDT) (iNF iDT)))) (by kernel_rfl) (fun q15 => ?_) (fun q16 => ?_)
    · have hbad : Un.items s = none := by rw [← hf3]; exact Un.itA_bad hrn (by rw [hgd]; rintro ⟨h1, h2⟩; have hqq := q15; rcases hqq with h | ⟨h3, h4⟩; exact h h1; rcases h2 with h2 | h2; exact h3 h2; exact h4 h2)
      refine V.g [.k (.slice none 0 0),.kb false] fun _ _ G24 => ?_
      intro S_ s_
      refine V.nilF (α := Ditem) ?_
      have e0 : ([] : List Ditem) = (Un.items s).getD [] := by rw [hbad]; rfl
      rw [← e0]
      have e1 : false = (Un.items s).isSome := by rw [hbad]; rfl
      exact V.ret [0, 0] [{}] [fun _ => {}] [] [0] [] (.tuple #[SV.v ({}), bv false]) (fun _ _ => by kernel_rfl) (fun _ _ => (Eq.trans (by kernel_rfl) (cong1 (fun (x1 : Bool) => (.tuple #[SV.v ({}), bv x1] : Value)) e1)).trans (by kernel_rfl)) (fun _ _ => trivial)
    have hgg : Un.good rest_1 := by rw [hgd]; exact q16
    have hgp := (q16).1
    refine V.g [.k (.int .u8 (c2.toNat : Int)),.k (bv (decide ((c2.toNat : Int) = 47)))] fun _ _ G25 => ?_
    intro S_ s_
    refine V.cond (b := decide ((c2.toNat : Int) = 47)) iDT iDF (by kernel_rfl) (fun q17 => ?_) (fun q18 => ?_)
    · have hx : Ditem.mk t7 (-n2) = Un.itm ((bl rest_1).getD 0 default) t6 := by rw [hcd]; unfold Un.itm; rw [if_pos q17, ht7, hn2]
      refine V.g [.k (pp ((G22 7).b) 1),.ld 0 1 false (fun _ => [iv n2]),.ng n2 (-n2) rfl (by omega) (by omega),.k (pp ((G22 7).b) 1),.st 0 (fun _ => .blk ((G22 7).b) (ca (Ditem.mk t7 (-n2))) 80)] fun _ _ G26 => ?_
      intro S_ s_
      refine nm (out_1 ++ ([Ditem.mk t7 (-n2)] : List Ditem) : List Ditem) fun l3 hl3 => ?_
      have hl3n := congrArg List.length hl3; try simp only [List.length_append, List.length_cons, List.length_nil, List.length_replicate, List.length_set, List.length_take, List.length_drop, List.length_map, List.length_reverse, List.length_range] at hl3n
      refine V.r [.k (out_1s.v),.ld 0 0 true (fun _ => Dat.cells (Ditem.mk t7 (-n2))),.nr 2 true 80 ([Ditem.mk t7 (-n2)] : List Ditem) [] (fun _ _ _ _ _ => trivial) (fun _ => #[tv t7, iv (-n2)]),.ap 3 1 80 24 false true out_1 (fun _ => out_1s) (kf true (.g 2 0) ([Ditem.mk t7 (-n2)] : List Ditem) (fun G => ⟨atB (G 2).b, 1, 1⟩)) true l3 hl3 (by (try simp only [List.length_append, List.length_cons, List.length_nil, List.length_replicate, List.length_set, List.length_take, List.length_drop, List.length_map, List.length_reverse, List.length_range]); omega) (fun h => by cases h) (.inr fun _ _ => trivial),.k (tv t8),.v fun G => ((G 3).s).v,.k (tv t8)] fun _ _ G27 kw29 => ?_
      intro S_ s_
      obtain ⟨⟨kl5, -⟩, -⟩ : Lq ([Ditem.mk t7 (-n2)] : List Ditem) (SV.v ⟨atB (G27 2).b, 1, 1⟩) ∧ Lq l3 (((G27 3).s).v) ∧ True := kn kw29 (by kernel_rfl)
      clear kw29
      refine V.rnd hZ2 (l3, (G27 3).s, t8) [] (by kernel_rfl) ?_ ?_
      · refine ⟨?_, ?_⟩
        · show Un.itA l3 t8 = Un.items s
          rw [hl3, ht8]; exact (Un.itA_step hrn hgg ht6 hx).trans hf3
        show t8.size + l3.length ≤ 41
        omega
      show t8.size < rest_1.size
      rw [ht8]
      omega
    have hx : Ditem.mk t7 (n2) = Un.itm ((bl rest_1).getD 0 default) t6 := by rw [hcd]; unfold Un.itm; rw [if_neg q18, ht7, hn2]
    refine nm (out_1 ++ ([Ditem.mk t7 n2] : List Ditem) : List Ditem) fun l4 hl4 => ?_
    have hl4n := congrArg List.length hl4; try simp only [List.length_append, List.length_cons, List.length_nil, List.length_replicate, List.length_set, List.length_take, List.length_drop, List.length_map, List.length_reverse, List.length_range] at hl4n
    refine V.r [.k (out_1s.v),.ld 0 0 true (fun _ => Dat.cells (Ditem.mk t7 n2)),.nr 2 true 80 ([Ditem.mk t7 n2] : List Ditem) [] (fun _ _ _ _ _ => trivial) (fun _ => #[tv t7, iv n2]),.ap 3 1 80 24 false true out_1 (fun _ => out_1s) (kf true (.g 2 0) ([Ditem.mk t7 n2] : List Ditem) (fun G => ⟨atB (G 2).b, 1, 1⟩)) true l4 hl4 (by (try simp only [List.length_append, List.length_cons, List.length_nil, List.length_replicate, List.length_set, List.length_take, List.length_drop, List.length_map, List.length_reverse, List.length_range]); omega) (fun h => by cases h) (.inr fun _ _ => trivial),.k (tv t8),.v fun G => ((G 3).s).v,.k (tv t8)] fun _ _ G28 kw30 => ?_
    intro S_ s_
    obtain ⟨⟨kl6, -⟩, -⟩ : Lq ([Ditem.mk t7 n2] : List Ditem) (SV.v ⟨atB (G28 2).b, 1, 1⟩) ∧ Lq l4 (((G28 3).s).v) ∧ True := kn kw30 (by kernel_rfl)
    clear kw30
    refine V.rnd hZ2 (l4, (G28 3).s, t8) [] (by kernel_rfl) ?_ ?_
    · refine ⟨?_, ?_⟩
      · show Un.itA l4 t8 = Un.items s
        rw [hl4, ht8]; exact (Un.itA_step hrn hgg ht6 hx).trans hf3
      show t8.size + l4.length ≤ 41
      omega
    show t8.size < rest_1.size
    rw [ht8]
    omega
  have hfin := hf3.symm.trans (Un.itA_end q14)
  refine V.g [.k (out_1s.v),.k (out_1s.v),.kb true] fun _ _ G29 => ?_
  intro S_ s_
  refine V.frz 1 true 80 out_1 out_1s (by kernel_rfl) ?_
  have e0 : out_1 = (Un.items s).getD [] := by rw [hfin]; rfl
  subst e0
  have e1 : true = (Un.items s).isSome := by rw [hfin]; rfl
  exact V.ret [0, 0] [out_1s] [fun _ => {}] [] [0] [] (.tuple #[out_1s.v, bv true]) (fun _ _ => by kernel_rfl) (fun _ _ => (Eq.trans (by kernel_rfl) (cong1 (fun (x1 : Bool) => (.tuple #[out_1s.v, bv x1] : Value)) e1)).trans (by kernel_rfl)) (fun _ _ => trivial)
theorem uitems_ctv (s : ByteArray) (hs : s.size ≤ 1000000) (rv0 : List Ditem) (erv0 : rv0 = (Un.items s).getD []) :
    Ct Try.prog 45 #[tv s] [] [] (fun g => .tuple #[((g.ss 0)).v, bv ((Un.items s).isSome)]) (fun g => [fs true rv0 (g.ss 0)]) (fun g => []) (fun g => []) := by
  subst erv0; exact uitems_ct s hs

open Go
theorem V.unrollL {P : Program} {E : Env P} {S : Stop} {t : St} (n : Nat) (hk : S = .loop S.x S.K) (k : let L := S; V E (norm 200 (.inl L.x) (.rndN L.x n :: L.K)) t) : V E S t := V.unroll n hk k
theorem V.againL {P : Program} {E : Env P} (L : Stop) {S : Stop} {t : St} (n : Nat) (hk : S = .rndN L.x (n + 1) L.K) (k : V E (norm 200 (.inl L.x) (.rndN L.x n :: L.K)) t) : V E S t := fun N ε a w hin => by
  rw [hk]
  exact norm_sound 200 (.inl L.x) (.rndN L.x n :: L.K) a w (k N ε a w hin)

open Go Go.Proofs
set_option maxRecDepth 10000 in
set_option maxHeartbeats 4000000 in
theorem uread_ct (s : ByteArray) (hs : s.size ≤ 1000000) :
    Ct Try.prog 13 #[tv s] [] [] (fun g => .tuple #[.agg #[iv (Un.dv ((Un.read s).1) 0), iv (Un.dv ((Un.read s).1) 1), iv (Un.dv ((Un.read s).1) 2), iv (Un.dv ((Un.read s).1) 3), iv (Un.dv ((Un.read s).1) 4), iv (Un.dv ((Un.read s).1) 5), iv (Fr.rS (((Un.read s).1).isSome = true) (Un.fv ((Un.read s).1))), ((g.ss 0)).v, iv (Fr.rT (((Un.read s).1).isSome = true)), ((g.ss 1)).v], iv ((Un.read s).2)]) (fun g => [fs true (Fr.rD (((Un.read s).1).isSome = true) (Un.fv ((Un.read s).1))) (g.ss 0), fs true (Fr.rE (((Un.read s).1).isSome = true) (Un.fv ((Un.read s).1))) (g.ss 1)]) (fun g => []) (fun g => []) := by
  refine V.fn mo Try.func13 71 4 (by kernel_rfl) fun w H ε k0 => ?_
  clear k0
  refine V.g [.nb 0 0 (fun b => pp b 0) 32 (fun _ => #[iv 0, iv 0, iv 0, iv 0, iv 0, iv 0, iv 0, .slice none 0 0, iv 0, .slice none 0 0]),.k (iv 0)] fun _ _ G1 => ?_
  intro S_ s_
  refine nm ((Un.items s).getD [] : List Ditem) fun l1 hl1 => ?_
  have hl1n := congrArg List.length hl1
  refine V.r [.k (tv s),.ct g0 1 45 false [] [] [] (fun _ G => uitems_ctv s (by omega) l1 hl1),.v fun G => .tuple #[((G 1).ss 0).v, bv ((Un.items s).isSome)],.v fun G => ((G 1).ss 0).v,.k (bv ((Un.items s).isSome)),.v fun G => ((G 1).ss 0).v,.k (bv ((Un.items s).isSome))] fun _ _ G2 kw2 => ?_
  intro S_ s_
  obtain ⟨⟨kl1, -⟩, -⟩ : Lq l1 (((G2 1).ss 0).v) ∧ True := kn kw2 (by kernel_rfl)
  clear kw2
  refine V.g [.k (bv ((Un.items s).isSome)),.k (bv (!((Un.items s).isSome)))] fun _ _ G3 => ?_
  intro S_ s_
  refine V.cond (b := !((Un.items s).isSome)) (iNT Iff.rfl) (iNF Iff.rfl) (by kernel_rfl) (fun q1 => ?_) (fun q2 => ?_)
  · have hrd := Un.read_syn (s := s) (by have hqq := q1; simpa using hqq)
    refine V.g [.k (.agg #[iv 0, iv 0, iv 0, iv 0, iv 0, iv 0, iv 0, .slice none 0 0, iv 0, .slice none 0 0]),.st 0 (fun _ => .blk ((G1 0).b) #[iv 0, iv 0, iv 0, iv 0, iv 0, iv 0, iv 0, .slice none 0 0, iv 0, .slice none 0 0] 32),.k (iv 12)] fun _ _ G4 => ?_
    intro S_ s_
    refine V.nilF (α := Int) ?_
    refine V.nilF (α := Int) ?_
    have e7 : ([] : List Int) = Fr.rD (((Un.read s).1).isSome = true) (Un.fv ((Un.read s).1)) := (Fr.Fz.no (Un.is_n (by rw [hrd])) (Un.fv (Un.read s).1)).2.1
    rw [← e7]
    have e9 : ([] : List Int) = Fr.rE (((Un.read s).1).isSome = true) (Un.fv ((Un.read s).1)) := (Fr.Fz.no (Un.is_n (by rw [hrd])) (Un.fv (Un.read s).1)).2.2.2
    rw [← e9]
    have e0 : (0 : Int) = Un.dv ((Un.read s).1) 0 := (Un.dv_n (by rw [hrd]) 0).symm
    have e1 : (0 : Int) = Un.dv ((Un.read s).1) 1 := (Un.dv_n (by rw [hrd]) 1).symm
    have e2 : (0 : Int) = Un.dv ((Un.read s).1) 2 := (Un.dv_n (by rw [hrd]) 2).symm
    have e3 : (0 : Int) = Un.dv ((Un.read s).1) 3 := (Un.dv_n (by rw [hrd]) 3).symm
    have e4 : (0 : Int) = Un.dv ((Un.read s).1) 4 := (Un.dv_n (by rw [hrd]) 4).symm
    have e5 : (0 : Int) = Un.dv ((Un.read s).1) 5 := (Un.dv_n (by rw [hrd]) 5).symm
    have e6 : (0 : Int) = Fr.rS (((Un.read s).1).isSome = true) (Un.fv ((Un.read s).1)) := (Fr.Fz.no (Un.is_n (by rw [hrd])) (Un.fv (Un.read s).1)).1
    have e8 : (0 : Int) = Fr.rT (((Un.read s).1).isSome = true) := (Fr.Fz.no (Un.is_n (by rw [hrd])) (Un.fv (Un.read s).1)).2.2.1
    have e10 : (12 : Int) = (Un.read s).2 := by rw [hrd]
    exact V.ret [0, 0] [{}, {}] [fun _ => {}, fun _ => {}] [] [1, 2] [] (.tuple #[.agg #[iv 0, iv 0, iv 0, iv 0, iv 0, iv 0, iv 0, SV.v ({}), iv 0, SV.v ({})], iv 12]) (fun _ _ => by kernel_rfl) (fun _ _ => (Eq.trans (by kernel_rfl) (cong9 (fun (x0 : Int) (x1 : Int) (x2 : Int) (x3 : Int) (x4 : Int) (x5 : Int) (x6 : Int) (x8 : Int) (x10 : Int) => (.tuple #[.agg #[iv x0, iv x1, iv x2, iv x3, iv x4, iv x5, iv x6, SV.v ({}), iv x8, SV.v ({})], iv x10] : Value)) e0 e1 e2 e3 e4 e5 e6 e8 e10)).trans (by kernel_rfl)) (fun _ _ => trivial)
  have hsm : (Un.items s).isSome = true := by have hqq := q2; first | exact hqq | simpa using hqq
  have hie : Un.items s = some l1 := by rw [hl1]; exact Un.its hsm
  have hio := Un.items_ok hie
  have hil := hio.1
  refine nm (Bg.sgn (1 : Int) : Int) fun n1 hn1 => ?_
  refine nm (Bg.dig (1 : Int).natAbs : List Int) fun l2 hl2 => ?_
  have hl2n := congrArg List.length hl2
  refine nm (Bg.dig 1 : List Int) fun l3 hl3 => ?_
  have hl3n := congrArg List.length hl3
  refine V.r [.ct g0 0 46 false [] [] [] (fun _ G => fint_ctv (1 : Int) (by omega) n1 hn1 l2 hl2 l3 hl3),.v fun G => .agg #[iv 0, iv 0, iv 0, iv 0, iv 0, iv 0, iv n1, ((G 0).ss 0).v, iv 1, ((G 0).ss 1).v],.nb 2 1 (fun b => pp b 0) 32 (fun _ => #[iv 0, iv 0, iv 0, iv 0, iv 0, iv 0, iv 0, .slice none 0 0, iv 0, .slice none 0 0]),.st 1 (fun G => .blk ((G 2).b) #[iv 0, iv 0, iv 0, iv 0, iv 0, iv 0, iv n1, ((G 0).ss 0).v, iv 1, ((G 0).ss 1).v] 32)] fun _ _ G5 kw5 => ?_
  intro S_ s_
  obtain ⟨⟨kl2, -⟩, ⟨kl3, -⟩, -⟩ : Lq l2 (((G5 0).ss 0).v) ∧ Lq l3 (((G5 0).ss 1).v) ∧ True := kn kw5 (by kernel_rfl)
  clear kw5
  refine V.g [.k (((G2 1).ss 0).v),.ln (kf true (.f 0) l1 (fun _ => (G2 1).ss 0)),.k (iv 0)] fun _ _ G6 => ?_
  intro S_ s_
  refine V.loop (γ := Int × Int × Int × Int × Int × Int × Int × Int × List Int × SV × Int × List Int × SV) (fun ⟨k0, out_0, out_1, out_2, out_3, out_4, out_5, out_6, out_7, out_7s, out_8, out_9, out_9s⟩ => ⟨[(2, pp ((G1 0).b) 0), (6, pp ((G5 2).b) 0), (23, ((G2 1).ss 0).v), (24, iv (l1.length : Int)), (25, iv k0)], [fs true l1 ((G2 1).ss 0), fs true out_7 out_7s, fs true out_9 out_9s], [.blk ((G1 0).b) #[iv 0, iv 0, iv 0, iv 0, iv 0, iv 0, iv 0, .slice none 0 0, iv 0, .slice none 0 0] 32, .blk ((G5 2).b) #[iv out_0, iv out_1, iv out_2, iv out_3, iv out_4, iv out_5, iv out_6, out_7s.v, iv out_8, out_9s.v] 32, .no, .no]⟩) (fun ⟨k0, out_0, out_1, out_2, out_3, out_4, out_5, out_6, out_7, out_7s, out_8, out_9, out_9s⟩ => (0 ≤ k0) ∧ (k0 ≤ (l1.length : Int)) ∧ (Un.acc (l1.drop k0.toNat) ([out_0, out_1, out_2, out_3, out_4, out_5], (Fr.fq out_6 out_7 out_9)) = Un.acc l1 ([0, 0, 0, 0, 0, 0], 1)) ∧ (Fr.FrB out_6 out_7 out_8 out_9) ∧ (Un.R27 k0 out_0) ∧ (Un.R27 k0 out_1) ∧ (Un.R27 k0 out_2) ∧ (Un.R27 k0 out_3) ∧ (Un.R27 k0 out_4) ∧ (Un.R27 k0 out_5) ∧ (out_7.length ≤ 1 + 36 * k0.toNat ∧ out_9.length ≤ 1 + 36 * k0.toNat)) (fun ⟨k0, out_0, out_1, out_2, out_3, out_4, out_5, out_6, out_7, out_7s, out_8, out_9, out_9s⟩ => ((l1.length : Int) - k0).toNat) (0, 0, 0, 0, 0, 0, 0, n1, l2, (G5 0).ss 0, 1, l3, (G5 0).ss 1) (by kernel_rfl) [0, 1, 2] (by kernel_rfl) ?_ ?_
  · refine ⟨?_, ?_, ?_, ?_, ?_, ?_, ?_, ?_, ?_, ?_, ?_⟩
    · show 0 ≤ (0 : Int)
      first | omega | rfl | (simp; done) | (subst_vars; simp; done)
    · show (0 : Int) ≤ (l1.length : Int)
      first | omega | rfl | (simp; done) | (subst_vars; simp; done)
    · show Un.acc (l1.drop (0 : Int).toNat) ([(0 : Int), (0 : Int), (0 : Int), (0 : Int), (0 : Int), (0 : Int)], (Fr.fq n1 l2 l3)) = Un.acc l1 ([0, 0, 0, 0, 0, 0], 1)
      rw [hn1, hl2, hl3]
      show Un.acc l1 ([0, 0, 0, 0, 0, 0], Fr.fq (Bg.sgn (1 : Rat).num) (Bg.dig (1 : Rat).num.natAbs) (Bg.dig (1 : Rat).den)) = _; rw [Fr.fq_of]
    · show Fr.FrB n1 l2 (1 : Int) l3
      rw [hn1, hl2, hl3]; exact Fr.FrB.of 1
    · show Un.R27 (0 : Int) (0 : Int)
      exact Un.R27.zero
    · show Un.R27 (0 : Int) (0 : Int)
      exact Un.R27.zero
    · show Un.R27 (0 : Int) (0 : Int)
      exact Un.R27.zero
    · show Un.R27 (0 : Int) (0 : Int)
      exact Un.R27.zero
    · show Un.R27 (0 : Int) (0 : Int)
      exact Un.R27.zero
    · show Un.R27 (0 : Int) (0 : Int)
      exact Un.R27.zero
    show l2.length ≤ 1 + 36 * (0 : Int).toNat ∧ l3.length ≤ 1 + 36 * (0 : Int).toNat
    subst_vars; exact ⟨Bg.dig_lt (k := 1) (by decide), Bg.dig_lt (k := 1) (by decide)⟩
  rintro ⟨k0, out_0, out_1, out_2, out_3, out_4, out_5, out_6, out_7, out_7s, out_8, out_9, out_9s⟩ hF1 kw7 Z1 hZ1
  have hF1 : (0 ≤ k0) ∧ (k0 ≤ (l1.length : Int)) ∧ (Un.acc (l1.drop k0.toNat) ([out_0, out_1, out_2, out_3, out_4, out_5], (Fr.fq out_6 out_7 out_9)) = Un.acc l1 ([0, 0, 0, 0, 0, 0], 1)) ∧ (Fr.FrB out_6 out_7 out_8 out_9) ∧ (Un.R27 k0 out_0) ∧ (Un.R27 k0 out_1) ∧ (Un.R27 k0 out_2) ∧ (Un.R27 k0 out_3) ∧ (Un.R27 k0 out_4) ∧ (Un.R27 k0 out_5) ∧ (out_7.length ≤ 1 + 36 * k0.toNat ∧ out_9.length ≤ 1 + 36 * k0.toNat) := hF1
  obtain ⟨hf1, hf2, hf3, hf4, hf5, hf6, hf7, hf8, hf9, hf10, hf11⟩ := hF1
  obtain ⟨-, ⟨kl4, -⟩, ⟨kl5, -⟩, -⟩ : Lq l1 (((G2 1).ss 0).v) ∧ Lq out_7 out_7s.v ∧ Lq out_9 out_9s.v ∧ True := kn kw7 (by kernel_rfl)
  clear kw7
  refine V.g [.k (bv (decide (k0 < (l1.length : Int))))] fun _ _ G7 => ?_
  intro S_ s_
  refine V.cond (b := decide (k0 < (l1.length : Int))) iDT iDF (by kernel_rfl) (fun q3 => ?_) (fun q4 => ?_)
  · refine nm (l1.getD k0.toNat default : Ditem) fun x1 hx1 => ?_
    refine V.g [.ix g0 (kf true (.f 0) l1 (fun _ => (G2 1).ss 0)) k0 (fun _ => ⟨by omega, by omega⟩),.le g0 (kf true (.f 0) l1 (fun _ => (G2 1).ss 0)) k0 none false x1 hx1 (fun _ => ⟨by omega, by omega⟩) true (fun _ => Dat.cells x1),.nb 2 2 (fun b => pp b 0) 80 (fun _ => ca (Ditem.mk ByteArray.empty 0)),.st 2 (fun G => .blk ((G 2).b) (ca x1) 80)] fun _ _ G8 => ?_
    intro S_ s_
    have hxm := getD_mem (l := l1) (k := k0.toNat) (by omega) hx1
    have hxo := hio.2 _ hxm
    have hxo1 := hxo.1; have hxo2 := hxo.2.1; have hxo3 := hxo.2.2
    refine nm (Un.dv (Un.word x1.word) 0 : Int) fun n2 hn2 => ?_
    refine nm (Un.dv (Un.word x1.word) 1 : Int) fun n3 hn3 => ?_
    refine nm (Un.dv (Un.word x1.word) 2 : Int) fun n4 hn4 => ?_
    refine nm (Un.dv (Un.word x1.word) 3 : Int) fun n5 hn5 => ?_
    refine nm (Un.dv (Un.word x1.word) 4 : Int) fun n6 hn6 => ?_
    refine nm (Un.dv (Un.word x1.word) 5 : Int) fun n7 hn7 => ?_
    refine nm (Fr.rS ((Un.word x1.word).isSome = true) (Un.fv (Un.word x1.word)) : Int) fun n8 hn8 => ?_
    refine nm (Fr.rD ((Un.word x1.word).isSome = true) (Un.fv (Un.word x1.word)) : List Int) fun l4 hl4 => ?_
    have hl4n := congrArg List.length hl4
    refine nm (Fr.rT ((Un.word x1.word).isSome = true) : Int) fun n9 hn9 => ?_
    refine nm (Fr.rE ((Un.word x1.word).isSome = true) (Un.fv (Un.word x1.word)) : List Int) fun l5 hl5 => ?_
    have hl5n := congrArg List.length hl5
    refine V.r [.k (pp ((G8 2).b) 0),.ld 2 0 false (fun _ => [tv x1.word]),.ct g0 2 47 false [] [] [] (fun _ G => uword_ctv x1.word (by omega) n2 hn2 n3 hn3 n4 hn4 n5 hn5 n6 hn6 n7 hn7 n8 hn8 l4 hl4 n9 hn9 l5 hl5),.v fun G => .tuple #[.agg #[iv n2, iv n3, iv n4, iv n5, iv n6, iv n7, iv n8, ((G 2).ss 0).v, iv n9, ((G 2).ss 1).v], bv ((Un.word x1.word).isSome)],.v fun G => .agg #[iv n2, iv n3, iv n4, iv n5, iv n6, iv n7, iv n8, ((G 2).ss 0).v, iv n9, ((G 2).ss 1).v],.k (bv ((Un.word x1.word).isSome)),.nb 6 3 (fun b => pp b 0) 32 (fun _ => #[iv 0, iv 0, iv 0, iv 0, iv 0, iv 0, iv 0, .slice none 0 0, iv 0, .slice none 0 0]),.st 3 (fun G => .blk ((G 6).b) #[iv n2, iv n3, iv n4, iv n5, iv n6, iv n7, iv n8, ((G 2).ss 0).v, iv n9, ((G 2).ss 1).v] 32),.k (bv ((Un.word x1.word).isSome))] fun _ _ G9 kw10 => ?_
    intro S_ s_
    obtain ⟨⟨kl6, -⟩, ⟨kl7, -⟩, -⟩ : Lq l4 (((G9 2).ss 0).v) ∧ Lq l5 (((G9 2).ss 1).v) ∧ True := kn kw10 (by kernel_rfl)
    clear kw10
    have hk41 : 0 ≤ k0 ∧ k0 ≤ 41 := ⟨by omega, by omega⟩
    refine V.g [.k (bv ((Un.word x1.word).isSome)),.k (bv (!((Un.word x1.word).isSome)))] fun _ _ G10 => ?_
    intro S_ s_
    refine V.cond (b := !((Un.word x1.word).isSome)) (iNT Iff.rfl) (iNF Iff.rfl) (by kernel_rfl) (fun q5 => ?_) (fun q6 => ?_)
    · have hrd := Un.read_nam hsm (by rw [← hl1, ← hf3, Un.acc_drop (by omega), ← hx1, if_neg (by have hqq := q5; simpa using hqq)])
      refine V.g [.k (.agg #[iv 0, iv 0, iv 0, iv 0, iv 0, iv 0, iv 0, .slice none 0 0, iv 0, .slice none 0 0]),.st 0 (fun _ => .blk ((G1 0).b) #[iv 0, iv 0, iv 0, iv 0, iv 0, iv 0, iv 0, .slice none 0 0, iv 0, .slice none 0 0] 32),.k (iv 11)] fun _ _ G11 => ?_
      intro S_ s_
      refine V.nilF (α := Int) ?_
      refine V.nilF (α := Int) ?_
      have e7 : ([] : List Int) = Fr.rD (((Un.read s).1).isSome = true) (Un.fv ((Un.read s).1)) := (Fr.Fz.no (Un.is_n (by rw [hrd])) (Un.fv (Un.read s).1)).2.1
      rw [← e7]
      have e9 : ([] : List Int) = Fr.rE (((Un.read s).1).isSome = true) (Un.fv ((Un.read s).1)) := (Fr.Fz.no (Un.is_n (by rw [hrd])) (Un.fv (Un.read s).1)).2.2.2
      rw [← e9]
      have e0 : (0 : Int) = Un.dv ((Un.read s).1) 0 := (Un.dv_n (by rw [hrd]) 0).symm
      have e1 : (0 : Int) = Un.dv ((Un.read s).1) 1 := (Un.dv_n (by rw [hrd]) 1).symm
      have e2 : (0 : Int) = Un.dv ((Un.read s).1) 2 := (Un.dv_n (by rw [hrd]) 2).symm
      have e3 : (0 : Int) = Un.dv ((Un.read s).1) 3 := (Un.dv_n (by rw [hrd]) 3).symm
      have e4 : (0 : Int) = Un.dv ((Un.read s).1) 4 := (Un.dv_n (by rw [hrd]) 4).symm
      have e5 : (0 : Int) = Un.dv ((Un.read s).1) 5 := (Un.dv_n (by rw [hrd]) 5).symm
      have e6 : (0 : Int) = Fr.rS (((Un.read s).1).isSome = true) (Un.fv ((Un.read s).1)) := (Fr.Fz.no (Un.is_n (by rw [hrd])) (Un.fv (Un.read s).1)).1
      have e8 : (0 : Int) = Fr.rT (((Un.read s).1).isSome = true) := (Fr.Fz.no (Un.is_n (by rw [hrd])) (Un.fv (Un.read s).1)).2.2.1
      have e10 : (11 : Int) = (Un.read s).2 := by rw [hrd]
      exact V.ret [0, 0] [{}, {}] [fun _ => {}, fun _ => {}] [] [5, 6] [] (.tuple #[.agg #[iv 0, iv 0, iv 0, iv 0, iv 0, iv 0, iv 0, SV.v ({}), iv 0, SV.v ({})], iv 11]) (fun _ _ => by kernel_rfl) (fun _ _ => (Eq.trans (by kernel_rfl) (cong9 (fun (x0 : Int) (x1 : Int) (x2 : Int) (x3 : Int) (x4 : Int) (x5 : Int) (x6 : Int) (x8 : Int) (x10 : Int) => (.tuple #[.agg #[iv x0, iv x1, iv x2, iv x3, iv x4, iv x5, iv x6, SV.v ({}), iv x8, SV.v ({})], iv x10] : Value)) e0 e1 e2 e3 e4 e5 e6 e8 e10)).trans (by kernel_rfl)) (fun _ _ => trivial)
    have hws : (Un.word x1.word).isSome = true := by have hqq := q6; first | exact hqq | simpa using hqq
    have zw := Fr.Fz.of hws hn8 hl4 hn9 hl5
    have hwo := Un.word_ok (Un.some_of hws)
    have hzw := zw.len hwo.2.2.2
    have hzw1 := hzw.1; have hzw2 := hzw.2
    have hw0 : n8 ≠ 0 := by have := (Fr.sgn_num (r := Un.fv (Un.word x1.word))).2.2.2 hwo.2.2.1; rw [← zw.eqs.1] at this; omega
    refine V.g [.k (pp ((G9 6).b) 0),.ld 3 0 true (fun _ => [iv n2, iv n3, iv n4, iv n5, iv n6, iv n7]),.k (iv 0)] fun _ _ G12 => ?_
    intro S_ s_
    refine V.unrollL 99 (by kernel_rfl) ?_
    intro L_1
    refine V.g [.kb true] fun _ _ G13 => ?_
    intro S_ s_
    refine V.condT (by kernel_rfl) ?_
    refine V.g [.k (iv 0),.k (iv n2),.k (iv 0),.k (iv n2)] fun _ _ G14 => ?_
    intro S_ s_
    refine nm (n2 * x1.exp : Int) fun n10 hn10 => ?_
    refine V.g [.k (iv 0),.k (pp ((G5 2).b) 0),.k (pp ((G5 2).b) 0),.ld 1 0 false (fun _ => [iv out_0]),.k (iv n2),.k (pp ((G8 2).b) 1),.ld 2 1 false (fun _ => [iv x1.exp]),.ar (n2 * x1.exp) n10 hn10 (Un.R27.r64 (.mul (by rw [hn2]; exact Un.word_rg x1.word 0) ⟨hxo2, hxo3⟩ hn10)).1 (Un.R27.r64 (.mul (by rw [hn2]; exact Un.word_rg x1.word 0) ⟨hxo2, hxo3⟩ hn10)).2,.a (out_0 + n10) (Un.R27.a64 hf5 (.mul (by rw [hn2]; exact Un.word_rg x1.word 0) ⟨hxo2, hxo3⟩ hn10) hk41).1 (Un.R27.a64 hf5 (.mul (by rw [hn2]; exact Un.word_rg x1.word 0) ⟨hxo2, hxo3⟩ hn10) hk41).2,.k (pp ((G5 2).b) 0),.k (pp ((G5 2).b) 0),.st 1 (fun _ => .blk ((G5 2).b) #[iv (out_0 + n10), iv out_1, iv out_2, iv out_3, iv out_4, iv out_5, iv out_6, out_7s.v, iv out_8, out_9s.v] 32)] fun _ _ G15 => ?_
    intro S_ s_
    refine V.g [.k (iv 1),.k (iv 1)] fun _ _ G16 => ?_
    intro S_ s_
    refine V.againL L_1 98 (by kernel_rfl) ?_
    refine V.g [.kb true] fun _ _ G17 => ?_
    intro S_ s_
    refine V.condT (by kernel_rfl) ?_
    refine V.g [.k (iv 1),.k (iv n3),.k (iv 1),.k (iv n3)] fun _ _ G18 => ?_
    intro S_ s_
    refine nm (n3 * x1.exp : Int) fun n11 hn11 => ?_
    refine V.g [.k (iv 1),.k (pp ((G5 2).b) 0),.k (pp ((G5 2).b) 1),.ld 1 1 false (fun _ => [iv out_1]),.k (iv n3),.k (pp ((G8 2).b) 1),.ld 2 1 false (fun _ => [iv x1.exp]),.ar (n3 * x1.exp) n11 hn11 (Un.R27.r64 (.mul (by rw [hn3]; exact Un.word_rg x1.word 1) ⟨hxo2, hxo3⟩ hn11)).1 (Un.R27.r64 (.mul (by rw [hn3]; exact Un.word_rg x1.word 1) ⟨hxo2, hxo3⟩ hn11)).2,.a (out_1 + n11) (Un.R27.a64 hf6 (.mul (by rw [hn3]; exact Un.word_rg x1.word 1) ⟨hxo2, hxo3⟩ hn11) hk41).1 (Un.R27.a64 hf6 (.mul (by rw [hn3]; exact Un.word_rg x1.word 1) ⟨hxo2, hxo3⟩ hn11) hk41).2,.k (pp ((G5 2).b) 0),.k (pp ((G5 2).b) 1),.st 1 (fun _ => .blk ((G5 2).b) #[iv (out_0 + n10), iv (out_1 + n11), iv out_2, iv out_3, iv out_4, iv out_5, iv out_6, out_7s.v, iv out_8, out_9s.v] 32)] fun _ _ G19 => ?_
    intro S_ s_
    refine V.g [.k (iv 2),.k (iv 2)] fun _ _ G20 => ?_
    intro S_ s_
    refine V.againL L_1 97 (by kernel_rfl) ?_
    refine V.g [.kb true] fun _ _ G21 => ?_
    intro S_ s_
    refine V.condT (by kernel_rfl) ?_
    refine V.g [.k (iv 2),.k (iv n4),.k (iv 2),.k (iv n4)] fun _ _ G22 => ?_
    intro S_ s_
    refine nm (n4 * x1.exp : Int) fun n12 hn12 => ?_
    refine V.g [.k (iv 2),.k (pp ((G5 2).b) 0),.k (pp ((G5 2).b) 2),.ld 1 2 false (fun _ => [iv out_2]),.k (iv n4),.k (pp ((G8 2).b) 1),.ld 2 1 false (fun _ => [iv x1.exp]),.ar (n4 * x1.exp) n12 hn12 (Un.R27.r64 (.mul (by rw [hn4]; exact Un.word_rg x1.word 2) ⟨hxo2, hxo3⟩ hn12)).1 (Un.R27.r64 (.mul (by rw [hn4]; exact Un.word_rg x1.word 2) ⟨hxo2, hxo3⟩ hn12)).2,.a (out_2 + n12) (Un.R27.a64 hf7 (.mul (by rw [hn4]; exact Un.word_rg x1.word 2) ⟨hxo2, hxo3⟩ hn12) hk41).1 (Un.R27.a64 hf7 (.mul (by rw [hn4]; exact Un.word_rg x1.word 2) ⟨hxo2, hxo3⟩ hn12) hk41).2,.k (pp ((G5 2).b) 0),.k (pp ((G5 2).b) 2),.st 1 (fun _ => .blk ((G5 2).b) #[iv (out_0 + n10), iv (out_1 + n11), iv (out_2 + n12), iv out_3, iv out_4, iv out_5, iv out_6, out_7s.v, iv out_8, out_9s.v] 32)] fun _ _ G23 => ?_
    intro S_ s_
    refine V.g [.k (iv 3),.k (iv 3)] fun _ _ G24 => ?_
    intro S_ s_
    refine V.againL L_1 96 (by kernel_rfl) ?_
    refine V.g [.kb true] fun _ _ G25 => ?_
    intro S_ s_
    refine V.condT (by kernel_rfl) ?_
    refine V.g [.k (iv 3),.k (iv n5),.k (iv 3),.k (iv n5)] fun _ _ G26 => ?_
    intro S_ s_
    refine nm (n5 * x1.exp : Int) fun n13 hn13 => ?_
    refine V.g [.k (iv 3),.k (pp ((G5 2).b) 0),.k (pp ((G5 2).b) 3),.ld 1 3 false (fun _ => [iv out_3]),.k (iv n5),.k (pp ((G8 2).b) 1),.ld 2 1 false (fun _ => [iv x1.exp]),.ar (n5 * x1.exp) n13 hn13 (Un.R27.r64 (.mul (by rw [hn5]; exact Un.word_rg x1.word 3) ⟨hxo2, hxo3⟩ hn13)).1 (Un.R27.r64 (.mul (by rw [hn5]; exact Un.word_rg x1.word 3) ⟨hxo2, hxo3⟩ hn13)).2,.a (out_3 + n13) (Un.R27.a64 hf8 (.mul (by rw [hn5]; exact Un.word_rg x1.word 3) ⟨hxo2, hxo3⟩ hn13) hk41).1 (Un.R27.a64 hf8 (.mul (by rw [hn5]; exact Un.word_rg x1.word 3) ⟨hxo2, hxo3⟩ hn13) hk41).2,.k (pp ((G5 2).b) 0),.k (pp ((G5 2).b) 3),.st 1 (fun _ => .blk ((G5 2).b) #[iv (out_0 + n10), iv (out_1 + n11), iv (out_2 + n12), iv (out_3 + n13), iv out_4, iv out_5, iv out_6, out_7s.v, iv out_8, out_9s.v] 32)] fun _ _ G27 => ?_
    intro S_ s_
    refine V.g [.k (iv 4),.k (iv 4)] fun _ _ G28 => ?_
    intro S_ s_
    refine V.againL L_1 95 (by kernel_rfl) ?_
    refine V.g [.kb true] fun _ _ G29 => ?_
    intro S_ s_
    refine V.condT (by kernel_rfl) ?_
    refine V.g [.k (iv 4),.k (iv n6),.k (iv 4),.k (iv n6)] fun _ _ G30 => ?_
    intro S_ s_
    refine nm (n6 * x1.exp : Int) fun n14 hn14 => ?_
    refine V.g [.k (iv 4),.k (pp ((G5 2).b) 0),.k (pp ((G5 2).b) 4),.ld 1 4 false (fun _ => [iv out_4]),.k (iv n6),.k (pp ((G8 2).b) 1),.ld 2 1 false (fun _ => [iv x1.exp]),.ar (n6 * x1.exp) n14 hn14 (Un.R27.r64 (.mul (by rw [hn6]; exact Un.word_rg x1.word 4) ⟨hxo2, hxo3⟩ hn14)).1 (Un.R27.r64 (.mul (by rw [hn6]; exact Un.word_rg x1.word 4) ⟨hxo2, hxo3⟩ hn14)).2,.a (out_4 + n14) (Un.R27.a64 hf9 (.mul (by rw [hn6]; exact Un.word_rg x1.word 4) ⟨hxo2, hxo3⟩ hn14) hk41).1 (Un.R27.a64 hf9 (.mul (by rw [hn6]; exact Un.word_rg x1.word 4) ⟨hxo2, hxo3⟩ hn14) hk41).2,.k (pp ((G5 2).b) 0),.k (pp ((G5 2).b) 4),.st 1 (fun _ => .blk ((G5 2).b) #[iv (out_0 + n10), iv (out_1 + n11), iv (out_2 + n12), iv (out_3 + n13), iv (out_4 + n14), iv out_5, iv out_6, out_7s.v, iv out_8, out_9s.v] 32)] fun _ _ G31 => ?_
    intro S_ s_
    refine V.g [.k (iv 5),.k (iv 5)] fun _ _ G32 => ?_
    intro S_ s_
    refine V.againL L_1 94 (by kernel_rfl) ?_
    refine V.g [.kb true] fun _ _ G33 => ?_
    intro S_ s_
    refine V.condT (by kernel_rfl) ?_
    refine V.g [.k (iv 5),.k (iv n7),.k (iv 5),.k (iv n7)] fun _ _ G34 => ?_
    intro S_ s_
    refine nm (n7 * x1.exp : Int) fun n15 hn15 => ?_
    refine V.g [.k (iv 5),.k (pp ((G5 2).b) 0),.k (pp ((G5 2).b) 5),.ld 1 5 false (fun _ => [iv out_5]),.k (iv n7),.k (pp ((G8 2).b) 1),.ld 2 1 false (fun _ => [iv x1.exp]),.ar (n7 * x1.exp) n15 hn15 (Un.R27.r64 (.mul (by rw [hn7]; exact Un.word_rg x1.word 5) ⟨hxo2, hxo3⟩ hn15)).1 (Un.R27.r64 (.mul (by rw [hn7]; exact Un.word_rg x1.word 5) ⟨hxo2, hxo3⟩ hn15)).2,.a (out_5 + n15) (Un.R27.a64 hf10 (.mul (by rw [hn7]; exact Un.word_rg x1.word 5) ⟨hxo2, hxo3⟩ hn15) hk41).1 (Un.R27.a64 hf10 (.mul (by rw [hn7]; exact Un.word_rg x1.word 5) ⟨hxo2, hxo3⟩ hn15) hk41).2,.k (pp ((G5 2).b) 0),.k (pp ((G5 2).b) 5),.st 1 (fun _ => .blk ((G5 2).b) #[iv (out_0 + n10), iv (out_1 + n11), iv (out_2 + n12), iv (out_3 + n13), iv (out_4 + n14), iv (out_5 + n15), iv out_6, out_7s.v, iv out_8, out_9s.v] 32)] fun _ _ G35 => ?_
    intro S_ s_
    refine V.g [.k (iv 6),.k (iv 6)] fun _ _ G36 => ?_
    intro S_ s_
    refine V.againL L_1 93 (by kernel_rfl) ?_
    refine V.g [.kb false] fun _ _ G37 => ?_
    intro S_ s_
    refine V.condF (by kernel_rfl) ?_
    refine nm (Fr.rS (True) (Un.tm (Fr.fq out_6 out_7 out_9) (Fr.fq n8 l4 l5) x1.exp) : Int) fun n16 hn16 => ?_
    refine nm (Fr.rD (True) (Un.tm (Fr.fq out_6 out_7 out_9) (Fr.fq n8 l4 l5) x1.exp) : List Int) fun l6 hl6 => ?_
    have hl6n := congrArg List.length hl6
    refine nm (Fr.rT (True) : Int) fun n17 hn17 => ?_
    refine nm (Fr.rE (True) (Un.tm (Fr.fq out_6 out_7 out_9) (Fr.fq n8 l4 l5) x1.exp) : List Int) fun l7 hl7 => ?_
    have hl7n := congrArg List.length hl7
    refine V.r [.k (pp ((G5 2).b) 6),.ld 1 6 true (fun _ => Dat.cells (DFrac.mk (DBig.mk out_6 ⟨out_7, out_7s⟩) (DBig.mk out_8 ⟨out_9, out_9s⟩))),.k (pp ((G9 6).b) 6),.ld 3 6 true (fun _ => Dat.cells (DFrac.mk (DBig.mk n8 ⟨l4, (G9 2).ss 0⟩) (DBig.mk n9 ⟨l5, (G9 2).ss 1⟩))),.k (pp ((G8 2).b) 1),.ld 2 1 false (fun _ => [iv x1.exp]),.ctT g0 6 48 [(kf true (.f 1) out_7 (fun _ => out_7s)).a, (kf true (.f 2) out_9 (fun _ => out_9s)).a, (kf true (.f 3) l4 (fun _ => (G9 2).ss 0)).a, (kf true (.f 4) l5 (fun _ => (G9 2).ss 1)).a] (fun _ G => utimes_ctv out_6 out_7 out_7s out_8 out_9 out_9s n8 l4 ((G9 2).ss 0) n9 l5 ((G9 2).ss 1) x1.exp hf4 zw.rt hw0 ⟨hxo2, hxo3⟩ ⟨by omega, by omega⟩ ⟨by omega, by omega⟩ n16 hn16 l6 hl6 n17 hn17 l7 hl7),.k (pp ((G5 2).b) 6),.st 1 (fun G => .blk ((G5 2).b) #[iv (out_0 + n10), iv (out_1 + n11), iv (out_2 + n12), iv (out_3 + n13), iv (out_4 + n14), iv (out_5 + n15), iv n16, ((G 6).ss 0).v, iv n17, ((G 6).ss 1).v] 32)] fun _ _ G38 kw39 => ?_
    intro S_ s_
    obtain ⟨⟨kl8, -⟩, ⟨kl9, -⟩, -⟩ : Lq l6 (((G38 6).ss 0).v) ∧ Lq l7 (((G38 6).ss 1).v) ∧ True := kn kw39 (by kernel_rfl)
    clear kw39
    have zt := Fr.Fz.of True.intro hn16 hl6 hn17 hl7
    rw [zw.v] at zt
    have hzt := zt.len (Un.tm_hb (hf4.hb hf11.1 hf11.2) hwo.2.2.2 ⟨hxo2, hxo3⟩)
    have hzt1 := hzt.1; have hzt2 := hzt.2
    refine V.g [.a (k0 + 1) (by omega) (by omega),.k (iv (k0 + 1))] fun _ _ G39 => ?_
    intro S_ s_
    refine V.rnd hZ1 (k0 + 1, out_0 + n10, out_1 + n11, out_2 + n12, out_3 + n13, out_4 + n14, out_5 + n15, n16, l6, (G38 6).ss 0, n17, l7, (G38 6).ss 1) [0, 5, 6] (by kernel_rfl) ?_ ?_
    · refine ⟨?_, ?_, ?_, ?_, ?_, ?_, ?_, ?_, ?_, ?_, ?_⟩
      · show 0 ≤ (k0 + 1)
        omega
      · show (k0 + 1) ≤ (l1.length : Int)
        omega
      · show Un.acc (l1.drop (k0 + 1).toNat) ([(out_0 + n10), (out_1 + n11), (out_2 + n12), (out_3 + n13), (out_4 + n14), (out_5 + n15)], (Fr.fq n16 l6 l7)) = Un.acc l1 ([0, 0, 0, 0, 0, 0], 1)
        rw [show (k0 + 1).toNat = k0.toNat + 1 by omega, ← hf3, Un.acc_drop (k := k0.toNat) (by omega), ← hx1, if_pos hws, zt.v, hn10, hn11, hn12, hn13, hn14, hn15, hn2, hn3, hn4, hn5, hn6, hn7]; rfl
      · show Fr.FrB n16 l6 n17 l7
        exact zt.rt
      · show Un.R27 (k0 + 1) (out_0 + n10)
        exact Un.R27.add hf5 (.mul (by rw [hn2]; exact Un.word_rg x1.word 0) ⟨hxo2, hxo3⟩ hn10)
      · show Un.R27 (k0 + 1) (out_1 + n11)
        exact Un.R27.add hf6 (.mul (by rw [hn3]; exact Un.word_rg x1.word 1) ⟨hxo2, hxo3⟩ hn11)
      · show Un.R27 (k0 + 1) (out_2 + n12)
        exact Un.R27.add hf7 (.mul (by rw [hn4]; exact Un.word_rg x1.word 2) ⟨hxo2, hxo3⟩ hn12)
      · show Un.R27 (k0 + 1) (out_3 + n13)
        exact Un.R27.add hf8 (.mul (by rw [hn5]; exact Un.word_rg x1.word 3) ⟨hxo2, hxo3⟩ hn13)
      · show Un.R27 (k0 + 1) (out_4 + n14)
        exact Un.R27.add hf9 (.mul (by rw [hn6]; exact Un.word_rg x1.word 4) ⟨hxo2, hxo3⟩ hn14)
      · show Un.R27 (k0 + 1) (out_5 + n15)
        exact Un.R27.add hf10 (.mul (by rw [hn7]; exact Un.word_rg x1.word 5) ⟨hxo2, hxo3⟩ hn15)
      show l6.length ≤ 1 + 36 * (k0 + 1).toNat ∧ l7.length ≤ 1 + 36 * (k0 + 1).toNat
      omega
    show ((l1.length : Int) - (k0 + 1)).toNat < ((l1.length : Int) - k0).toNat
    omega
  have hfin : Un.acc l1 ([0, 0, 0, 0, 0, 0], 1) = some ([out_0, out_1, out_2, out_3, out_4, out_5], (Fr.fq out_6 out_7 out_9)) := by rw [← hf3, List.drop_of_length_le (by omega)]; rfl
  refine V.g [.k (pp ((G5 2).b) 0),.ld 1 0 true (fun _ => [iv out_0, iv out_1, iv out_2, iv out_3, iv out_4, iv out_5]),.cp g0 2 12 [] (fun _ G => dright_ct out_0 out_1 out_2 out_3 out_4 out_5),.k (bv (!(decide (Dm.Rt [out_0, out_1, out_2, out_3, out_4, out_5]))))] fun _ _ G40 => ?_
  intro S_ s_
  refine V.cond (b := !(decide (Dm.Rt [out_0, out_1, out_2, out_3, out_4, out_5]))) (iNT iDF) (iNF iDT) (by kernel_rfl) (fun q7 => ?_) (fun q8 => ?_)
  · have hrd := Un.read_rng hsm (by rw [← hl1]; exact hfin) q7
    refine V.g [.k (.agg #[iv 0, iv 0, iv 0, iv 0, iv 0, iv 0, iv 0, .slice none 0 0, iv 0, .slice none 0 0]),.st 0 (fun _ => .blk ((G1 0).b) #[iv 0, iv 0, iv 0, iv 0, iv 0, iv 0, iv 0, .slice none 0 0, iv 0, .slice none 0 0] 32),.k (iv 3)] fun _ _ G41 => ?_
    intro S_ s_
    refine V.nilF (α := Int) ?_
    refine V.nilF (α := Int) ?_
    have e7 : ([] : List Int) = Fr.rD (((Un.read s).1).isSome = true) (Un.fv ((Un.read s).1)) := (Fr.Fz.no (Un.is_n (by rw [hrd])) (Un.fv (Un.read s).1)).2.1
    rw [← e7]
    have e9 : ([] : List Int) = Fr.rE (((Un.read s).1).isSome = true) (Un.fv ((Un.read s).1)) := (Fr.Fz.no (Un.is_n (by rw [hrd])) (Un.fv (Un.read s).1)).2.2.2
    rw [← e9]
    have e0 : (0 : Int) = Un.dv ((Un.read s).1) 0 := (Un.dv_n (by rw [hrd]) 0).symm
    have e1 : (0 : Int) = Un.dv ((Un.read s).1) 1 := (Un.dv_n (by rw [hrd]) 1).symm
    have e2 : (0 : Int) = Un.dv ((Un.read s).1) 2 := (Un.dv_n (by rw [hrd]) 2).symm
    have e3 : (0 : Int) = Un.dv ((Un.read s).1) 3 := (Un.dv_n (by rw [hrd]) 3).symm
    have e4 : (0 : Int) = Un.dv ((Un.read s).1) 4 := (Un.dv_n (by rw [hrd]) 4).symm
    have e5 : (0 : Int) = Un.dv ((Un.read s).1) 5 := (Un.dv_n (by rw [hrd]) 5).symm
    have e6 : (0 : Int) = Fr.rS (((Un.read s).1).isSome = true) (Un.fv ((Un.read s).1)) := (Fr.Fz.no (Un.is_n (by rw [hrd])) (Un.fv (Un.read s).1)).1
    have e8 : (0 : Int) = Fr.rT (((Un.read s).1).isSome = true) := (Fr.Fz.no (Un.is_n (by rw [hrd])) (Un.fv (Un.read s).1)).2.2.1
    have e10 : (3 : Int) = (Un.read s).2 := by rw [hrd]
    exact V.ret [0, 0] [{}, {}] [fun _ => {}, fun _ => {}] [] [3, 4] [] (.tuple #[.agg #[iv 0, iv 0, iv 0, iv 0, iv 0, iv 0, iv 0, SV.v ({}), iv 0, SV.v ({})], iv 3]) (fun _ _ => by kernel_rfl) (fun _ _ => (Eq.trans (by kernel_rfl) (cong9 (fun (x0 : Int) (x1 : Int) (x2 : Int) (x3 : Int) (x4 : Int) (x5 : Int) (x6 : Int) (x8 : Int) (x10 : Int) => (.tuple #[.agg #[iv x0, iv x1, iv x2, iv x3, iv x4, iv x5, iv x6, SV.v ({}), iv x8, SV.v ({})], iv x10] : Value)) e0 e1 e2 e3 e4 e5 e6 e8 e10)).trans (by kernel_rfl)) (fun _ _ => trivial)
  have hrd := Un.read_ok hsm (by rw [← hl1]; exact hfin) (by have hqq := q8; first | exact hqq | exact Decidable.not_not.1 hqq)
  have hr1 : (Un.read s).1 = some ([out_0, out_1, out_2, out_3, out_4, out_5], (Fr.fq out_6 out_7 out_9)) := by rw [hrd]
  refine V.g [.ld 1 0 true (fun _ => [iv out_0, iv out_1, iv out_2, iv out_3, iv out_4, iv out_5, iv out_6, out_7s.v, iv out_8, out_9s.v]),.st 0 (fun _ => .blk ((G1 0).b) #[iv out_0, iv out_1, iv out_2, iv out_3, iv out_4, iv out_5, iv out_6, out_7s.v, iv out_8, out_9s.v] 32),.k (iv 0)] fun _ _ G42 => ?_
  intro S_ s_
  have e7 : out_7 = Fr.rD (((Un.read s).1).isSome = true) (Un.fv ((Un.read s).1)) := (Fr.Fz.ret (Fr.FrB.z hf4) (Un.is_s hr1) (Un.fv_s hr1).symm).2.1
  subst e7
  have e9 : out_9 = Fr.rE (((Un.read s).1).isSome = true) (Un.fv ((Un.read s).1)) := (Fr.Fz.ret (Fr.FrB.z hf4) (Un.is_s hr1) (Un.fv_s hr1).symm).2.2.2
  subst e9
  have e0 : out_0 = Un.dv ((Un.read s).1) 0 := (Un.dv_s hr1 0).symm
  have e1 : out_1 = Un.dv ((Un.read s).1) 1 := (Un.dv_s hr1 1).symm
  have e2 : out_2 = Un.dv ((Un.read s).1) 2 := (Un.dv_s hr1 2).symm
  have e3 : out_3 = Un.dv ((Un.read s).1) 3 := (Un.dv_s hr1 3).symm
  have e4 : out_4 = Un.dv ((Un.read s).1) 4 := (Un.dv_s hr1 4).symm
  have e5 : out_5 = Un.dv ((Un.read s).1) 5 := (Un.dv_s hr1 5).symm
  have e6 : out_6 = Fr.rS (((Un.read s).1).isSome = true) (Un.fv ((Un.read s).1)) := (Fr.Fz.ret (Fr.FrB.z hf4) (Un.is_s hr1) (Un.fv_s hr1).symm).1
  have e8 : out_8 = Fr.rT (((Un.read s).1).isSome = true) := (Fr.Fz.ret (Fr.FrB.z hf4) (Un.is_s hr1) (Un.fv_s hr1).symm).2.2.1
  have e10 : (0 : Int) = (Un.read s).2 := by rw [hrd]
  exact V.ret [0, 0] [out_7s, out_9s] [fun _ => {}, fun _ => {}] [] [1, 2] [] (.tuple #[.agg #[iv out_0, iv out_1, iv out_2, iv out_3, iv out_4, iv out_5, iv out_6, out_7s.v, iv out_8, out_9s.v], iv 0]) (fun _ _ => by kernel_rfl) (fun _ _ => (Eq.trans (by kernel_rfl) (cong9 (fun (x0 : Int) (x1 : Int) (x2 : Int) (x3 : Int) (x4 : Int) (x5 : Int) (x6 : Int) (x8 : Int) (x10 : Int) => (.tuple #[.agg #[iv x0, iv x1, iv x2, iv x3, iv x4, iv x5, iv x6, out_7s.v, iv x8, out_9s.v], iv x10] : Value)) e0 e1 e2 e3 e4 e5 e6 e8 e10)).trans (by kernel_rfl)) (fun _ _ => trivial)
theorem uread_ctv (s : ByteArray) (hs : s.size ≤ 1000000) (rv0 : Int) (erv0 : rv0 = Un.dv ((Un.read s).1) 0) (rv1 : Int) (erv1 : rv1 = Un.dv ((Un.read s).1) 1) (rv2 : Int) (erv2 : rv2 = Un.dv ((Un.read s).1) 2) (rv3 : Int) (erv3 : rv3 = Un.dv ((Un.read s).1) 3) (rv4 : Int) (erv4 : rv4 = Un.dv ((Un.read s).1) 4) (rv5 : Int) (erv5 : rv5 = Un.dv ((Un.read s).1) 5) (rv6 : Int) (erv6 : rv6 = Fr.rS (((Un.read s).1).isSome = true) (Un.fv ((Un.read s).1))) (rv7 : List Int) (erv7 : rv7 = Fr.rD (((Un.read s).1).isSome = true) (Un.fv ((Un.read s).1))) (rv8 : Int) (erv8 : rv8 = Fr.rT (((Un.read s).1).isSome = true)) (rv9 : List Int) (erv9 : rv9 = Fr.rE (((Un.read s).1).isSome = true) (Un.fv ((Un.read s).1))) (rv10 : Int) (erv10 : rv10 = (Un.read s).2) :
    Ct Try.prog 13 #[tv s] [] [] (fun g => .tuple #[.agg #[iv rv0, iv rv1, iv rv2, iv rv3, iv rv4, iv rv5, iv rv6, ((g.ss 0)).v, iv rv8, ((g.ss 1)).v], iv rv10]) (fun g => [fs true rv7 (g.ss 0), fs true rv9 (g.ss 1)]) (fun g => []) (fun g => []) := by
  subst erv0 erv1 erv2 erv3 erv4 erv5 erv6 erv7 erv8 erv9 erv10; exact uread_ct s hs

open Go
namespace Dm
theorem ne_empty {s : ByteArray} : s ≠ ByteArray.empty ↔ bl s ≠ [] := ⟨fun h e => h (bl_inj e), fun h e => h (by rw [e]; rfl)⟩
theorem cpB_iff {s p : ByteArray} : cpB s p ↔ bl p <+: bl s := by
  unfold cpB
  constructor
  · rintro ⟨h1, h2⟩
    have h3 : bl p = (bl s).take p.size := by
      rw [← h2, bl_extract]
      have : (s.extract 0 p.size).size = p.size := by rw [h2]
      rw [this, List.drop_zero]
    rw [h3]; exact List.take_prefix _ _
  · intro h
    have hl := h.length_le
    rw [bl_len, bl_len] at hl
    refine ⟨by omega, bl_inj ?_⟩
    rw [bl_extract, List.drop_zero, ← bl_len]
    exact (List.prefix_iff_eq_take.1 h).symm
theorem cpR_bl {s p : ByteArray} (h : cpB s p) : bl (cpR s p) = (bl s).drop p.size := by
  unfold cpR
  rw [if_pos h, bl_extract, ← bl_len s, List.take_length]
theorem cpR_of {s p r : ByteArray} (h : bl s = bl p ++ bl r) : cpB s p ∧ cpR s p = r := by
  have h1 : cpB s p := cpB_iff.2 ⟨_, h.symm⟩
  refine ⟨h1, bl_inj ?_⟩
  rw [cpR_bl h1, h, List.drop_left' (by simp)]
theorem cpB_not {s p : ByteArray} {x y : UInt8} {l m : List UInt8} (h1 : bl s = x :: l) (h2 : bl p = y :: m) (h : x ≠ y) : ¬ cpB s p := by
  rw [cpB_iff, h1, h2]
  rintro ⟨t, ht⟩
  simp at ht
  exact h ht.1.symm
theorem sy_fst : ∀ n, n < 6 → ∃ m, bl (sy.getD n default) = ([103, 109, 115, 74, 99, 112] : List UInt8).getD n 0 :: m
  | 0, _ => ⟨_, rfl⟩
  | 1, _ => ⟨_, rfl⟩
  | 2, _ => ⟨_, rfl⟩
  | 3, _ => ⟨_, rfl⟩
  | 4, _ => ⟨_, rfl⟩
  | 5, _ => ⟨_, rfl⟩
theorem bl_item {s : ByteArray} {e : Int} : bl (item s e) = bl s ++ (if e = 1 then [] else [UInt8.ofNat (48 + e).toNat]) := by
  unfold item
  split
  · simp
  · rw [bl_append]; rfl
def tk (x : Nat × Int) : List UInt8 := (if 0 < x.2 then 42 else 47) :: bl (item (sy.getD x.1 default) (if 0 < x.2 then x.2 else -x.2))
def tks (l : List (Nat × Int)) : List UInt8 := (l.map tk).flatten
theorem tks_cons (x : Nat × Int) (l : List (Nat × Int)) : tks (x :: l) = tk x ++ tks l := by simp [tks]
theorem tks_append (l m : List (Nat × Int)) : tks (l ++ m) = tks l ++ tks m := by simp [tks]
def poN (D : List Int) : Nat → List (Nat × Int)
  | 0 => []
  | n + 1 => if 0 < D.getD n 0 then poN D n ++ [(n, D.getD n 0)] else poN D n
def neN (D : List Int) : Nat → List (Nat × Int)
  | 0 => []
  | n + 1 => if D.getD n 0 < 0 then neN D n ++ [(n, D.getD n 0)] else neN D n
theorem be_tks {D : List Int} : ∀ n, bl (beN D n) = tks (neN D n)
  | 0 => rfl
  | n + 1 => by
    unfold beN neN
    by_cases h : D.getD n 0 < 0
    · rw [if_pos h, if_pos h, bl_append, bl_append, be_tks n, tks_append, tks_cons]
      unfold tk
      simp only [if_neg (show ¬ 0 < D.getD n 0 by omega)]
      show _ ++ (bl ⟨#[47]⟩ ++ _) = _ ++ (_ ++ [])
      rw [List.append_nil]; rfl
    · rw [if_neg h, if_neg h, be_tks n]
theorem ab_tks {D : List Int} : ∀ n, Lib.joinTail [42] ((abN D n).map bl) = tks (poN D n)
  | 0 => rfl
  | n + 1 => by
    unfold abN poN
    by_cases h : 0 < D.getD n 0
    · rw [if_pos h, if_pos h, tks_append, tks_cons, ← ab_tks n]
      unfold tk
      simp only [if_pos h]
      simp [Lib.joinTail, tks]
    · rw [if_neg h, if_neg h, ab_tks n]
theorem text_y {D : List Int} (h : Rt D) : bl (text D) = Lib.join ((ab D).map bl) [42] ++ bl (beN D 6) := by
  unfold text
  rw [if_pos h, bl_append]
  congr 1
theorem abN_item {D : List Int} : ∀ n, n ≤ 6 → ∀ x ∈ abN D n, ∃ j, j < 6 ∧ ∃ e, x = item (sy.getD j default) e
  | 0, _, x, h => by cases h
  | n + 1, hn, x, h => by
    unfold abN at h
    split at h
    · rcases List.mem_append.1 h with h | h
      · exact abN_item n (by omega) x h
      · exact ⟨n, by omega, D.getD n 0, by simpa using h⟩
    · exact abN_item n (by omega) x h
theorem start_tks {D : List Int} (h : Rt D) : bl (start (text D)) = tks (poN D 6 ++ neN D 6) ∧ bl (text D) ≠ [] := by
  have ht := text_y h
  have hp := ab_tks (D := D) 6
  rw [tks_append, ← hp, ← be_tks]
  unfold ab at ht
  cases hab : abN D 6 with
  | nil =>
    rw [hab] at ht
    have ht' : bl (text D) = bl ⟨#[49]⟩ ++ bl (beN D 6) := ht
    obtain ⟨h1, h2⟩ := cpR_of ht'
    unfold start
    rw [if_pos h1, h2]
    exact ⟨rfl, by rw [ht']; exact List.cons_ne_nil _ _⟩
  | cons x l =>
    rw [hab, if_neg (by simp), List.map_cons, Lib.join_cons] at ht
    obtain ⟨j, hj, e, hx⟩ := abN_item 6 (Nat.le_refl _) x (by rw [hab]; exact List.mem_cons_self)
    obtain ⟨m, hm⟩ := sy_fst j hj
    have hb : bl x = ([103, 109, 115, 74, 99, 112] : List UInt8).getD j 0 :: (m ++ if e = 1 then [] else [UInt8.ofNat (48 + e).toNat]) := by rw [hx, bl_item, hm]; rfl
    have ht2 := ht
    rw [hb, List.cons_append, List.cons_append] at ht2
    have hne : ∀ j, j < 6 → ([103, 109, 115, 74, 99, 112] : List UInt8).getD j 0 ≠ 49 := by decide
    have hn : ¬ cpB (text D) ⟨#[49]⟩ := cpB_not ht2 (y := 49) (m := []) rfl (hne j hj)
    unfold start
    rw [if_neg hn, bl_append, ht]
    refine ⟨?_, by rw [← ht, ht2]; exact List.cons_ne_nil _ _⟩
    show [42] ++ (_ ++ _ ++ _) = _
    unfold Lib.joinTail
    simp
theorem text_ne {D : List Int} : text D ≠ ByteArray.empty ↔ Rt D := by
  refine ⟨fun h => ?_, fun h => ne_empty.2 (start_tks h).2⟩
  unfold text at h
  split at h
  · assumption
  · exact absurd rfl h
theorem read_empty : read ByteArray.empty = none := by decide +kernel
theorem read_some {s : ByteArray} {d : List Int} (h : read s = some d) : text d = s ∧ Rt d := by
  have h0 := h
  unfold read at h
  split at h
  · cases h
  · split at h
    · rename_i ht
      obtain rfl := Option.some.inj h
      refine ⟨ht, text_ne.1 fun e => ?_⟩
      rw [ht] at e
      rw [e, read_empty] at h0; cases h0
    · cases h
end Dm

open Go
namespace Un
open Fr Bg
def Z6 : List Int := [0, 0, 0, 0, 0, 0]
theorem acc_len : ∀ (l : List Ditem) (u v : U), u.1.length = 6 → acc l u = some v → v.1.length = 6
  | [], u, v, h, k => by obtain rfl := Option.some.inj k; exact h
  | x :: l, u, v, h, k => by
    unfold acc at k
    split at k
    · exact acc_len l _ v rfl k
    · cases k
structure RdIs (s : ByteArray) (l : List Ditem) (d : List Int) (r : Rat) : Prop where
  it : items s = some l
  ac : acc l (Z6, 1) = some (d, r)
  rt : Dm.Rt d
  len : d.length = 6
theorem read_is {s : ByteArray} (h : (read s).2 = 0) : ∃ l d r, RdIs s l d r ∧ read s = (some (d, r), 0) := by
  unfold read at h ⊢
  split at h
  · rename_i hi
    rw [if_pos hi]
    unfold fin at h ⊢
    split at h
    · rename_i ha
      rw [if_pos ha]
      split at h
      · rename_i hr
        rw [if_pos hr]
        obtain ⟨⟨d, r⟩, hx⟩ := Option.isSome_iff_exists.1 ha
        obtain ⟨l, hl⟩ := Option.isSome_iff_exists.1 hi
        rw [hl] at hx hr
        rw [hl]
        simp only [Option.getD_some] at hx hr ⊢
        rw [hx] at hr ⊢
        exact ⟨l, d, r, ⟨hl, hx, hr, acc_len l _ _ rfl hx⟩, rfl⟩
      · simp at h
    · simp at h
  · simp at h
theorem RdIs.read {s : ByteArray} {l : List Ditem} {d : List Int} {r : Rat} (h1 : items s = some l) (h2 : acc l (Z6, 1) = some (d, r)) : Un.read s = if Dm.Rt d then (some (d, r), 0) else (none, 3) := by
  have hi : (items s).isSome = true := by rw [h1]; rfl
  by_cases hd : Dm.Rt d
  · rw [if_pos hd]; exact read_ok hi (by rw [h1]; exact h2) hd
  · rw [if_neg hd]; exact read_rng hi (by rw [h1]; exact h2) hd
end Un

open Go
namespace Un
open Fr Bg
def UR (d : List Int) (ps : Int) (pd : List Int) (qs : Int) (qd : List Int) : Prop := Dm.Rt d ∧ FrB ps pd qs qd ∧ 0 < ps
instance (d : List Int) (ps : Int) (pd : List Int) (qs : Int) (qd : List Int) : Decidable (UR d ps pd qs qd) := by unfold UR; infer_instance
theorem ur_is {d : List Int} {ps qs : Int} {pd qd : List Int} : ((Dm.Rt d ∧ FrB ps pd qs qd) ∧ 0 < (if FrB ps pd qs qd then ps else 0)) ↔ UR d ps pd qs qd := by
  unfold UR
  by_cases h : FrB ps pd qs qd
  · rw [if_pos h]; exact and_assoc
  · exact ⟨fun k => absurd k.1.2 h, fun k => absurd k.2.1 h⟩
theorem UR.ps {d : List Int} {ps qs : Int} {pd qd : List Int} (h : UR d ps pd qs qd) : ps ≠ 0 := by have := h.2.2; omega
theorem ur_of {d : List Int} {ps qs : Int} {pd qd : List Int} {r : Rat} (hd : Dm.Rt d) (z : Fz ps pd qs qd r) (h : 0 < r) : UR d ps pd qs qd := ⟨hd, z.rt, by rw [z.eqs.1]; exact sgn_num.2.2.2 h⟩
theorem intz (n : Int) : Fz (sgn n) (dig n.natAbs) 1 (dig 1) (n : Rat) := ⟨FrB.of (n : Rat), fq_of (n : Rat)⟩
def vec (o : Option U) : List Int := [dv o 0, dv o 1, dv o 2, dv o 3, dv o 4, dv o 5]
def means (s d : ByteArray) (p q : Int) : Prop := ((read s).2 = 0 ∧ Dm.text (vec (read s).1) = d) ∧ (read s).1.isSome = true ∧ fv (read s).1 = Rat.divInt p q
instance (s d : ByteArray) (p q : Int) : Decidable (means s d p q) := by unfold means; infer_instance
theorem read_some {s : ByteArray} (h : (read s).2 = 0) : (read s).1.isSome = true := by
  obtain ⟨l, d, r, _, h2⟩ := read_is h
  rw [h2]; rfl
theorem means1 : means ⟨#[107, 87, 104]⟩ ⟨#[74]⟩ 3600000 1 := by decide +kernel
theorem means2 : means ⟨#[107, 103, 47, 109, 51]⟩ ⟨#[103, 47, 109, 51]⟩ 1000 1 := by decide +kernel
theorem means3 : means ⟨#[108, 47, 104]⟩ ⟨#[109, 51, 47, 115]⟩ 1 3600000 := by decide +kernel
theorem means4 : means ⟨#[49, 47, 100, 50]⟩ ⟨#[49, 47, 115, 50]⟩ 1 7464960000 := by decide +kernel
theorem means5 : means ⟨#[109, 109, 50]⟩ ⟨#[109, 50]⟩ 1 1000000 := by decide +kernel
theorem means6 : means ByteArray.empty ⟨#[49]⟩ 1 1 := by decide +kernel
theorem means7 : means ⟨#[49]⟩ ⟨#[49]⟩ 1 1 := by decide +kernel
theorem means8 : means ⟨#[109, 57, 42, 109, 47, 109]⟩ ⟨#[109, 57]⟩ 1 1 := by decide +kernel
theorem fails1 : (read ⟨#[107, 116]⟩).2 = 11 := by decide +kernel
theorem fails2 : (read ⟨#[87]⟩).2 = 11 := by decide +kernel
theorem fails3 : (read ⟨#[103, 47]⟩).2 = 12 := by decide +kernel
theorem fails4 : (read ⟨#[103, 49]⟩).2 = 12 := by decide +kernel
theorem fails5 : (read ⟨#[50]⟩).2 = 12 := by decide +kernel
theorem fails6 : (read ⟨#[49, 103]⟩).2 = 12 := by decide +kernel
theorem fails7 : (read ⟨#[109, 57, 42, 109]⟩).2 = 3 := by decide +kernel
theorem kwh : read ⟨#[107, 87, 104]⟩ = (some ([0, 0, 0, 1, 0, 0], 3600000), 0) := by decide +kernel
theorem kwh2 : Rat.divInt 3 2 * 3600000 = ((5400000 : Int) : Rat) := by decide +kernel
end Un

open Go Go.Proofs
set_option maxRecDepth 10000 in
theorem samebig_ct (a_Sign : Int) (a_Digits : List Int) (a_Digitss : SV) (b_Sign : Int) (b_Digits : List Int) (b_Digitss : SV) :
    Cp Try.prog 52 #[ag (DBig.mk a_Sign ⟨a_Digits, a_Digitss⟩), ag (DBig.mk b_Sign ⟨b_Digits, b_Digitss⟩)] [fs true a_Digits a_Digitss, fs true b_Digits b_Digitss] (bv (decide (a_Sign = b_Sign ∧ a_Digits = b_Digits))) := by
  refine V.fn mo Try.func52 38 2 (by kernel_rfl) fun w H ε k0 => ?_
  obtain ⟨⟨kl1, -⟩, ⟨kl2, -⟩, -⟩ : Lq a_Digits a_Digitss.v ∧ Lq b_Digits b_Digitss.v ∧ True := kn k0 (by kernel_rfl)
  clear k0
  refine V.g [.nb 0 0 (fun b => pp b 0) 28 (fun _ => ca (DBig.mk a_Sign ⟨a_Digits, a_Digitss⟩)),.nb 1 1 (fun b => pp b 0) 28 (fun _ => ca (DBig.mk b_Sign ⟨b_Digits, b_Digitss⟩)),.kb false] fun _ _ G1 => ?_
  intro S_ s_
  refine nm ((!(decide (a_Sign = b_Sign))) || (!(decide ((a_Digits.length : Int) = (b_Digits.length : Int)))) : Bool) fun p1 hp1 => ?_
  refine V.g [.k (pp ((G1 0).b) 0),.ld 0 0 false (fun _ => [iv a_Sign]),.k (pp ((G1 1).b) 0),.ld 1 0 false (fun _ => [iv b_Sign]),.k (bv (!(decide (a_Sign = b_Sign)))),.k (bv (!(decide (a_Sign = b_Sign)))),.k (pp ((G1 0).b) 1),.ld 0 1 false (fun _ => [a_Digitss.v]),.ln (kf false (.f 0) a_Digits (fun _ => a_Digitss)),.k (pp ((G1 1).b) 1),.ld 1 1 false (fun _ => [b_Digitss.v]),.ln (kf false (.f 1) b_Digits (fun _ => b_Digitss)),.k (bv (!(decide ((a_Digits.length : Int) = (b_Digits.length : Int))))),.orn g0 false (!(decide (a_Sign = b_Sign))) (!(decide ((a_Digits.length : Int) = (b_Digits.length : Int)))) p1 hp1] fun _ _ G2 => ?_
  intro S_ s_
  refine V.cond (b := p1) (iN hp1 (iOT (iNT iDF) (iNT iDF))) (iN hp1 (iOF (iNF iDT) (iNF iDT))) (by kernel_rfl) (fun q1 => ?_) (fun q2 => ?_)
  · refine V.g [.kb false] fun _ _ G3 => ?_
    intro S_ s_
    have e0 : false = decide (a_Sign = b_Sign ∧ a_Digits = b_Digits) := by exact (decide_eq_false fun h => by have hqq := q1; rcases hqq with h1 | h1; exact h1 h.1; exact h1 (by rw [h.2])).symm
    exact V.ret [0] [] [] [] [] [] (bv false) (fun _ _ => by kernel_rfl) (fun _ _ => (Eq.trans (by kernel_rfl) (cong1 (fun (x0 : Bool) => (bv x0 : Value)) e0)).trans (by kernel_rfl)) (fun _ _ => trivial)
  refine V.g [.k (iv 0)] fun _ _ G4 => ?_
  intro S_ s_
  refine V.loop (γ := Int) (fun i => ⟨[(2, pp ((G1 0).b) 0), (3, pp ((G1 1).b) 0), (5, iv i)], [fs false a_Digits a_Digitss, fs false b_Digits b_Digitss], [.blk ((G1 0).b) (ca (DBig.mk a_Sign ⟨a_Digits, a_Digitss⟩)) 28, .blk ((G1 1).b) (ca (DBig.mk b_Sign ⟨b_Digits, b_Digitss⟩)) 28]⟩) (fun i => (0 ≤ i) ∧ (i ≤ (a_Digits.length : Int)) ∧ (0 ≤ i) ∧ (i ≤ (a_Digits.length : Int)) ∧ (∀ j, j < i.toNat → a_Digits.getD j default = b_Digits.getD j default)) (fun i => ((a_Digits.length : Int) - i).toNat) 0 (by kernel_rfl) [0, 1] (by kernel_rfl) ?_ ?_
  · refine ⟨?_, ?_, ?_, ?_, ?_⟩
    · show 0 ≤ (0 : Int)
      first | omega | rfl | (simp; done) | (subst_vars; simp; done)
    · show (0 : Int) ≤ (a_Digits.length : Int)
      first | omega | rfl | (simp; done) | (subst_vars; simp; done)
    · show 0 ≤ (0 : Int)
      omega
    · show (0 : Int) ≤ (a_Digits.length : Int)
      omega
    show ∀ j, j < (0 : Int).toNat → a_Digits.getD j default = b_Digits.getD j default
    intro j hj; simp at hj
  rintro i hF1 kw5 Z1 hZ1
  have hF1 : (0 ≤ i) ∧ (i ≤ (a_Digits.length : Int)) ∧ (0 ≤ i) ∧ (i ≤ (a_Digits.length : Int)) ∧ (∀ j, j < i.toNat → a_Digits.getD j default = b_Digits.getD j default) := hF1
  obtain ⟨hf1, hf2, hf3, hf4, hf5⟩ := hF1
  clear kw5
  refine V.g [.k (iv i),.k (pp ((G1 0).b) 1),.ld 0 1 false (fun _ => [a_Digitss.v]),.ln (kf false (.f 0) a_Digits (fun _ => a_Digitss)),.k (bv (decide (i < (a_Digits.length : Int))))] fun _ _ G5 => ?_
  intro S_ s_
  refine V.cond (b := decide (i < (a_Digits.length : Int))) iDT iDF (by kernel_rfl) (fun q3 => ?_) (fun q4 => ?_)
  · refine nm (a_Digits.getD i.toNat default : Int) fun v1 hv1 => ?_
    refine nm (b_Digits.getD i.toNat default : Int) fun v2 hv2 => ?_
    refine V.g [.k (pp ((G1 0).b) 1),.ld 0 1 false (fun _ => [a_Digitss.v]),.k (iv i),.ix g0 (kf false (.f 0) a_Digits (fun _ => a_Digitss)) i (fun _ => ⟨by omega, by omega⟩),.le g0 (kf false (.f 0) a_Digits (fun _ => a_Digitss)) i none false v1 hv1 (fun _ => ⟨by omega, by omega⟩) false (fun _ => [iv v1]),.k (pp ((G1 1).b) 1),.ld 1 1 false (fun _ => [b_Digitss.v]),.k (iv i),.ix g0 (kf false (.f 1) b_Digits (fun _ => b_Digitss)) i (fun _ => ⟨by omega, by omega⟩),.le g0 (kf false (.f 1) b_Digits (fun _ => b_Digitss)) i none false v2 hv2 (fun _ => ⟨by omega, by omega⟩) false (fun _ => [iv v2]),.k (bv (!(decide (v1 = v2))))] fun _ _ G6 => ?_
    intro S_ s_
    refine V.cond (b := !(decide (v1 = v2))) (iNT iDF) (iNF iDT) (by kernel_rfl) (fun q5 => ?_) (fun q6 => ?_)
    · refine V.g [.kb false] fun _ _ G7 => ?_
      intro S_ s_
      have e0 : false = decide (a_Sign = b_Sign ∧ a_Digits = b_Digits) := (decide_eq_false fun h => q5 (by rw [hv1, hv2, h.2])).symm
      exact V.ret [0] [] [] [] [] [] (bv false) (fun _ _ => by kernel_rfl) (fun _ _ => (Eq.trans (by kernel_rfl) (cong1 (fun (x0 : Bool) => (bv x0 : Value)) e0)).trans (by kernel_rfl)) (fun _ _ => trivial)
    refine V.g [.k (iv i),.a (i + 1) (by omega) (by omega),.k (iv (i + 1))] fun _ _ G8 => ?_
    intro S_ s_
    refine V.rnd hZ1 (i + 1) [0, 1] (by kernel_rfl) ?_ ?_
    · refine ⟨?_, ?_, ?_, ?_, ?_⟩
      · show 0 ≤ (i + 1)
        omega
      · show (i + 1) ≤ (a_Digits.length : Int)
        omega
      · show 0 ≤ (i + 1)
        omega
      · show (i + 1) ≤ (a_Digits.length : Int)
        omega
      show ∀ j, j < (i + 1).toNat → a_Digits.getD j default = b_Digits.getD j default
      intro j hj; by_cases e : j < i.toNat
      · exact hf5 j e
      rw [show j = i.toNat by omega, ← hv1, ← hv2]; exact (by have hqq := q6; first | exact hqq | exact Decidable.not_not.1 hqq)
    show ((a_Digits.length : Int) - (i + 1)).toNat < ((a_Digits.length : Int) - i).toNat
    omega
  refine V.g [.kb true] fun _ _ G9 => ?_
  intro S_ s_
  have e0 : true = decide (a_Sign = b_Sign ∧ a_Digits = b_Digits) := (decide_eq_true ⟨by omega, Bg.eq_of_getD (by omega) fun j hj => hf5 j (by omega)⟩).symm
  exact V.ret [0] [] [] [] [] [] (bv true) (fun _ _ => by kernel_rfl) (fun _ _ => (Eq.trans (by kernel_rfl) (cong1 (fun (x0 : Bool) => (bv x0 : Value)) e0)).trans (by kernel_rfl)) (fun _ _ => trivial)
set_option maxRecDepth 10000 in
theorem same5_ct (a_P_Sign : Int) (a_P_Digits : List Int) (a_P_Digitss : SV) (a_Q_Sign : Int) (a_Q_Digits : List Int) (a_Q_Digitss : SV) (b_P_Sign : Int) (b_P_Digits : List Int) (b_P_Digitss : SV) (b_Q_Sign : Int) (b_Q_Digits : List Int) (b_Q_Digitss : SV) :
    Cp Try.prog 15 #[ag (DFrac.mk (DBig.mk a_P_Sign ⟨a_P_Digits, a_P_Digitss⟩) (DBig.mk a_Q_Sign ⟨a_Q_Digits, a_Q_Digitss⟩)), ag (DFrac.mk (DBig.mk b_P_Sign ⟨b_P_Digits, b_P_Digitss⟩) (DBig.mk b_Q_Sign ⟨b_Q_Digits, b_Q_Digitss⟩))] [fs true a_P_Digits a_P_Digitss, fs true a_Q_Digits a_Q_Digitss, fs true b_P_Digits b_P_Digitss, fs true b_Q_Digits b_Q_Digitss] (bv (decide (a_P_Sign = b_P_Sign ∧ a_P_Digits = b_P_Digits ∧ a_Q_Sign = b_Q_Sign ∧ a_Q_Digits = b_Q_Digits))) := by
  refine V.fn mo Try.func15 17 2 (by kernel_rfl) fun w H ε k0 => ?_
  obtain ⟨⟨kl1, -⟩, ⟨kl2, -⟩, ⟨kl3, -⟩, ⟨kl4, -⟩, -⟩ : Lq a_P_Digits a_P_Digitss.v ∧ Lq a_Q_Digits a_Q_Digitss.v ∧ Lq b_P_Digits b_P_Digitss.v ∧ Lq b_Q_Digits b_Q_Digitss.v ∧ True := kn k0 (by kernel_rfl)
  clear k0
  refine V.g [.nb 0 0 (fun b => pp b 0) 30 (fun _ => ca (DFrac.mk (DBig.mk a_P_Sign ⟨a_P_Digits, a_P_Digitss⟩) (DBig.mk a_Q_Sign ⟨a_Q_Digits, a_Q_Digitss⟩))),.nb 1 1 (fun b => pp b 0) 30 (fun _ => ca (DFrac.mk (DBig.mk b_P_Sign ⟨b_P_Digits, b_P_Digitss⟩) (DBig.mk b_Q_Sign ⟨b_Q_Digits, b_Q_Digitss⟩))),.kb false] fun _ _ G1 => ?_
  intro S_ s_
  refine nm ((decide (a_P_Sign = b_P_Sign ∧ a_P_Digits = b_P_Digits)) && (decide (a_Q_Sign = b_Q_Sign ∧ a_Q_Digits = b_Q_Digits)) : Bool) fun p1 hp1 => ?_
  refine V.g [.k (pp ((G1 0).b) 0),.ld 0 0 true (fun _ => Dat.cells (DBig.mk a_P_Sign ⟨a_P_Digits, a_P_Digitss⟩)),.k (pp ((G1 1).b) 0),.ld 1 0 true (fun _ => Dat.cells (DBig.mk b_P_Sign ⟨b_P_Digits, b_P_Digitss⟩)),.cp g0 4 52 [(kf false (.f 0) a_P_Digits (fun _ => a_P_Digitss)).a, (kf false (.f 2) b_P_Digits (fun _ => b_P_Digitss)).a] (fun _ G => samebig_ct a_P_Sign a_P_Digits a_P_Digitss b_P_Sign b_P_Digits b_P_Digitss),.k (bv (decide (a_P_Sign = b_P_Sign ∧ a_P_Digits = b_P_Digits))),.k (pp ((G1 0).b) 2),.ld 0 2 true (fun _ => Dat.cells (DBig.mk a_Q_Sign ⟨a_Q_Digits, a_Q_Digitss⟩)),.k (pp ((G1 1).b) 2),.ld 1 2 true (fun _ => Dat.cells (DBig.mk b_Q_Sign ⟨b_Q_Digits, b_Q_Digitss⟩)),.cp (gT (b := decide (a_P_Sign = b_P_Sign ∧ a_P_Digits = b_P_Digits)) iDT) 10 52 [(kf false (.f 1) a_Q_Digits (fun _ => a_Q_Digitss)).a, (kf false (.f 3) b_Q_Digits (fun _ => b_Q_Digitss)).a] (fun hg G => samebig_ct a_Q_Sign a_Q_Digits a_Q_Digitss b_Q_Sign b_Q_Digits b_Q_Digitss),.andn g0 false (decide (a_P_Sign = b_P_Sign ∧ a_P_Digits = b_P_Digits)) (decide (a_Q_Sign = b_Q_Sign ∧ a_Q_Digits = b_Q_Digits)) p1 hp1,.k (bv p1)] fun _ _ G2 => ?_
  intro S_ s_
  have e0 : p1 = decide (a_P_Sign = b_P_Sign ∧ a_P_Digits = b_P_Digits ∧ a_Q_Sign = b_Q_Sign ∧ a_Q_Digits = b_Q_Digits) := by
    refine Bool.eq_iff_iff.2 (Iff.trans (iN hp1 (iAT iDT iDT)) (Iff.trans ?_ decide_eq_true_iff.symm))
    exact and_assoc
  exact V.ret [0] [] [] [] [] [] (bv p1) (fun _ _ => by kernel_rfl) (fun _ _ => (Eq.trans (by kernel_rfl) (cong1 (fun (x0 : Bool) => (bv x0 : Value)) e0)).trans (by kernel_rfl)) (fun _ _ => trivial)
theorem same5t_ct (a_P_Sign : Int) (a_P_Digits : List Int) (a_P_Digitss : SV) (a_Q_Sign : Int) (a_Q_Digits : List Int) (a_Q_Digitss : SV) (b_P_Sign : Int) (b_P_Digits : List Int) (b_P_Digitss : SV) (b_Q_Sign : Int) (b_Q_Digits : List Int) (b_Q_Digitss : SV) (hT : a_P_Sign = b_P_Sign ∧ a_P_Digits = b_P_Digits ∧ a_Q_Sign = b_Q_Sign ∧ a_Q_Digits = b_Q_Digits) :
    Cp Try.prog 15 #[ag (DFrac.mk (DBig.mk a_P_Sign ⟨a_P_Digits, a_P_Digitss⟩) (DBig.mk a_Q_Sign ⟨a_Q_Digits, a_Q_Digitss⟩)), ag (DFrac.mk (DBig.mk b_P_Sign ⟨b_P_Digits, b_P_Digitss⟩) (DBig.mk b_Q_Sign ⟨b_Q_Digits, b_Q_Digitss⟩))] [fs true a_P_Digits a_P_Digitss, fs true a_Q_Digits a_Q_Digitss, fs true b_P_Digits b_P_Digitss, fs true b_Q_Digits b_Q_Digitss] (bv (true)) := by
  have h := same5_ct  a_P_Sign a_P_Digits a_P_Digitss a_Q_Sign a_Q_Digits a_Q_Digitss b_P_Sign b_P_Digits b_P_Digitss b_Q_Sign b_Q_Digits b_Q_Digitss ; rw [decide_eq_true hT] at h; exact h
set_option maxRecDepth 10000 in
theorem uright_ct (u_Dim0 u_Dim1 u_Dim2 u_Dim3 u_Dim4 u_Dim5 u_Factor_P_Sign : Int) (u_Factor_P_Digits : List Int) (u_Factor_P_Digitss : SV) (u_Factor_Q_Sign : Int) (u_Factor_Q_Digits : List Int) (u_Factor_Q_Digitss : SV) (huP : u_Factor_P_Digits.length ≤ 17179869184) (huQ : u_Factor_Q_Digits.length ≤ 17179869184) :
    Cp Try.prog 23 #[.agg #[iv u_Dim0, iv u_Dim1, iv u_Dim2, iv u_Dim3, iv u_Dim4, iv u_Dim5, iv u_Factor_P_Sign, u_Factor_P_Digitss.v, iv u_Factor_Q_Sign, u_Factor_Q_Digitss.v]] [fs true u_Factor_P_Digits u_Factor_P_Digitss, fs true u_Factor_Q_Digits u_Factor_Q_Digitss] (bv (decide (Un.UR [u_Dim0, u_Dim1, u_Dim2, u_Dim3, u_Dim4, u_Dim5] u_Factor_P_Sign u_Factor_P_Digits u_Factor_Q_Sign u_Factor_Q_Digits))) := by
  refine V.fn mo Try.func23 17 1 (by kernel_rfl) fun w H ε k0 => ?_
  obtain ⟨⟨kl1, -⟩, ⟨kl2, -⟩, -⟩ : Lq u_Factor_P_Digits u_Factor_P_Digitss.v ∧ Lq u_Factor_Q_Digits u_Factor_Q_Digitss.v ∧ True := kn k0 (by kernel_rfl)
  clear k0
  refine V.g [.nb 0 0 (fun b => pp b 0) 32 (fun _ => #[iv u_Dim0, iv u_Dim1, iv u_Dim2, iv u_Dim3, iv u_Dim4, iv u_Dim5, iv u_Factor_P_Sign, u_Factor_P_Digitss.v, iv u_Factor_Q_Sign, u_Factor_Q_Digitss.v]),.kb false] fun _ _ G1 => ?_
  intro S_ s_
  refine nm ((decide (Dm.Rt [u_Dim0, u_Dim1, u_Dim2, u_Dim3, u_Dim4, u_Dim5])) && (decide (Fr.FrB u_Factor_P_Sign u_Factor_P_Digits u_Factor_Q_Sign u_Factor_Q_Digits)) : Bool) fun p1 hp1 => ?_
  refine nm (if Fr.FrB u_Factor_P_Sign u_Factor_P_Digits u_Factor_Q_Sign u_Factor_Q_Digits then u_Factor_P_Sign else 0 : Int) fun n1 hn1 => ?_
  refine V.g [.k (pp ((G1 0).b) 0),.ld 0 0 true (fun _ => [iv u_Dim0, iv u_Dim1, iv u_Dim2, iv u_Dim3, iv u_Dim4, iv u_Dim5]),.cp g0 2 12 [] (fun _ G => dright_ct u_Dim0 u_Dim1 u_Dim2 u_Dim3 u_Dim4 u_Dim5),.k (bv (decide (Dm.Rt [u_Dim0, u_Dim1, u_Dim2, u_Dim3, u_Dim4, u_Dim5]))),.k (pp ((G1 0).b) 6),.ld 0 6 true (fun _ => Dat.cells (DFrac.mk (DBig.mk u_Factor_P_Sign ⟨u_Factor_P_Digits, u_Factor_P_Digitss⟩) (DBig.mk u_Factor_Q_Sign ⟨u_Factor_Q_Digits, u_Factor_Q_Digitss⟩))),.cp (gT (b := decide (Dm.Rt [u_Dim0, u_Dim1, u_Dim2, u_Dim3, u_Dim4, u_Dim5])) iDT) 6 24 [(kf false (.f 0) u_Factor_P_Digits (fun _ => u_Factor_P_Digitss)).a, (kf false (.f 1) u_Factor_Q_Digits (fun _ => u_Factor_Q_Digitss)).a] (fun hg G => right_ct u_Factor_P_Sign u_Factor_P_Digits u_Factor_P_Digitss u_Factor_Q_Sign u_Factor_Q_Digits u_Factor_Q_Digitss (by omega) (by omega)),.andn g0 false (decide (Dm.Rt [u_Dim0, u_Dim1, u_Dim2, u_Dim3, u_Dim4, u_Dim5])) (decide (Fr.FrB u_Factor_P_Sign u_Factor_P_Digits u_Factor_Q_Sign u_Factor_Q_Digits)) p1 hp1,.k (bv p1),.k (pp ((G1 0).b) 6),.ld 0 6 true (fun _ => Dat.cells (DFrac.mk (DBig.mk u_Factor_P_Sign ⟨u_Factor_P_Digits, u_Factor_P_Digitss⟩) (DBig.mk u_Factor_Q_Sign ⟨u_Factor_Q_Digits, u_Factor_Q_Digitss⟩))),.cp (gT (b := p1) (iN hp1 (iAT iDT iDT))) 11 59 [(kf false (.f 0) u_Factor_P_Digits (fun _ => u_Factor_P_Digitss)).a, (kf false (.f 1) u_Factor_Q_Digits (fun _ => u_Factor_Q_Digitss)).a] (fun hg G => fsign_ctv u_Factor_P_Sign u_Factor_P_Digits u_Factor_P_Digitss u_Factor_Q_Sign u_Factor_Q_Digits u_Factor_Q_Digitss (by omega) (by omega) n1 hn1),.k (bv (decide (0 < n1))),.and g0 false p1 (decide (0 < n1)),.k (bv (p1 && (decide (0 < n1))))] fun _ _ G2 => ?_
  intro S_ s_
  have e0 : (p1 && (decide (0 < n1))) = decide (Un.UR [u_Dim0, u_Dim1, u_Dim2, u_Dim3, u_Dim4, u_Dim5] u_Factor_P_Sign u_Factor_P_Digits u_Factor_Q_Sign u_Factor_Q_Digits) := by
    rw [hn1]
    refine Bool.eq_iff_iff.2 (Iff.trans (iAT (iN hp1 (iAT iDT iDT)) iDT) (Iff.trans ?_ decide_eq_true_iff.symm))
    exact Un.ur_is
  exact V.ret [0] [] [] [] [] [] (bv (p1 && (decide (0 < n1)))) (fun _ _ => by kernel_rfl) (fun _ _ => (Eq.trans (by kernel_rfl) (cong1 (fun (x0 : Bool) => (bv x0 : Value)) e0)).trans (by kernel_rfl)) (fun _ _ => trivial)
set_option maxRecDepth 10000 in
theorem ufrom_ct (n_P_Sign : Int) (n_P_Digits : List Int) (n_P_Digitss : SV) (n_Q_Sign : Int) (n_Q_Digits : List Int) (n_Q_Digitss : SV) (u_Dim0 u_Dim1 u_Dim2 u_Dim3 u_Dim4 u_Dim5 u_Factor_P_Sign : Int) (u_Factor_P_Digits : List Int) (u_Factor_P_Digitss : SV) (u_Factor_Q_Sign : Int) (u_Factor_Q_Digits : List Int) (u_Factor_Q_Digitss : SV) (huP : u_Factor_P_Digits.length ≤ 17179869184) (huQ : u_Factor_Q_Digits.length ≤ 17179869184) (hnP : n_P_Digits.length ≤ 17179869184) (hnQ : n_Q_Digits.length ≤ 17179869184) :
    Ct Try.prog 25 #[ag (DFrac.mk (DBig.mk n_P_Sign ⟨n_P_Digits, n_P_Digitss⟩) (DBig.mk n_Q_Sign ⟨n_Q_Digits, n_Q_Digitss⟩)), .agg #[iv u_Dim0, iv u_Dim1, iv u_Dim2, iv u_Dim3, iv u_Dim4, iv u_Dim5, iv u_Factor_P_Sign, u_Factor_P_Digitss.v, iv u_Factor_Q_Sign, u_Factor_Q_Digitss.v]] [fs true n_P_Digits n_P_Digitss, fs true n_Q_Digits n_Q_Digitss, fs true u_Factor_P_Digits u_Factor_P_Digitss, fs true u_Factor_Q_Digits u_Factor_Q_Digitss] [] (fun g => .tuple #[ag (DFrac.mk (DBig.mk (Fr.rS ((Un.UR [u_Dim0, u_Dim1, u_Dim2, u_Dim3, u_Dim4, u_Dim5] u_Factor_P_Sign u_Factor_P_Digits u_Factor_Q_Sign u_Factor_Q_Digits ∧ Fr.FrB n_P_Sign n_P_Digits n_Q_Sign n_Q_Digits)) ((Fr.fq n_P_Sign n_P_Digits n_Q_Digits) * (Fr.fq u_Factor_P_Sign u_Factor_P_Digits u_Factor_Q_Digits))) ⟨Fr.rD ((Un.UR [u_Dim0, u_Dim1, u_Dim2, u_Dim3, u_Dim4, u_Dim5] u_Factor_P_Sign u_Factor_P_Digits u_Factor_Q_Sign u_Factor_Q_Digits ∧ Fr.FrB n_P_Sign n_P_Digits n_Q_Sign n_Q_Digits)) ((Fr.fq n_P_Sign n_P_Digits n_Q_Digits) * (Fr.fq u_Factor_P_Sign u_Factor_P_Digits u_Factor_Q_Digits)), (g.ss 0)⟩) (DBig.mk (Fr.rT ((Un.UR [u_Dim0, u_Dim1, u_Dim2, u_Dim3, u_Dim4, u_Dim5] u_Factor_P_Sign u_Factor_P_Digits u_Factor_Q_Sign u_Factor_Q_Digits ∧ Fr.FrB n_P_Sign n_P_Digits n_Q_Sign n_Q_Digits))) ⟨Fr.rE ((Un.UR [u_Dim0, u_Dim1, u_Dim2, u_Dim3, u_Dim4, u_Dim5] u_Factor_P_Sign u_Factor_P_Digits u_Factor_Q_Sign u_Factor_Q_Digits ∧ Fr.FrB n_P_Sign n_P_Digits n_Q_Sign n_Q_Digits)) ((Fr.fq n_P_Sign n_P_Digits n_Q_Digits) * (Fr.fq u_Factor_P_Sign u_Factor_P_Digits u_Factor_Q_Digits)), (g.ss 1)⟩)), iv (if (Un.UR [u_Dim0, u_Dim1, u_Dim2, u_Dim3, u_Dim4, u_Dim5] u_Factor_P_Sign u_Factor_P_Digits u_Factor_Q_Sign u_Factor_Q_Digits ∧ Fr.FrB n_P_Sign n_P_Digits n_Q_Sign n_Q_Digits) then (0 : Int) else 1)]) (fun g => [fs true (Fr.rD ((Un.UR [u_Dim0, u_Dim1, u_Dim2, u_Dim3, u_Dim4, u_Dim5] u_Factor_P_Sign u_Factor_P_Digits u_Factor_Q_Sign u_Factor_Q_Digits ∧ Fr.FrB n_P_Sign n_P_Digits n_Q_Sign n_Q_Digits)) ((Fr.fq n_P_Sign n_P_Digits n_Q_Digits) * (Fr.fq u_Factor_P_Sign u_Factor_P_Digits u_Factor_Q_Digits))) (g.ss 0), fs true (Fr.rE ((Un.UR [u_Dim0, u_Dim1, u_Dim2, u_Dim3, u_Dim4, u_Dim5] u_Factor_P_Sign u_Factor_P_Digits u_Factor_Q_Sign u_Factor_Q_Digits ∧ Fr.FrB n_P_Sign n_P_Digits n_Q_Sign n_Q_Digits)) ((Fr.fq n_P_Sign n_P_Digits n_Q_Digits) * (Fr.fq u_Factor_P_Sign u_Factor_P_Digits u_Factor_Q_Digits))) (g.ss 1)]) (fun g => []) (fun g => []) := by
  refine V.fn mo Try.func25 25 4 (by kernel_rfl) fun w H ε k0 => ?_
  obtain ⟨⟨kl1, -⟩, ⟨kl2, -⟩, ⟨kl3, -⟩, ⟨kl4, -⟩, -⟩ : Lq n_P_Digits n_P_Digitss.v ∧ Lq n_Q_Digits n_Q_Digitss.v ∧ Lq u_Factor_P_Digits u_Factor_P_Digitss.v ∧ Lq u_Factor_Q_Digits u_Factor_Q_Digitss.v ∧ True := kn k0 (by kernel_rfl)
  clear k0
  refine V.g [.nb 0 0 (fun b => pp b 0) 30 (fun _ => ca (DFrac.mk (DBig.mk n_P_Sign ⟨n_P_Digits, n_P_Digitss⟩) (DBig.mk n_Q_Sign ⟨n_Q_Digits, n_Q_Digitss⟩))),.nb 1 1 (fun b => pp b 0) 32 (fun _ => #[iv u_Dim0, iv u_Dim1, iv u_Dim2, iv u_Dim3, iv u_Dim4, iv u_Dim5, iv u_Factor_P_Sign, u_Factor_P_Digitss.v, iv u_Factor_Q_Sign, u_Factor_Q_Digitss.v]),.nb 2 2 (fun b => pp b 0) 30 (fun _ => ca (DFrac.mk (DBig.mk 0 ⟨[], {}⟩) (DBig.mk 0 ⟨[], {}⟩))),.k (iv 0)] fun _ _ G1 => ?_
  intro S_ s_
  refine nm ((!(decide (Un.UR [u_Dim0, u_Dim1, u_Dim2, u_Dim3, u_Dim4, u_Dim5] u_Factor_P_Sign u_Factor_P_Digits u_Factor_Q_Sign u_Factor_Q_Digits))) || (!(decide (Fr.FrB n_P_Sign n_P_Digits n_Q_Sign n_Q_Digits))) : Bool) fun p1 hp1 => ?_
  refine V.g [.ld 1 0 true (fun _ => [iv u_Dim0, iv u_Dim1, iv u_Dim2, iv u_Dim3, iv u_Dim4, iv u_Dim5, iv u_Factor_P_Sign, u_Factor_P_Digitss.v, iv u_Factor_Q_Sign, u_Factor_Q_Digitss.v]),.cp g0 1 23 [(kf false (.f 2) u_Factor_P_Digits (fun _ => u_Factor_P_Digitss)).a, (kf false (.f 3) u_Factor_Q_Digits (fun _ => u_Factor_Q_Digitss)).a] (fun _ G => uright_ct u_Dim0 u_Dim1 u_Dim2 u_Dim3 u_Dim4 u_Dim5 u_Factor_P_Sign u_Factor_P_Digits u_Factor_P_Digitss u_Factor_Q_Sign u_Factor_Q_Digits u_Factor_Q_Digitss (by omega) (by omega)),.k (bv (!(decide (Un.UR [u_Dim0, u_Dim1, u_Dim2, u_Dim3, u_Dim4, u_Dim5] u_Factor_P_Sign u_Factor_P_Digits u_Factor_Q_Sign u_Factor_Q_Digits)))),.k (bv (!(decide (Un.UR [u_Dim0, u_Dim1, u_Dim2, u_Dim3, u_Dim4, u_Dim5] u_Factor_P_Sign u_Factor_P_Digits u_Factor_Q_Sign u_Factor_Q_Digits)))),.ld 0 0 true (fun _ => Dat.cells (DFrac.mk (DBig.mk n_P_Sign ⟨n_P_Digits, n_P_Digitss⟩) (DBig.mk n_Q_Sign ⟨n_Q_Digits, n_Q_Digitss⟩))),.cp (gF (b := !(decide (Un.UR [u_Dim0, u_Dim1, u_Dim2, u_Dim3, u_Dim4, u_Dim5] u_Factor_P_Sign u_Factor_P_Digits u_Factor_Q_Sign u_Factor_Q_Digits))) (iNF iDT)) 5 24 [(kf false (.f 0) n_P_Digits (fun _ => n_P_Digitss)).a, (kf false (.f 1) n_Q_Digits (fun _ => n_Q_Digitss)).a] (fun hg G => right_ct n_P_Sign n_P_Digits n_P_Digitss n_Q_Sign n_Q_Digits n_Q_Digitss (by omega) (by omega)),.k (bv (!(decide (Fr.FrB n_P_Sign n_P_Digits n_Q_Sign n_Q_Digits)))),.orn g0 false (!(decide (Un.UR [u_Dim0, u_Dim1, u_Dim2, u_Dim3, u_Dim4, u_Dim5] u_Factor_P_Sign u_Factor_P_Digits u_Factor_Q_Sign u_Factor_Q_Digits))) (!(decide (Fr.FrB n_P_Sign n_P_Digits n_Q_Sign n_Q_Digits))) p1 hp1] fun _ _ G2 => ?_
  intro S_ s_
  refine V.cond (b := p1) (iN hp1 (iOT (iNT iDF) (iNT iDF))) (iN hp1 (iOF (iNF iDT) (iNF iDT))) (by kernel_rfl) (fun q1 => ?_) (fun q2 => ?_)
  · have hN : ¬ (Un.UR [u_Dim0, u_Dim1, u_Dim2, u_Dim3, u_Dim4, u_Dim5] u_Factor_P_Sign u_Factor_P_Digits u_Factor_Q_Sign u_Factor_Q_Digits ∧ Fr.FrB n_P_Sign n_P_Digits n_Q_Sign n_Q_Digits) := by rintro ⟨h1, h2⟩; rcases q1 with h | h; exact h h1; exact h h2
    refine V.g [.k (ag (DFrac.mk (DBig.mk 0 ⟨[], {}⟩) (DBig.mk 0 ⟨[], {}⟩))),.st 2 (fun _ => .blk ((G1 2).b) (ca (DFrac.mk (DBig.mk 0 ⟨[], {}⟩) (DBig.mk 0 ⟨[], {}⟩))) 30),.k (iv 1)] fun _ _ G3 => ?_
    intro S_ s_
    refine V.nilF (α := Int) ?_
    refine V.nilF (α := Int) ?_
    have e1 : ([] : List Int) = Fr.rD ((Un.UR [u_Dim0, u_Dim1, u_Dim2, u_Dim3, u_Dim4, u_Dim5] u_Factor_P_Sign u_Factor_P_Digits u_Factor_Q_Sign u_Factor_Q_Digits ∧ Fr.FrB n_P_Sign n_P_Digits n_Q_Sign n_Q_Digits)) ((Fr.fq n_P_Sign n_P_Digits n_Q_Digits) * (Fr.fq u_Factor_P_Sign u_Factor_P_Digits u_Factor_Q_Digits)) := (Fr.Fz.no hN ((Fr.fq n_P_Sign n_P_Digits n_Q_Digits) * (Fr.fq u_Factor_P_Sign u_Factor_P_Digits u_Factor_Q_Digits))).2.1
    rw [← e1]
    have e3 : ([] : List Int) = Fr.rE ((Un.UR [u_Dim0, u_Dim1, u_Dim2, u_Dim3, u_Dim4, u_Dim5] u_Factor_P_Sign u_Factor_P_Digits u_Factor_Q_Sign u_Factor_Q_Digits ∧ Fr.FrB n_P_Sign n_P_Digits n_Q_Sign n_Q_Digits)) ((Fr.fq n_P_Sign n_P_Digits n_Q_Digits) * (Fr.fq u_Factor_P_Sign u_Factor_P_Digits u_Factor_Q_Digits)) := (Fr.Fz.no hN ((Fr.fq n_P_Sign n_P_Digits n_Q_Digits) * (Fr.fq u_Factor_P_Sign u_Factor_P_Digits u_Factor_Q_Digits))).2.2.2
    rw [← e3]
    have e0 : (0 : Int) = Fr.rS ((Un.UR [u_Dim0, u_Dim1, u_Dim2, u_Dim3, u_Dim4, u_Dim5] u_Factor_P_Sign u_Factor_P_Digits u_Factor_Q_Sign u_Factor_Q_Digits ∧ Fr.FrB n_P_Sign n_P_Digits n_Q_Sign n_Q_Digits)) ((Fr.fq n_P_Sign n_P_Digits n_Q_Digits) * (Fr.fq u_Factor_P_Sign u_Factor_P_Digits u_Factor_Q_Digits)) := (Fr.Fz.no hN ((Fr.fq n_P_Sign n_P_Digits n_Q_Digits) * (Fr.fq u_Factor_P_Sign u_Factor_P_Digits u_Factor_Q_Digits))).1
    have e2 : (0 : Int) = Fr.rT ((Un.UR [u_Dim0, u_Dim1, u_Dim2, u_Dim3, u_Dim4, u_Dim5] u_Factor_P_Sign u_Factor_P_Digits u_Factor_Q_Sign u_Factor_Q_Digits ∧ Fr.FrB n_P_Sign n_P_Digits n_Q_Sign n_Q_Digits)) := (Fr.Fz.no hN ((Fr.fq n_P_Sign n_P_Digits n_Q_Digits) * (Fr.fq u_Factor_P_Sign u_Factor_P_Digits u_Factor_Q_Digits))).2.2.1
    have e4 : (1 : Int) = if (Un.UR [u_Dim0, u_Dim1, u_Dim2, u_Dim3, u_Dim4, u_Dim5] u_Factor_P_Sign u_Factor_P_Digits u_Factor_Q_Sign u_Factor_Q_Digits ∧ Fr.FrB n_P_Sign n_P_Digits n_Q_Sign n_Q_Digits) then (0 : Int) else 1 := (if_neg hN).symm
    exact V.ret [2, 0] [{}, {}] [fun _ => {}, fun _ => {}] [] [4, 5] [] (.tuple #[ag (DFrac.mk (DBig.mk 0 ⟨([] : List Int), {}⟩) (DBig.mk 0 ⟨([] : List Int), {}⟩)), iv 1]) (fun _ _ => by kernel_rfl) (fun _ _ => (Eq.trans (by kernel_rfl) (cong3 (fun (x0 : Int) (x2 : Int) (x4 : Int) => (.tuple #[.agg #[iv x0, SV.v ({}), iv x2, SV.v ({})], iv x4] : Value)) e0 e2 e4)).trans (by kernel_rfl)) (fun _ _ => trivial)
  have hP : (Un.UR [u_Dim0, u_Dim1, u_Dim2, u_Dim3, u_Dim4, u_Dim5] u_Factor_P_Sign u_Factor_P_Digits u_Factor_Q_Sign u_Factor_Q_Digits ∧ Fr.FrB n_P_Sign n_P_Digits n_Q_Sign n_Q_Digits) := by first | exact q2 | exact ⟨Decidable.not_not.1 (q2).1, Decidable.not_not.1 (q2).2⟩
  refine nm (Fr.rS (Fr.FrB n_P_Sign n_P_Digits n_Q_Sign n_Q_Digits ∧ Fr.FrB u_Factor_P_Sign u_Factor_P_Digits u_Factor_Q_Sign u_Factor_Q_Digits) ((Fr.fq n_P_Sign n_P_Digits n_Q_Digits) * (Fr.fq u_Factor_P_Sign u_Factor_P_Digits u_Factor_Q_Digits)) : Int) fun n1 hn1 => ?_
  refine nm (Fr.rD (Fr.FrB n_P_Sign n_P_Digits n_Q_Sign n_Q_Digits ∧ Fr.FrB u_Factor_P_Sign u_Factor_P_Digits u_Factor_Q_Sign u_Factor_Q_Digits) ((Fr.fq n_P_Sign n_P_Digits n_Q_Digits) * (Fr.fq u_Factor_P_Sign u_Factor_P_Digits u_Factor_Q_Digits)) : List Int) fun l1 hl1 => ?_
  have hl1n := congrArg List.length hl1
  refine nm (Fr.rT (Fr.FrB n_P_Sign n_P_Digits n_Q_Sign n_Q_Digits ∧ Fr.FrB u_Factor_P_Sign u_Factor_P_Digits u_Factor_Q_Sign u_Factor_Q_Digits) : Int) fun n2 hn2 => ?_
  refine nm (Fr.rE (Fr.FrB n_P_Sign n_P_Digits n_Q_Sign n_Q_Digits ∧ Fr.FrB u_Factor_P_Sign u_Factor_P_Digits u_Factor_Q_Sign u_Factor_Q_Digits) ((Fr.fq n_P_Sign n_P_Digits n_Q_Digits) * (Fr.fq u_Factor_P_Sign u_Factor_P_Digits u_Factor_Q_Digits)) : List Int) fun l2 hl2 => ?_
  have hl2n := congrArg List.length hl2
  refine nm (if ¬ (Fr.FrB n_P_Sign n_P_Digits n_Q_Sign n_Q_Digits ∧ Fr.FrB u_Factor_P_Sign u_Factor_P_Digits u_Factor_Q_Sign u_Factor_Q_Digits) then (1 : Int) else 0 : Int) fun n3 hn3 => ?_
  have zf := Fr.Fz.of ⟨hP.2, hP.1.2.1⟩ hn1 hl1 hn2 hl2
  refine V.r [.ld 0 0 true (fun _ => Dat.cells (DFrac.mk (DBig.mk n_P_Sign ⟨n_P_Digits, n_P_Digitss⟩) (DBig.mk n_Q_Sign ⟨n_Q_Digits, n_Q_Digitss⟩))),.k (pp ((G1 1).b) 6),.ld 1 6 true (fun _ => Dat.cells (DFrac.mk (DBig.mk u_Factor_P_Sign ⟨u_Factor_P_Digits, u_Factor_P_Digitss⟩) (DBig.mk u_Factor_Q_Sign ⟨u_Factor_Q_Digits, u_Factor_Q_Digitss⟩))),.ct g0 3 20 false [] [] [(kf false (.f 0) n_P_Digits (fun _ => n_P_Digitss)).a, (kf false (.f 1) n_Q_Digits (fun _ => n_Q_Digitss)).a, (kf false (.f 2) u_Factor_P_Digits (fun _ => u_Factor_P_Digitss)).a, (kf false (.f 3) u_Factor_Q_Digits (fun _ => u_Factor_Q_Digitss)).a] (fun _ G => fmul_ctv n_P_Sign n_P_Digits n_P_Digitss n_Q_Sign n_Q_Digits n_Q_Digitss u_Factor_P_Sign u_Factor_P_Digits u_Factor_P_Digitss u_Factor_Q_Sign u_Factor_Q_Digits u_Factor_Q_Digitss (by omega) (by omega) (by omega) (by omega) n1 hn1 l1 hl1 n2 hn2 l2 hl2 n3 hn3),.v fun G => .tuple #[ag (DFrac.mk (DBig.mk n1 ⟨l1, (G 3).ss 0⟩) (DBig.mk n2 ⟨l2, (G 3).ss 1⟩)), iv n3],.v fun G => ag (DFrac.mk (DBig.mk n1 ⟨l1, (G 3).ss 0⟩) (DBig.mk n2 ⟨l2, (G 3).ss 1⟩)),.k (iv n3),.nb 7 3 (fun b => pp b 0) 30 (fun _ => ca (DFrac.mk (DBig.mk 0 ⟨[], {}⟩) (DBig.mk 0 ⟨[], {}⟩))),.st 3 (fun G => .blk ((G 7).b) (ca (DFrac.mk (DBig.mk n1 ⟨l1, (G 3).ss 0⟩) (DBig.mk n2 ⟨l2, (G 3).ss 1⟩))) 30),.k (iv n3)] fun _ _ G4 kw4 => ?_
  intro S_ s_
  obtain ⟨⟨kl5, -⟩, ⟨kl6, -⟩, -⟩ : Lq l1 (((G4 3).ss 0).v) ∧ Lq l2 (((G4 3).ss 1).v) ∧ True := kn kw4 (by kernel_rfl)
  clear kw4
  refine V.g [.ld 3 0 true (fun _ => Dat.cells (DFrac.mk (DBig.mk n1 ⟨l1, (G4 3).ss 0⟩) (DBig.mk n2 ⟨l2, (G4 3).ss 1⟩))),.st 2 (fun _ => .blk ((G1 2).b) (ca (DFrac.mk (DBig.mk n1 ⟨l1, (G4 3).ss 0⟩) (DBig.mk n2 ⟨l2, (G4 3).ss 1⟩))) 30),.k (iv 0)] fun _ _ G5 => ?_
  intro S_ s_
  have e1 : l1 = Fr.rD ((Un.UR [u_Dim0, u_Dim1, u_Dim2, u_Dim3, u_Dim4, u_Dim5] u_Factor_P_Sign u_Factor_P_Digits u_Factor_Q_Sign u_Factor_Q_Digits ∧ Fr.FrB n_P_Sign n_P_Digits n_Q_Sign n_Q_Digits)) ((Fr.fq n_P_Sign n_P_Digits n_Q_Digits) * (Fr.fq u_Factor_P_Sign u_Factor_P_Digits u_Factor_Q_Digits)) := (Fr.Fz.ret zf hP (rfl)).2.1
  subst e1
  have e3 : l2 = Fr.rE ((Un.UR [u_Dim0, u_Dim1, u_Dim2, u_Dim3, u_Dim4, u_Dim5] u_Factor_P_Sign u_Factor_P_Digits u_Factor_Q_Sign u_Factor_Q_Digits ∧ Fr.FrB n_P_Sign n_P_Digits n_Q_Sign n_Q_Digits)) ((Fr.fq n_P_Sign n_P_Digits n_Q_Digits) * (Fr.fq u_Factor_P_Sign u_Factor_P_Digits u_Factor_Q_Digits)) := (Fr.Fz.ret zf hP (rfl)).2.2.2
  subst e3
  have e0 : n1 = Fr.rS ((Un.UR [u_Dim0, u_Dim1, u_Dim2, u_Dim3, u_Dim4, u_Dim5] u_Factor_P_Sign u_Factor_P_Digits u_Factor_Q_Sign u_Factor_Q_Digits ∧ Fr.FrB n_P_Sign n_P_Digits n_Q_Sign n_Q_Digits)) ((Fr.fq n_P_Sign n_P_Digits n_Q_Digits) * (Fr.fq u_Factor_P_Sign u_Factor_P_Digits u_Factor_Q_Digits)) := (Fr.Fz.ret zf hP (rfl)).1
  have e2 : n2 = Fr.rT ((Un.UR [u_Dim0, u_Dim1, u_Dim2, u_Dim3, u_Dim4, u_Dim5] u_Factor_P_Sign u_Factor_P_Digits u_Factor_Q_Sign u_Factor_Q_Digits ∧ Fr.FrB n_P_Sign n_P_Digits n_Q_Sign n_Q_Digits)) := (Fr.Fz.ret zf hP (rfl)).2.2.1
  have e4 : (0 : Int) = if (Un.UR [u_Dim0, u_Dim1, u_Dim2, u_Dim3, u_Dim4, u_Dim5] u_Factor_P_Sign u_Factor_P_Digits u_Factor_Q_Sign u_Factor_Q_Digits ∧ Fr.FrB n_P_Sign n_P_Digits n_Q_Sign n_Q_Digits) then (0 : Int) else 1 := (if_pos hP).symm
  exact V.ret [2, 0] [(G4 3).ss 0, (G4 3).ss 1] [fun _ => {}, fun _ => {}] [] [4, 5] [] (.tuple #[ag (DFrac.mk (DBig.mk n1 ⟨(Fr.rD ((Un.UR [u_Dim0, u_Dim1, u_Dim2, u_Dim3, u_Dim4, u_Dim5] u_Factor_P_Sign u_Factor_P_Digits u_Factor_Q_Sign u_Factor_Q_Digits ∧ Fr.FrB n_P_Sign n_P_Digits n_Q_Sign n_Q_Digits)) ((Fr.fq n_P_Sign n_P_Digits n_Q_Digits) * (Fr.fq u_Factor_P_Sign u_Factor_P_Digits u_Factor_Q_Digits))), (G4 3).ss 0⟩) (DBig.mk n2 ⟨(Fr.rE ((Un.UR [u_Dim0, u_Dim1, u_Dim2, u_Dim3, u_Dim4, u_Dim5] u_Factor_P_Sign u_Factor_P_Digits u_Factor_Q_Sign u_Factor_Q_Digits ∧ Fr.FrB n_P_Sign n_P_Digits n_Q_Sign n_Q_Digits)) ((Fr.fq n_P_Sign n_P_Digits n_Q_Digits) * (Fr.fq u_Factor_P_Sign u_Factor_P_Digits u_Factor_Q_Digits))), (G4 3).ss 1⟩)), iv 0]) (fun _ _ => by kernel_rfl) (fun _ _ => (Eq.trans (by kernel_rfl) (cong3 (fun (x0 : Int) (x2 : Int) (x4 : Int) => (.tuple #[.agg #[iv x0, ((G4 3).ss 0).v, iv x2, ((G4 3).ss 1).v], iv x4] : Value)) e0 e2 e4)).trans (by kernel_rfl)) (fun _ _ => trivial)
theorem ufrom_ctv (n_P_Sign : Int) (n_P_Digits : List Int) (n_P_Digitss : SV) (n_Q_Sign : Int) (n_Q_Digits : List Int) (n_Q_Digitss : SV) (u_Dim0 u_Dim1 u_Dim2 u_Dim3 u_Dim4 u_Dim5 u_Factor_P_Sign : Int) (u_Factor_P_Digits : List Int) (u_Factor_P_Digitss : SV) (u_Factor_Q_Sign : Int) (u_Factor_Q_Digits : List Int) (u_Factor_Q_Digitss : SV) (huP : u_Factor_P_Digits.length ≤ 17179869184) (huQ : u_Factor_Q_Digits.length ≤ 17179869184) (hnP : n_P_Digits.length ≤ 17179869184) (hnQ : n_Q_Digits.length ≤ 17179869184) (rv0 : Int) (erv0 : rv0 = Fr.rS ((Un.UR [u_Dim0, u_Dim1, u_Dim2, u_Dim3, u_Dim4, u_Dim5] u_Factor_P_Sign u_Factor_P_Digits u_Factor_Q_Sign u_Factor_Q_Digits ∧ Fr.FrB n_P_Sign n_P_Digits n_Q_Sign n_Q_Digits)) ((Fr.fq n_P_Sign n_P_Digits n_Q_Digits) * (Fr.fq u_Factor_P_Sign u_Factor_P_Digits u_Factor_Q_Digits))) (rv1 : List Int) (erv1 : rv1 = Fr.rD ((Un.UR [u_Dim0, u_Dim1, u_Dim2, u_Dim3, u_Dim4, u_Dim5] u_Factor_P_Sign u_Factor_P_Digits u_Factor_Q_Sign u_Factor_Q_Digits ∧ Fr.FrB n_P_Sign n_P_Digits n_Q_Sign n_Q_Digits)) ((Fr.fq n_P_Sign n_P_Digits n_Q_Digits) * (Fr.fq u_Factor_P_Sign u_Factor_P_Digits u_Factor_Q_Digits))) (rv2 : Int) (erv2 : rv2 = Fr.rT ((Un.UR [u_Dim0, u_Dim1, u_Dim2, u_Dim3, u_Dim4, u_Dim5] u_Factor_P_Sign u_Factor_P_Digits u_Factor_Q_Sign u_Factor_Q_Digits ∧ Fr.FrB n_P_Sign n_P_Digits n_Q_Sign n_Q_Digits))) (rv3 : List Int) (erv3 : rv3 = Fr.rE ((Un.UR [u_Dim0, u_Dim1, u_Dim2, u_Dim3, u_Dim4, u_Dim5] u_Factor_P_Sign u_Factor_P_Digits u_Factor_Q_Sign u_Factor_Q_Digits ∧ Fr.FrB n_P_Sign n_P_Digits n_Q_Sign n_Q_Digits)) ((Fr.fq n_P_Sign n_P_Digits n_Q_Digits) * (Fr.fq u_Factor_P_Sign u_Factor_P_Digits u_Factor_Q_Digits))) (rv4 : Int) (erv4 : rv4 = if (Un.UR [u_Dim0, u_Dim1, u_Dim2, u_Dim3, u_Dim4, u_Dim5] u_Factor_P_Sign u_Factor_P_Digits u_Factor_Q_Sign u_Factor_Q_Digits ∧ Fr.FrB n_P_Sign n_P_Digits n_Q_Sign n_Q_Digits) then (0 : Int) else 1) :
    Ct Try.prog 25 #[ag (DFrac.mk (DBig.mk n_P_Sign ⟨n_P_Digits, n_P_Digitss⟩) (DBig.mk n_Q_Sign ⟨n_Q_Digits, n_Q_Digitss⟩)), .agg #[iv u_Dim0, iv u_Dim1, iv u_Dim2, iv u_Dim3, iv u_Dim4, iv u_Dim5, iv u_Factor_P_Sign, u_Factor_P_Digitss.v, iv u_Factor_Q_Sign, u_Factor_Q_Digitss.v]] [fs true n_P_Digits n_P_Digitss, fs true n_Q_Digits n_Q_Digitss, fs true u_Factor_P_Digits u_Factor_P_Digitss, fs true u_Factor_Q_Digits u_Factor_Q_Digitss] [] (fun g => .tuple #[ag (DFrac.mk (DBig.mk rv0 ⟨rv1, (g.ss 0)⟩) (DBig.mk rv2 ⟨rv3, (g.ss 1)⟩)), iv rv4]) (fun g => [fs true rv1 (g.ss 0), fs true rv3 (g.ss 1)]) (fun g => []) (fun g => []) := by
  subst erv0 erv1 erv2 erv3 erv4; exact ufrom_ct n_P_Sign n_P_Digits n_P_Digitss n_Q_Sign n_Q_Digits n_Q_Digitss u_Dim0 u_Dim1 u_Dim2 u_Dim3 u_Dim4 u_Dim5 u_Factor_P_Sign u_Factor_P_Digits u_Factor_P_Digitss u_Factor_Q_Sign u_Factor_Q_Digits u_Factor_Q_Digitss huP huQ hnP hnQ
set_option maxRecDepth 10000 in
theorem means_ct (s d : ByteArray) (p q : Int) (hs : s.size ≤ 1000000) (hp : -9223372036854775808 ≤ p ∧ p ≤ 9223372036854775807) (hq : -9223372036854775808 ≤ q ∧ q ≤ 9223372036854775807) (hq0 : q ≠ 0) :
    Cp Try.prog 43 #[tv s, tv d, iv p, iv q] [] (bv (decide (Un.means s d p q))) := by
  refine V.fn mo Try.func43 39 2 (by kernel_rfl) fun w H ε k0 => ?_
  clear k0
  refine V.g [.kb false] fun _ _ G1 => ?_
  intro S_ s_
  refine nm (Un.dv ((Un.read s).1) 0 : Int) fun n1 hn1 => ?_
  refine nm (Un.dv ((Un.read s).1) 1 : Int) fun n2 hn2 => ?_
  refine nm (Un.dv ((Un.read s).1) 2 : Int) fun n3 hn3 => ?_
  refine nm (Un.dv ((Un.read s).1) 3 : Int) fun n4 hn4 => ?_
  refine nm (Un.dv ((Un.read s).1) 4 : Int) fun n5 hn5 => ?_
  refine nm (Un.dv ((Un.read s).1) 5 : Int) fun n6 hn6 => ?_
  refine nm (Fr.rS (((Un.read s).1).isSome = true) (Un.fv ((Un.read s).1)) : Int) fun n7 hn7 => ?_
  refine nm (Fr.rD (((Un.read s).1).isSome = true) (Un.fv ((Un.read s).1)) : List Int) fun l1 hl1 => ?_
  have hl1n := congrArg List.length hl1
  refine nm (Fr.rT (((Un.read s).1).isSome = true) : Int) fun n8 hn8 => ?_
  refine nm (Fr.rE (((Un.read s).1).isSome = true) (Un.fv ((Un.read s).1)) : List Int) fun l2 hl2 => ?_
  have hl2n := congrArg List.length hl2
  refine nm ((Un.read s).2 : Int) fun n9 hn9 => ?_
  have zr : (Un.read s).1.isSome = true → _ := fun h => Fr.Fz.of h hn7 hl1 hn8 hl2
  refine V.r [.k (tv s),.ct g0 1 13 false [] [] [] (fun _ G => uread_ctv s (by omega) n1 hn1 n2 hn2 n3 hn3 n4 hn4 n5 hn5 n6 hn6 n7 hn7 l1 hl1 n8 hn8 l2 hl2 n9 hn9),.v fun G => .tuple #[.agg #[iv n1, iv n2, iv n3, iv n4, iv n5, iv n6, iv n7, ((G 1).ss 0).v, iv n8, ((G 1).ss 1).v], iv n9],.v fun G => .agg #[iv n1, iv n2, iv n3, iv n4, iv n5, iv n6, iv n7, ((G 1).ss 0).v, iv n8, ((G 1).ss 1).v],.k (iv n9),.nb 5 0 (fun b => pp b 0) 32 (fun _ => #[iv 0, iv 0, iv 0, iv 0, iv 0, iv 0, iv 0, .slice none 0 0, iv 0, .slice none 0 0]),.st 0 (fun G => .blk ((G 5).b) #[iv n1, iv n2, iv n3, iv n4, iv n5, iv n6, iv n7, ((G 1).ss 0).v, iv n8, ((G 1).ss 1).v] 32),.k (iv n9)] fun _ _ G2 kw2 => ?_
  intro S_ s_
  obtain ⟨⟨kl1, -⟩, ⟨kl2, -⟩, -⟩ : Lq l1 (((G2 1).ss 0).v) ∧ Lq l2 (((G2 1).ss 1).v) ∧ True := kn kw2 (by kernel_rfl)
  clear kw2
  refine nm (Fr.rS (q ≠ 0) (Rat.divInt p q) : Int) fun n10 hn10 => ?_
  refine nm (Fr.rD (q ≠ 0) (Rat.divInt p q) : List Int) fun l3 hl3 => ?_
  have hl3n := congrArg List.length hl3
  refine nm (Fr.rT (q ≠ 0) : Int) fun n11 hn11 => ?_
  refine nm (Fr.rE (q ≠ 0) (Rat.divInt p q) : List Int) fun l4 hl4 => ?_
  have hl4n := congrArg List.length hl4
  refine nm (if q = 0 then (15 : Int) else 0 : Int) fun n12 hn12 => ?_
  have zo := Fr.Fz.of hq0 hn10 hl3 hn11 hl4
  refine V.r [.k (iv p),.k (iv q),.ct g0 2 18 false [] [] [] (fun _ G => r5of_ctv p q (by omega) (by omega) n10 hn10 l3 hl3 n11 hn11 l4 hl4 n12 hn12),.v fun G => .tuple #[ag (DFrac.mk (DBig.mk n10 ⟨l3, (G 2).ss 0⟩) (DBig.mk n11 ⟨l4, (G 2).ss 1⟩)), iv n12],.v fun G => ag (DFrac.mk (DBig.mk n10 ⟨l3, (G 2).ss 0⟩) (DBig.mk n11 ⟨l4, (G 2).ss 1⟩)),.k (iv n12),.nb 6 1 (fun b => pp b 0) 30 (fun _ => ca (DFrac.mk (DBig.mk 0 ⟨[], {}⟩) (DBig.mk 0 ⟨[], {}⟩))),.st 1 (fun G => .blk ((G 6).b) (ca (DFrac.mk (DBig.mk n10 ⟨l3, (G 2).ss 0⟩) (DBig.mk n11 ⟨l4, (G 2).ss 1⟩))) 30),.k (iv n12)] fun _ _ G3 kw3 => ?_
  intro S_ s_
  obtain ⟨⟨kl3, -⟩, ⟨kl4, -⟩, -⟩ : Lq l3 (((G3 2).ss 0).v) ∧ Lq l4 (((G3 2).ss 1).v) ∧ True := kn kw3 (by kernel_rfl)
  clear kw3
  refine nm (Dm.text [n1, n2, n3, n4, n5, n6] : ByteArray) fun t1 ht1 => ?_
  refine nm (((decide (n9 = 0)) && (decide (t1 = d))) && (decide (n7 = n10 ∧ l1 = l3 ∧ n8 = n11 ∧ l2 = l4)) : Bool) fun p1 hp1 => ?_
  refine V.g [.k (iv n9),.k (bv (decide (n9 = 0))),.k (bv (decide (n9 = 0))),.k (pp ((G2 5).b) 0),.ld 0 0 true (fun _ => [iv n1, iv n2, iv n3, iv n4, iv n5, iv n6]),.cp (gT (b := decide (n9 = 0)) iDT) 5 14 [] (fun hg G => text_ctv n1 n2 n3 n4 n5 n6 t1 ht1),.k (tv d),.seq t1 d,.and g0 false (decide (n9 = 0)) (decide (t1 = d)),.k (bv ((decide (n9 = 0)) && (decide (t1 = d)))),.k (pp ((G2 5).b) 6),.ld 0 6 true (fun _ => Dat.cells (DFrac.mk (DBig.mk n7 ⟨l1, (G2 1).ss 0⟩) (DBig.mk n8 ⟨l2, (G2 1).ss 1⟩))),.ld 1 0 true (fun _ => Dat.cells (DFrac.mk (DBig.mk n10 ⟨l3, (G3 2).ss 0⟩) (DBig.mk n11 ⟨l4, (G3 2).ss 1⟩))),.cp (gT (b := (decide (n9 = 0)) && (decide (t1 = d))) (iAT iDT iDT)) 13 15 [(kf true (.f 0) l1 (fun _ => (G2 1).ss 0)).a, (kf true (.f 1) l2 (fun _ => (G2 1).ss 1)).a, (kf true (.f 2) l3 (fun _ => (G3 2).ss 0)).a, (kf true (.f 3) l4 (fun _ => (G3 2).ss 1)).a] (fun hg G => same5_ct n7 l1 ((G2 1).ss 0) n8 l2 ((G2 1).ss 1) n10 l3 ((G3 2).ss 0) n11 l4 ((G3 2).ss 1)),.andn g0 false ((decide (n9 = 0)) && (decide (t1 = d))) (decide (n7 = n10 ∧ l1 = l3 ∧ n8 = n11 ∧ l2 = l4)) p1 hp1,.k (bv p1)] fun _ _ G4 => ?_
  intro S_ s_
  have e0 : p1 = decide (Un.means s d p q) := by
    refine Bool.eq_iff_iff.2 (Iff.trans (iN hp1 (iAT (iAT iDT iDT) iDT)) (Iff.trans ?_ decide_eq_true_iff.symm))
    show (n9 = 0 ∧ t1 = d) ∧ _ ↔ _
    rw [ht1, hn1, hn2, hn3, hn4, hn5, hn6]
    constructor
    · rintro ⟨⟨h1, h2⟩, h3⟩
      rw [hn9] at h1
      have hs1 := Un.read_some h1
      exact ⟨⟨h1, h2⟩, hs1, (Fr.Fz.iff (zr hs1) zo).1 h3⟩
    rintro ⟨⟨h1, h2⟩, hs1, h3⟩
    exact ⟨⟨by rw [hn9]; exact h1, h2⟩, (Fr.Fz.iff (zr hs1) zo).2 h3⟩
  exact V.ret [0] [] [] [] [] [] (bv p1) (fun _ _ => by kernel_rfl) (fun _ _ => (Eq.trans (by kernel_rfl) (cong1 (fun (x0 : Bool) => (bv x0 : Value)) e0)).trans (by kernel_rfl)) (fun _ _ => trivial)
theorem meanst_ct (s d : ByteArray) (p q : Int) (hs : s.size ≤ 1000000) (hp : -9223372036854775808 ≤ p ∧ p ≤ 9223372036854775807) (hq : -9223372036854775808 ≤ q ∧ q ≤ 9223372036854775807) (hq0 : q ≠ 0) (hT : Un.means s d p q) :
    Cp Try.prog 43 #[tv s, tv d, iv p, iv q] [] (bv (true)) := by
  have h := means_ct  s d p q hs hp hq hq0; rw [decide_eq_true hT] at h; exact h
set_option maxRecDepth 10000 in
theorem fails_ct (s : ByteArray) (want : Int) (hs : s.size ≤ 1000000) :
    Cp Try.prog 44 #[tv s, iv want] [] (bv (decide ((Un.read s).2 = want))) := by
  refine V.fn mo Try.func44 15 1 (by kernel_rfl) fun w H ε k0 => ?_
  clear k0
  refine V.g [.kb false] fun _ _ G1 => ?_
  intro S_ s_
  refine nm (Un.dv ((Un.read s).1) 0 : Int) fun n1 hn1 => ?_
  refine nm (Un.dv ((Un.read s).1) 1 : Int) fun n2 hn2 => ?_
  refine nm (Un.dv ((Un.read s).1) 2 : Int) fun n3 hn3 => ?_
  refine nm (Un.dv ((Un.read s).1) 3 : Int) fun n4 hn4 => ?_
  refine nm (Un.dv ((Un.read s).1) 4 : Int) fun n5 hn5 => ?_
  refine nm (Un.dv ((Un.read s).1) 5 : Int) fun n6 hn6 => ?_
  refine nm (Fr.rS (((Un.read s).1).isSome = true) (Un.fv ((Un.read s).1)) : Int) fun n7 hn7 => ?_
  refine nm (Fr.rD (((Un.read s).1).isSome = true) (Un.fv ((Un.read s).1)) : List Int) fun l1 hl1 => ?_
  have hl1n := congrArg List.length hl1
  refine nm (Fr.rT (((Un.read s).1).isSome = true) : Int) fun n8 hn8 => ?_
  refine nm (Fr.rE (((Un.read s).1).isSome = true) (Un.fv ((Un.read s).1)) : List Int) fun l2 hl2 => ?_
  have hl2n := congrArg List.length hl2
  refine nm ((Un.read s).2 : Int) fun n9 hn9 => ?_
  refine V.r [.k (tv s),.ct g0 1 13 false [] [] [] (fun _ G => uread_ctv s (by omega) n1 hn1 n2 hn2 n3 hn3 n4 hn4 n5 hn5 n6 hn6 n7 hn7 l1 hl1 n8 hn8 l2 hl2 n9 hn9),.v fun G => .tuple #[.agg #[iv n1, iv n2, iv n3, iv n4, iv n5, iv n6, iv n7, ((G 1).ss 0).v, iv n8, ((G 1).ss 1).v], iv n9],.v fun G => .agg #[iv n1, iv n2, iv n3, iv n4, iv n5, iv n6, iv n7, ((G 1).ss 0).v, iv n8, ((G 1).ss 1).v],.k (iv n9),.nb 5 0 (fun b => pp b 0) 32 (fun _ => #[iv 0, iv 0, iv 0, iv 0, iv 0, iv 0, iv 0, .slice none 0 0, iv 0, .slice none 0 0]),.st 0 (fun G => .blk ((G 5).b) #[iv n1, iv n2, iv n3, iv n4, iv n5, iv n6, iv n7, ((G 1).ss 0).v, iv n8, ((G 1).ss 1).v] 32),.k (iv n9)] fun _ _ G2 kw2 => ?_
  intro S_ s_
  obtain ⟨⟨kl1, -⟩, ⟨kl2, -⟩, -⟩ : Lq l1 (((G2 1).ss 0).v) ∧ Lq l2 (((G2 1).ss 1).v) ∧ True := kn kw2 (by kernel_rfl)
  clear kw2
  refine V.g [.k (iv n9),.k (iv want),.k (bv (decide (n9 = want))),.k (bv (decide (n9 = want)))] fun _ _ G3 => ?_
  intro S_ s_
  have e0 : (decide (n9 = want)) = decide ((Un.read s).2 = want) := by rw [hn9]
  exact V.ret [0] [] [] [] [] [] (bv (decide (n9 = want))) (fun _ _ => by kernel_rfl) (fun _ _ => (Eq.trans (by kernel_rfl) (cong1 (fun (x0 : Bool) => (bv x0 : Value)) e0)).trans (by kernel_rfl)) (fun _ _ => trivial)
theorem failst_ct (s : ByteArray) (want : Int) (hs : s.size ≤ 1000000) (hT : (Un.read s).2 = want) :
    Cp Try.prog 44 #[tv s, iv want] [] (bv (true)) := by
  have h := fails_ct  s want hs; rw [decide_eq_true hT] at h; exact h
set_option maxRecDepth 10000 in
theorem sane9_ct :
    Cp Try.prog 11 #[] [] (bv true) := by
  refine V.fn mo Try.func11 81 3 (by kernel_rfl) fun w H ε k0 => ?_
  clear k0
  refine V.g [.kb false] fun _ _ G1 => ?_
  intro S_ s_
  refine V.g [.cp g0 0 43 [] (fun _ G => meanst_ct ⟨#[107, 87, 104]⟩ ⟨#[74]⟩ (3600000 : Int) (1 : Int) (by decide) ⟨by decide, by decide⟩ ⟨by decide, by decide⟩ (by decide) Un.means1),.kb true,.cp g0 2 43 [] (fun _ G => meanst_ct ⟨#[107, 103, 47, 109, 51]⟩ ⟨#[103, 47, 109, 51]⟩ (1000 : Int) (1 : Int) (by decide) ⟨by decide, by decide⟩ ⟨by decide, by decide⟩ (by decide) Un.means2),.kb true,.kb true,.cp g0 5 43 [] (fun _ G => meanst_ct ⟨#[108, 47, 104]⟩ ⟨#[109, 51, 47, 115]⟩ (1 : Int) (3600000 : Int) (by decide) ⟨by decide, by decide⟩ ⟨by decide, by decide⟩ (by decide) Un.means3),.kb true,.kb true,.cp g0 8 43 [] (fun _ G => meanst_ct ⟨#[49, 47, 100, 50]⟩ ⟨#[49, 47, 115, 50]⟩ (1 : Int) (7464960000 : Int) (by decide) ⟨by decide, by decide⟩ ⟨by decide, by decide⟩ (by decide) Un.means4),.kb true,.kb true,.cp g0 11 43 [] (fun _ G => meanst_ct ⟨#[109, 109, 50]⟩ ⟨#[109, 50]⟩ (1 : Int) (1000000 : Int) (by decide) ⟨by decide, by decide⟩ ⟨by decide, by decide⟩ (by decide) Un.means5),.kb true,.kb true,.cp g0 14 43 [] (fun _ G => meanst_ct ByteArray.empty ⟨#[49]⟩ (1 : Int) (1 : Int) (by decide) ⟨by decide, by decide⟩ ⟨by decide, by decide⟩ (by decide) Un.means6),.kb true,.kb true,.cp g0 17 43 [] (fun _ G => meanst_ct ⟨#[49]⟩ ⟨#[49]⟩ (1 : Int) (1 : Int) (by decide) ⟨by decide, by decide⟩ ⟨by decide, by decide⟩ (by decide) Un.means7),.kb true,.kb true,.cp g0 20 43 [] (fun _ G => meanst_ct ⟨#[109, 57, 42, 109, 47, 109]⟩ ⟨#[109, 57]⟩ (1 : Int) (1 : Int) (by decide) ⟨by decide, by decide⟩ ⟨by decide, by decide⟩ (by decide) Un.means8),.kb true,.kb true] fun _ _ G2 => ?_
  intro S_ s_
  refine V.g [.cp g0 0 44 [] (fun _ G => failst_ct ⟨#[107, 116]⟩ (11 : Int) (by decide) Un.fails1),.kb true,.cp g0 2 44 [] (fun _ G => failst_ct ⟨#[87]⟩ (11 : Int) (by decide) Un.fails2),.kb true,.kb true,.cp g0 5 44 [] (fun _ G => failst_ct ⟨#[103, 47]⟩ (12 : Int) (by decide) Un.fails3),.kb true,.kb true,.cp g0 8 44 [] (fun _ G => failst_ct ⟨#[103, 49]⟩ (12 : Int) (by decide) Un.fails4),.kb true,.kb true,.cp g0 11 44 [] (fun _ G => failst_ct ⟨#[50]⟩ (12 : Int) (by decide) Un.fails5),.kb true,.kb true,.cp g0 14 44 [] (fun _ G => failst_ct ⟨#[49, 103]⟩ (12 : Int) (by decide) Un.fails6),.kb true,.kb true,.cp g0 17 44 [] (fun _ G => failst_ct ⟨#[109, 57, 42, 109]⟩ (3 : Int) (by decide) Un.fails7),.kb true,.kb true] fun _ _ G3 => ?_
  intro S_ s_
  refine nm (Un.dv ((Un.read ⟨#[107, 87, 104]⟩).1) 0 : Int) fun n1 hn1 => ?_
  refine nm (Un.dv ((Un.read ⟨#[107, 87, 104]⟩).1) 1 : Int) fun n2 hn2 => ?_
  refine nm (Un.dv ((Un.read ⟨#[107, 87, 104]⟩).1) 2 : Int) fun n3 hn3 => ?_
  refine nm (Un.dv ((Un.read ⟨#[107, 87, 104]⟩).1) 3 : Int) fun n4 hn4 => ?_
  refine nm (Un.dv ((Un.read ⟨#[107, 87, 104]⟩).1) 4 : Int) fun n5 hn5 => ?_
  refine nm (Un.dv ((Un.read ⟨#[107, 87, 104]⟩).1) 5 : Int) fun n6 hn6 => ?_
  refine nm (Fr.rS (((Un.read ⟨#[107, 87, 104]⟩).1).isSome = true) (Un.fv ((Un.read ⟨#[107, 87, 104]⟩).1)) : Int) fun n7 hn7 => ?_
  refine nm (Fr.rD (((Un.read ⟨#[107, 87, 104]⟩).1).isSome = true) (Un.fv ((Un.read ⟨#[107, 87, 104]⟩).1)) : List Int) fun l1 hl1 => ?_
  have hl1n := congrArg List.length hl1
  refine nm (Fr.rT (((Un.read ⟨#[107, 87, 104]⟩).1).isSome = true) : Int) fun n8 hn8 => ?_
  refine nm (Fr.rE (((Un.read ⟨#[107, 87, 104]⟩).1).isSome = true) (Un.fv ((Un.read ⟨#[107, 87, 104]⟩).1)) : List Int) fun l2 hl2 => ?_
  have hl2n := congrArg List.length hl2
  refine nm ((Un.read ⟨#[107, 87, 104]⟩).2 : Int) fun n9 hn9 => ?_
  have zr := Fr.Fz.of (show (Un.read ⟨#[107, 87, 104]⟩).1.isSome = true by rw [Un.kwh]; rfl) hn7 hl1 hn8 hl2
  rw [show Un.fv (Un.read ⟨#[107, 87, 104]⟩).1 = 3600000 by rw [Un.kwh]; rfl] at zr
  have hzl := zr.len (k := 4) (by decide +kernel); have hzl1 := hzl.1; have hzl2 := hzl.2
  have en1 : n1 = 0 := by rw [hn1, Un.kwh]; rfl
  have en2 : n2 = 0 := by rw [hn2, Un.kwh]; rfl
  have en3 : n3 = 0 := by rw [hn3, Un.kwh]; rfl
  have en4 : n4 = 1 := by rw [hn4, Un.kwh]; rfl
  have en5 : n5 = 0 := by rw [hn5, Un.kwh]; rfl
  have en6 : n6 = 0 := by rw [hn6, Un.kwh]; rfl
  have ekE : n9 = 0 := by rw [hn9, Un.kwh]
  refine V.r [.ct g0 0 13 false [] [] [] (fun _ G => uread_ctv ⟨#[107, 87, 104]⟩ (by decide) n1 hn1 n2 hn2 n3 hn3 n4 hn4 n5 hn5 n6 hn6 n7 hn7 l1 hl1 n8 hn8 l2 hl2 n9 hn9),.v fun G => .tuple #[.agg #[iv n1, iv n2, iv n3, iv n4, iv n5, iv n6, iv n7, ((G 0).ss 0).v, iv n8, ((G 0).ss 1).v], iv n9],.v fun G => .agg #[iv n1, iv n2, iv n3, iv n4, iv n5, iv n6, iv n7, ((G 0).ss 0).v, iv n8, ((G 0).ss 1).v],.k (iv n9),.nb 4 0 (fun b => pp b 0) 32 (fun _ => #[iv 0, iv 0, iv 0, iv 0, iv 0, iv 0, iv 0, .slice none 0 0, iv 0, .slice none 0 0]),.st 0 (fun G => .blk ((G 4).b) #[iv n1, iv n2, iv n3, iv n4, iv n5, iv n6, iv n7, ((G 0).ss 0).v, iv n8, ((G 0).ss 1).v] 32),.k (iv n9)] fun _ _ G4 kw4 => ?_
  intro S_ s_
  obtain ⟨⟨kl1, -⟩, ⟨kl2, -⟩, -⟩ : Lq l1 (((G4 0).ss 0).v) ∧ Lq l2 (((G4 0).ss 1).v) ∧ True := kn kw4 (by kernel_rfl)
  clear kw4
  refine nm (Fr.rS ((2 : Int) ≠ 0) (Rat.divInt (3 : Int) (2 : Int)) : Int) fun n10 hn10 => ?_
  refine nm (Fr.rD ((2 : Int) ≠ 0) (Rat.divInt (3 : Int) (2 : Int)) : List Int) fun l3 hl3 => ?_
  have hl3n := congrArg List.length hl3
  refine nm (Fr.rT ((2 : Int) ≠ 0) : Int) fun n11 hn11 => ?_
  refine nm (Fr.rE ((2 : Int) ≠ 0) (Rat.divInt (3 : Int) (2 : Int)) : List Int) fun l4 hl4 => ?_
  have hl4n := congrArg List.length hl4
  refine nm (if (2 : Int) = 0 then (15 : Int) else 0 : Int) fun n12 hn12 => ?_
  have zh := Fr.Fz.of (show (2 : Int) ≠ 0 by decide) hn10 hl3 hn11 hl4
  have hzh := zh.len (k := 4) (by decide +kernel); have hzh1 := hzh.1; have hzh2 := hzh.2
  refine V.r [.ct g0 0 18 false [] [] [] (fun _ G => r5of_ctv (3 : Int) (2 : Int) ⟨by decide, by decide⟩ ⟨by decide, by decide⟩ n10 hn10 l3 hl3 n11 hn11 l4 hl4 n12 hn12),.v fun G => .tuple #[ag (DFrac.mk (DBig.mk n10 ⟨l3, (G 0).ss 0⟩) (DBig.mk n11 ⟨l4, (G 0).ss 1⟩)), iv n12],.v fun G => ag (DFrac.mk (DBig.mk n10 ⟨l3, (G 0).ss 0⟩) (DBig.mk n11 ⟨l4, (G 0).ss 1⟩)),.k (iv n12),.nb 4 1 (fun b => pp b 0) 30 (fun _ => ca (DFrac.mk (DBig.mk 0 ⟨[], {}⟩) (DBig.mk 0 ⟨[], {}⟩))),.st 1 (fun G => .blk ((G 4).b) (ca (DFrac.mk (DBig.mk n10 ⟨l3, (G 0).ss 0⟩) (DBig.mk n11 ⟨l4, (G 0).ss 1⟩))) 30),.k (iv n12)] fun _ _ G5 kw5 => ?_
  intro S_ s_
  obtain ⟨⟨kl3, -⟩, ⟨kl4, -⟩, -⟩ : Lq l3 (((G5 0).ss 0).v) ∧ Lq l4 (((G5 0).ss 1).v) ∧ True := kn kw5 (by kernel_rfl)
  clear kw5
  refine nm (Fr.rS ((Un.UR [n1, n2, n3, n4, n5, n6] n7 l1 n8 l2 ∧ Fr.FrB n10 l3 n11 l4)) ((Fr.fq n10 l3 l4) * (Fr.fq n7 l1 l2)) : Int) fun n13 hn13 => ?_
  refine nm (Fr.rD ((Un.UR [n1, n2, n3, n4, n5, n6] n7 l1 n8 l2 ∧ Fr.FrB n10 l3 n11 l4)) ((Fr.fq n10 l3 l4) * (Fr.fq n7 l1 l2)) : List Int) fun l5 hl5 => ?_
  have hl5n := congrArg List.length hl5
  refine nm (Fr.rT ((Un.UR [n1, n2, n3, n4, n5, n6] n7 l1 n8 l2 ∧ Fr.FrB n10 l3 n11 l4)) : Int) fun n14 hn14 => ?_
  refine nm (Fr.rE ((Un.UR [n1, n2, n3, n4, n5, n6] n7 l1 n8 l2 ∧ Fr.FrB n10 l3 n11 l4)) ((Fr.fq n10 l3 l4) * (Fr.fq n7 l1 l2)) : List Int) fun l6 hl6 => ?_
  have hl6n := congrArg List.length hl6
  refine nm (if (Un.UR [n1, n2, n3, n4, n5, n6] n7 l1 n8 l2 ∧ Fr.FrB n10 l3 n11 l4) then (0 : Int) else 1 : Int) fun n15 hn15 => ?_
  have hUR : Un.UR [n1, n2, n3, n4, n5, n6] n7 l1 n8 l2 := Un.ur_of (by rw [en1, en2, en3, en4, en5, en6]; decide) zr (by decide)
  have zv := Fr.Fz.of (And.intro hUR zh.rt) hn13 hl5 hn14 hl6
  rw [zh.v, zr.v, Un.kwh2] at zv
  have evE : n15 = 0 := by rw [hn15, if_pos ⟨hUR, zh.rt⟩]
  refine V.r [.ld 1 0 true (fun _ => Dat.cells (DFrac.mk (DBig.mk n10 ⟨l3, (G5 0).ss 0⟩) (DBig.mk n11 ⟨l4, (G5 0).ss 1⟩))),.ld 0 0 true (fun _ => [iv n1, iv n2, iv n3, iv n4, iv n5, iv n6, iv n7, ((G4 0).ss 0).v, iv n8, ((G4 0).ss 1).v]),.ct g0 2 25 false [] [] [(kf true (.f 2) l3 (fun _ => (G5 0).ss 0)).a, (kf true (.f 3) l4 (fun _ => (G5 0).ss 1)).a, (kf true (.f 0) l1 (fun _ => (G4 0).ss 0)).a, (kf true (.f 1) l2 (fun _ => (G4 0).ss 1)).a] (fun _ G => ufrom_ctv n10 l3 ((G5 0).ss 0) n11 l4 ((G5 0).ss 1) n1 n2 n3 n4 n5 n6 n7 l1 ((G4 0).ss 0) n8 l2 ((G4 0).ss 1) (by omega) (by omega) (by omega) (by omega) n13 hn13 l5 hl5 n14 hn14 l6 hl6 n15 hn15),.v fun G => .tuple #[ag (DFrac.mk (DBig.mk n13 ⟨l5, (G 2).ss 0⟩) (DBig.mk n14 ⟨l6, (G 2).ss 1⟩)), iv n15],.v fun G => ag (DFrac.mk (DBig.mk n13 ⟨l5, (G 2).ss 0⟩) (DBig.mk n14 ⟨l6, (G 2).ss 1⟩)),.k (iv n15),.nb 6 2 (fun b => pp b 0) 30 (fun _ => ca (DFrac.mk (DBig.mk 0 ⟨[], {}⟩) (DBig.mk 0 ⟨[], {}⟩))),.st 2 (fun G => .blk ((G 6).b) (ca (DFrac.mk (DBig.mk n13 ⟨l5, (G 2).ss 0⟩) (DBig.mk n14 ⟨l6, (G 2).ss 1⟩))) 30),.k (iv n15)] fun _ _ G6 kw6 => ?_
  intro S_ s_
  obtain ⟨⟨kl5, -⟩, ⟨kl6, -⟩, -⟩ : Lq l5 (((G6 2).ss 0).v) ∧ Lq l6 (((G6 2).ss 1).v) ∧ True := kn kw6 (by kernel_rfl)
  clear kw6
  refine nm (Bg.sgn (5400000 : Int) : Int) fun n16 hn16 => ?_
  refine nm (Bg.dig (5400000 : Int).natAbs : List Int) fun l7 hl7 => ?_
  have hl7n := congrArg List.length hl7
  refine nm (Bg.dig 1 : List Int) fun l8 hl8 => ?_
  have hl8n := congrArg List.length hl8
  refine nm (((decide (n9 = 0)) && (decide (n15 = 0))) && true : Bool) fun p1 hp1 => ?_
  have zi : Fr.Fz n16 l7 1 l8 ((5400000 : Int) : Rat) := by subst_vars; exact Un.intz _
  have hsm := Fr.Fz.inj zv zi
  refine V.g [.kb true,.kb true,.kb true,.kb true,.kb true,.k (iv n9),.k (bv (decide (n9 = 0))),.k (bv (decide (n9 = 0))),.k (bv (decide (n9 = 0))),.k (iv n15),.k (bv (decide (n15 = 0))),.and g0 false (decide (n9 = 0)) (decide (n15 = 0)),.k (bv ((decide (n9 = 0)) && (decide (n15 = 0)))),.ld 2 0 true (fun _ => Dat.cells (DFrac.mk (DBig.mk n13 ⟨l5, (G6 2).ss 0⟩) (DBig.mk n14 ⟨l6, (G6 2).ss 1⟩))),.ct (gT (b := (decide (n9 = 0)) && (decide (n15 = 0))) (iAT iDT iDT)) 14 16 false [] [] [] (fun hg G => r5int_ctv (5400000 : Int) (by omega) n16 hn16 l7 hl7 l8 hl8),.cp (gT (b := (decide (n9 = 0)) && (decide (n15 = 0))) (iAT iDT iDT)) 15 15 [(kf true (.f 4) l5 (fun _ => (G6 2).ss 0)).a, (kf true (.f 5) l6 (fun _ => (G6 2).ss 1)).a, (kf true (.g 14 0) l7 (fun G => (G 14).ss 0)).a, (kf true (.g 14 1) l8 (fun G => (G 14).ss 1)).a] (fun hg G => same5t_ct n13 l5 ((G6 2).ss 0) n14 l6 ((G6 2).ss 1) n16 l7 ((G 14).ss 0) (1 : Int) l8 ((G 14).ss 1) hsm),.andn g0 false ((decide (n9 = 0)) && (decide (n15 = 0))) true p1 hp1,.k (bv p1)] fun _ _ G7 => ?_
  intro S_ s_
  have e0 : p1 = true := by
    refine (iN hp1 (iAT (iAT iDT iDT) iTT)).2 ?_
    exact ⟨⟨ekE, evE⟩, trivial⟩
  exact V.ret [0] [] [] [] [] [] (bv p1) (fun _ _ => by kernel_rfl) (fun _ _ => (Eq.trans (by kernel_rfl) (cong1 (fun (x0 : Bool) => (bv x0 : Value)) e0)).trans (by kernel_rfl)) (fun _ _ => trivial)

open Go Go.RowKit Go.WideShapes Go.ChangeShapes
section
variable {H : Type} {enc : TypeId × Value → H} {P : Program}
theorem law_post {f : Func} {s : ChangeSpec} {apart fresh handsOn again : Bool} {W W' : World} {args : Array Value} {v : Value} {ds gs : List (DataW H)} {before pa pv : List MemPlace}
    (hW : DataW.Whole enc P f.params.toList s.vars apart W args.toList ds gs before)
    (hres : ∀ (b : Nat) (sp : Nat → Bool) (hd : Bool), DataW.TrodAll enc P W' b sp hd f.resultTypes.toList (v.resultList f.resultTypes.size) (s.fn H (ds ++ gs)).results [])
    (hargs : ∀ sp : Nat → Bool, (∀ p ∈ before, sp p.block = true) → DataW.TrodAll enc P W' 0 sp true f.params.toList args.toList (s.fn H (ds ++ gs)).args pa)
    (hvars : ∀ sp : Nat → Bool, (∀ p ∈ before, sp p.block = true) → DataW.TrodVars enc P W' sp s.vars (s.fn H (ds ++ gs)).vars pv)
    (hps : before = pa ++ pv) (hb : Base [] W W')
    (hok : ∀ (j : Nat) (t : TypeId) (r : Value), f.resultTypes[j]? = some t → (v.resultList f.resultTypes.size)[j]? = some r → Value.okWide P W' .any 0 t r) :
    s.post enc P f apart fresh handsOn again W args v W' := by
  have low : ∀ p ∈ before, p.block < W.heap.size := fun p hp => hW.lt p hp
  have mark : ∀ p ∈ before, (fun b => decide (b < W.heap.size)) p.block = true := fun p hp => decide_eq_true (low p hp)
  have back := hb.below
  refine ⟨ds, gs, before, [], pa, pv, hW, hres _ _ _, hargs _ mark, hvars _ mark, World.keptBut_mono (fun p hp => ⟨hp, by rw [hps, List.mem_append] at hp; exact Or.inr hp⟩) (back.frame (· ∈ before)), fun _ => ?_⟩
  obtain ⟨_, _, _, _, _, hz, hn⟩ := hW
  refine ⟨hok, _, _, ([] ++ pa) ++ pv, ⟨[] ++ pa, pv, trodAll_append (hargs _ fun _ _ => rfl) (hres _ _ _), hvars _ fun _ _ => rfl, rfl, fun b off hp => ?_, fun ha => ?_⟩, fun p hp _ => ?_⟩
  · have hin : MemPlace.cell b off ∈ before := by rw [hps]; simpa using hp
    rw [back.frozen (low _ hin)]
    exact hz b off hin
  · have := hn ha
    rw [hps] at this; simpa using this
  · rw [hps]; simpa using hp
end

open Go Go.RowKit Go.WideShapes Go.ChangeShapes
theorem whole_agrees (w : World) : Agrees w (whole w) := fun _ _ h => h
section
variable {H : Type} {enc : TypeId × Value → H} {P : Program} {w : World} {base : Nat} {sp : Nat → Bool} {held : Bool}
theorem keep_all (hl : laidOutB P = true) {W W' : World} (hb : Below W.heap.size W W') : ∀ {ts : List TypeId} {vs : List Value} {ds : List (DataW H)} {ps : List MemPlace}, (ts.all fun t => P.readableRec t && decide (t < P.types.size)) = true →
    DataW.TrodAll enc P W 0 (fun _ => true) true ts vs ds ps → (∀ x ∈ ps, x.block < W.heap.size) → ∀ sp' : Nat → Bool, (∀ x ∈ ps, sp' x.block = true) → DataW.TrodAll enc P W' 0 sp' true ts vs ds ps
  | [], [], [], _, _, h, _, _, _ => h
  | t :: ts, _ :: _, _ :: _, _, ht, ⟨p, q, h1, h2, e⟩, hlt, sp', hs => by
    simp only [List.all_cons, Bool.and_eq_true, decide_eq_true_eq] at ht
    refine ⟨p, q, WideElems.Trod_stays hl ht.1.1 ht.1.2 h1 (fun x hx => hb.same (hlt x (by rw [e]; exact List.mem_append_left _ hx))) (fun x hx => hs x (by rw [e]; exact List.mem_append_left _ hx)), keep_all hl hb (by simpa using ht.2) h2 (fun x hx => hlt x (by rw [e]; exact List.mem_append_right _ hx)) sp' (fun x hx => hs x (by rw [e]; exact List.mem_append_right _ hx)), e⟩
theorem Cp.law {P : Program} {f : FuncId} {args : Array Value} {F : List FP} {v : Value} (h : Cp P f args F v) (W : World) (hF : conjL (F.map fun q => q.p (whole W))) : Calls P f args W fun e w' => e = .returned v ∧ Base [] W w' := by
  refine (h W (whole W) (fun _ => none) (whole_agrees W) (fun q hq => conjL_mem hF _ (List.mem_map_of_mem hq)) ⟨Base.refl _ _, fun K hK => ?_, fun k b o hk => ?_, fun k l b o o' hk _ => ?_⟩ fun r x hx => ?_).mono ?_
  · have : K = whole W := by simpa using hK
    subst this; exact whole_agrees W
  · simp [ents] at hk
  · simp [ents] at hk
  · simp at hx
  · rintro e w' ⟨g, C⟩
    exact ⟨C.ret, C.base⟩
end

open Go Go.RowKit Go.WideShapes Go.ChangeShapes
structure Six where
  a : Int := 0
  b : Int := 0
  c : Int := 0
  d : Int := 0
  e : Int := 0
  f : Int := 0
instance : Dat Six where
  default := {}
  size := 6
  cells x := [.int .i64 x.a, .int .i64 x.b, .int .i64 x.c, .int .i64 x.d, .int .i64 x.e, .int .i64 x.f]
  good H x := True
  len _ := rfl
  one H x h u hu := by
    simp only [List.mem_cons, List.not_mem_nil, or_false] at hu
    rcases hu with rfl | rfl | rfl | rfl | rfl | rfl <;> rfl
  mono _ _ _ _ h := h
  zero _ := trivial

open Go
structure DUnit where
  Dim : Six := default
  Factor : DFrac := default
instance : Dat DUnit where
  default := {}
  size := 10
  cells x := Dat.cells x.Dim ++ Dat.cells x.Factor
  good H x := Dat.good H x.Factor
  len x := by simp [Dat.len]; rfl
  one H x h u hu := by
    simp only [List.mem_append] at hu
    rcases hu with hu | hu
    · exact Dat.one H x.Dim trivial u hu
    · exact Dat.one H x.Factor h u hu
  q x := Dat.q x.Factor
  hq H x h := Dat.hq H _ h
  mono _ _ _ k h := Dat.mono _ _ _ k h
  zero H := Dat.zero H
end Kb
