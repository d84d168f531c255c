/- Texts for the claim, put together: the calculus of regions, its rules, and contracts of the functions that the law reaches. -/
import Derived.Test.YtpnbgdgjgndicaaZvwg
import Derived.Test.YtpnbgdgjgndicaaZv013a
import Derived.Test.YtpnbgdgjgndicaaZv023a
import Derived.Test.YtpnbgdgjgndicaaZv03a
set_option linter.unusedVariables false
set_option linter.unusedSectionVars false
set_option linter.unusedSimpArgs false
namespace Kb
open Go
namespace Tb
open Fr Bg
theorem aft_zero {l : List DRow} {q : Rat} (h : q < (ky l 0 : Rat)) : aft l q = 0 := aft_at (by omega) (fun k hk => by omega) (.inr h)
theorem aft_pos {l : List DRow} {q : Rat} {i : Nat} (h : So l) (hi : i < l.length) (h1 : (ky l i : Rat) ≤ q) : 0 < aft l q := by
  rcases Nat.eq_zero_or_pos (aft l q) with h0 | h0
  · exact absurd (h.hi (q := q) (k := i) (by omega) hi) (Rat.not_lt.2 h1)
  · exact h0
end Tb

open Go Go.Proofs
set_option maxRecDepth 10000 in
theorem ltlook_ct (t_Name t_Unit : ByteArray) (t_Rows : List DRow) (t_Rowss : SV) (i key_P_Sign : Int) (key_P_Digits : List Int) (key_P_Digitss : SV) (key_Q_Sign : Int) (key_Q_Digits : List Int) (key_Q_Digitss : SV) :
    Cp Try.prog 5 #[ag (DTable.mk t_Name t_Unit ⟨t_Rows, t_Rowss⟩), iv i, ag (DFrac.mk (DBig.mk key_P_Sign ⟨key_P_Digits, key_P_Digitss⟩) (DBig.mk key_Q_Sign ⟨key_Q_Digits, key_Q_Digitss⟩))] [fs true t_Rows t_Rowss, fs true key_P_Digits key_P_Digitss, fs true key_Q_Digits key_Q_Digitss] (bv true) := by
  refine V.fn mo Try.func5 125 5 (by kernel_rfl) fun w H ε k0 => ?_
  obtain ⟨⟨kl1, -⟩, ⟨kl2, -⟩, ⟨kl3, -⟩, -⟩ : Lq t_Rows t_Rowss.v ∧ Lq key_P_Digits key_P_Digitss.v ∧ Lq key_Q_Digits key_Q_Digitss.v ∧ True := kn k0 (by kernel_rfl)
  clear k0
  refine V.g [.nb 0 0 (fun b => pp b 0) 55 (fun _ => ca (DTable.mk t_Name t_Unit ⟨t_Rows, t_Rowss⟩)),.nb 1 1 (fun b => pp b 0) 30 (fun _ => ca (DFrac.mk (DBig.mk key_P_Sign ⟨key_P_Digits, key_P_Digitss⟩) (DBig.mk key_Q_Sign ⟨key_Q_Digits, key_Q_Digitss⟩))),.kb false] fun _ _ G1 => ?_
  intro S_ s_
  refine V.g [.cp g0 0 27 [] (fun _ G => small_ct ),.kb true] fun _ _ G2 => ?_
  intro S_ s_
  refine nm ((!(decide (((((t_Rows.length : Int) ≤ 110 ∧ (t_Name.size : Int) ≤ 40 ∧ (t_Unit.size : Int) ≤ 40) ∧ Tb.RtT t_Name t_Unit t_Rows) ∧ 0 ≤ i) ∧ i < (t_Rows.length : Int)))) || (!(decide ((key_P_Digits.length : Int) ≤ (5 : Int) ∧ (key_Q_Digits.length : Int) ≤ (5 : Int)))) : Bool) fun p1 hp1 => ?_
  refine nm (p1 || (!(decide (Fr.FrB key_P_Sign key_P_Digits key_Q_Sign key_Q_Digits))) : Bool) fun p2 hp2 => ?_
  refine V.g [.ld 0 0 true (fun _ => Dat.cells (DTable.mk t_Name t_Unit ⟨t_Rows, t_Rowss⟩)),.k (iv i),.cp g0 2 28 [(kf false (.f 0) t_Rows (fun _ => t_Rowss)).a] (fun _ G => rrow_ct t_Name t_Unit t_Rows t_Rowss i),.k (bv (!(decide (((((t_Rows.length : Int) ≤ 110 ∧ (t_Name.size : Int) ≤ 40 ∧ (t_Unit.size : Int) ≤ 40) ∧ Tb.RtT t_Name t_Unit t_Rows) ∧ 0 ≤ i) ∧ i < (t_Rows.length : Int))))),.k (bv (!(decide (((((t_Rows.length : Int) ≤ 110 ∧ (t_Name.size : Int) ≤ 40 ∧ (t_Unit.size : Int) ≤ 40) ∧ Tb.RtT t_Name t_Unit t_Rows) ∧ 0 ≤ i) ∧ i < (t_Rows.length : Int))))),.ld 1 0 true (fun _ => Dat.cells (DFrac.mk (DBig.mk key_P_Sign ⟨key_P_Digits, key_P_Digitss⟩) (DBig.mk key_Q_Sign ⟨key_Q_Digits, key_Q_Digitss⟩))),.cp (gF (b := !(decide (((((t_Rows.length : Int) ≤ 110 ∧ (t_Name.size : Int) ≤ 40 ∧ (t_Unit.size : Int) ≤ 40) ∧ Tb.RtT t_Name t_Unit t_Rows) ∧ 0 ≤ i) ∧ i < (t_Rows.length : Int)))) (iNF iDT)) 6 22 [(kf false (.f 1) key_P_Digits (fun _ => key_P_Digitss)).a, (kf false (.f 2) key_Q_Digits (fun _ => key_Q_Digitss)).a] (fun hg G => few5_ct key_P_Sign key_P_Digits key_P_Digitss key_Q_Sign key_Q_Digits key_Q_Digitss (5 : Int)),.k (bv (!(decide ((key_P_Digits.length : Int) ≤ (5 : Int) ∧ (key_Q_Digits.length : Int) ≤ (5 : Int))))),.orn g0 false (!(decide (((((t_Rows.length : Int) ≤ 110 ∧ (t_Name.size : Int) ≤ 40 ∧ (t_Unit.size : Int) ≤ 40) ∧ Tb.RtT t_Name t_Unit t_Rows) ∧ 0 ≤ i) ∧ i < (t_Rows.length : Int)))) (!(decide ((key_P_Digits.length : Int) ≤ (5 : Int) ∧ (key_Q_Digits.length : Int) ≤ (5 : Int)))) p1 hp1,.k (bv p1),.ld 1 0 true (fun _ => Dat.cells (DFrac.mk (DBig.mk key_P_Sign ⟨key_P_Digits, key_P_Digitss⟩) (DBig.mk key_Q_Sign ⟨key_Q_Digits, key_Q_Digitss⟩))),.cp (gF (b := p1) (iN hp1 (iOF (iNF iDT) (iNF iDT)))) 11 24 [(kf false (.f 1) key_P_Digits (fun _ => key_P_Digitss)).a, (kf false (.f 2) key_Q_Digits (fun _ => key_Q_Digitss)).a] (fun hg G => right_ct key_P_Sign key_P_Digits key_P_Digitss key_Q_Sign key_Q_Digits key_Q_Digitss (by omega) (by omega)),.k (bv (!(decide (Fr.FrB key_P_Sign key_P_Digits key_Q_Sign key_Q_Digits)))),.orn g0 false p1 (!(decide (Fr.FrB key_P_Sign key_P_Digits key_Q_Sign key_Q_Digits))) p2 hp2] fun _ _ G3 => ?_
  intro S_ s_
  refine V.cond (b := p2) (iN hp2 (iOT (iN hp1 (iOT (iNT iDF) (iNT iDF))) (iNT iDF))) (iN hp2 (iOF (iN hp1 (iOF (iNF iDT) (iNF iDT))) (iNF iDT))) (by kernel_rfl) (fun q1 => ?_) (fun q2 => ?_)
  · refine V.g [.kb true,.kb true] fun _ _ G4 => ?_
    intro S_ s_
    exact V.ret [0] [] [] [] [] [] (bv true) (fun _ _ => by kernel_rfl) (fun _ _ => by kernel_rfl) (fun _ _ => trivial)
  obtain ⟨⟨hRR, hfk⟩, hK⟩ := q2
  obtain ⟨⟨⟨hfw, hR⟩, hi0⟩, hil⟩ := hRR
  have hso := hR.so; have hxl := hso.2.1; have hu := hR.1.1.1
  have hP : (Tb.RtT t_Name t_Unit t_Rows ∧ Fr.FrB key_P_Sign key_P_Digits key_Q_Sign key_Q_Digits) := ⟨hR, hK⟩
  have zK := Fr.FrB.z hK
  have hal := Tb.aft_le t_Rows (Fr.fq key_P_Sign key_P_Digits key_Q_Digits)
  refine nm (Fr.rS ((Tb.RtT t_Name t_Unit t_Rows ∧ Fr.FrB key_P_Sign key_P_Digits key_Q_Sign key_Q_Digits) ∧ 0 < Tb.aft t_Rows (Fr.fq key_P_Sign key_P_Digits key_Q_Digits)) (Tb.lkR t_Unit t_Rows (Fr.fq key_P_Sign key_P_Digits key_Q_Digits)) : Int) fun n1 hn1 => ?_
  refine nm (Fr.rD ((Tb.RtT t_Name t_Unit t_Rows ∧ Fr.FrB key_P_Sign key_P_Digits key_Q_Sign key_Q_Digits) ∧ 0 < Tb.aft t_Rows (Fr.fq key_P_Sign key_P_Digits key_Q_Digits)) (Tb.lkR t_Unit t_Rows (Fr.fq key_P_Sign key_P_Digits key_Q_Digits)) : List Int) fun l1 hl1 => ?_
  have hl1n := congrArg List.length hl1
  refine nm (Fr.rT ((Tb.RtT t_Name t_Unit t_Rows ∧ Fr.FrB key_P_Sign key_P_Digits key_Q_Sign key_Q_Digits) ∧ 0 < Tb.aft t_Rows (Fr.fq key_P_Sign key_P_Digits key_Q_Digits)) : Int) fun n2 hn2 => ?_
  refine nm (Fr.rE ((Tb.RtT t_Name t_Unit t_Rows ∧ Fr.FrB key_P_Sign key_P_Digits key_Q_Sign key_Q_Digits) ∧ 0 < Tb.aft t_Rows (Fr.fq key_P_Sign key_P_Digits key_Q_Digits)) (Tb.lkR t_Unit t_Rows (Fr.fq key_P_Sign key_P_Digits key_Q_Digits)) : List Int) fun l2 hl2 => ?_
  have hl2n := congrArg List.length hl2
  refine nm (if ¬ (Tb.RtT t_Name t_Unit t_Rows ∧ Fr.FrB key_P_Sign key_P_Digits key_Q_Sign key_Q_Digits) then (1 : Int) else if Tb.aft t_Rows (Fr.fq key_P_Sign key_P_Digits key_Q_Digits) = 0 then 4 else 0 : Int) fun n3 hn3 => ?_
  refine V.r [.ld 0 0 true (fun _ => Dat.cells (DTable.mk t_Name t_Unit ⟨t_Rows, t_Rowss⟩)),.ld 1 0 true (fun _ => Dat.cells (DFrac.mk (DBig.mk key_P_Sign ⟨key_P_Digits, key_P_Digitss⟩) (DBig.mk key_Q_Sign ⟨key_Q_Digits, key_Q_Digitss⟩))),.ct g0 2 29 false [] [] [(kf false (.f 0) t_Rows (fun _ => t_Rowss)).a, (kf false (.f 1) key_P_Digits (fun _ => key_P_Digitss)).a, (kf false (.f 2) key_Q_Digits (fun _ => key_Q_Digitss)).a] (fun _ G => tlook_ctv t_Name t_Unit t_Rows t_Rowss key_P_Sign key_P_Digits key_P_Digitss key_Q_Sign key_Q_Digits key_Q_Digitss (by omega) (by omega) (by omega) (by omega) n1 hn1 l1 hl1 n2 hn2 l2 hl2 n3 hn3),.v fun G => .tuple #[ag (DFrac.mk (DBig.mk n1 ⟨l1, (G 2).ss 0⟩) (DBig.mk n2 ⟨l2, (G 2).ss 1⟩)), iv n3],.v fun G => ag (DFrac.mk (DBig.mk n1 ⟨l1, (G 2).ss 0⟩) (DBig.mk n2 ⟨l2, (G 2).ss 1⟩)),.k (iv n3),.nb 6 2 (fun b => pp b 0) 30 (fun _ => ca (DFrac.mk (DBig.mk 0 ⟨[], {}⟩) (DBig.mk 0 ⟨[], {}⟩))),.st 2 (fun G => .blk ((G 6).b) (ca (DFrac.mk (DBig.mk n1 ⟨l1, (G 2).ss 0⟩) (DBig.mk n2 ⟨l2, (G 2).ss 1⟩))) 30),.k (iv n3)] fun _ _ G5 kw5 => ?_
  intro S_ s_
  obtain ⟨⟨kl4, -⟩, ⟨kl5, -⟩, -⟩ : Lq l1 (((G5 2).ss 0).v) ∧ Lq l2 (((G5 2).ss 1).v) ∧ True := kn kw5 (by kernel_rfl)
  clear kw5
  refine nm (t_Rows.getD (0 : Int).toNat default : DRow) fun x1 hx1 => ?_
  refine nm (Bg.sgn x1.Key : Int) fun n4 hn4 => ?_
  refine nm (Bg.dig x1.Key.natAbs : List Int) fun l3 hl3 => ?_
  have hl3n := congrArg List.length hl3
  refine nm (Bg.dig 1 : List Int) fun l4 hl4 => ?_
  have hl4n := congrArg List.length hl4
  refine nm (if Fr.FrB key_P_Sign key_P_Digits key_Q_Sign key_Q_Digits ∧ Fr.FrB n4 l3 (1 : Int) l4 then Fr.cmpQ (Fr.fq key_P_Sign key_P_Digits key_Q_Digits) (Fr.fq n4 l3 l4) else 0 : Int) fun n5 hn5 => ?_
  have hk_a : Tb.ky t_Rows (0) = x1.Key := by rw [hx1]; rfl
  have hr_a := (hso.2.2 (0) (by omega)).1
  rw [hk_a] at hr_a; unfold Tb.inR at hr_a
  have z_a : Fr.Fz n4 l3 1 l4 (x1.Key : Rat) := by subst_vars; exact Un.intz _
  have hl_a := z_a.len (Fr.Hb.int (n := x1.Key) (by omega)); have hl1_a := hl_a.1; have hl2_a := hl_a.2
  have hc_a : n5 < 0 ↔ (Fr.fq key_P_Sign key_P_Digits key_Q_Digits) < (Tb.ky t_Rows 0 : Rat) := by rw [hn5, if_pos ⟨hK, z_a.rt⟩, z_a.v, ← hk_a]; exact Tb.cmpQ_neg
  refine V.r [.ld 1 0 true (fun _ => Dat.cells (DFrac.mk (DBig.mk key_P_Sign ⟨key_P_Digits, key_P_Digitss⟩) (DBig.mk key_Q_Sign ⟨key_Q_Digits, key_Q_Digitss⟩))),.k (pp ((G1 0).b) 2),.ld 0 2 false (fun _ => [t_Rowss.v]),.ix g0 (kf false (.f 0) t_Rows (fun _ => t_Rowss)) 0 (fun _ => ⟨by omega, by omega⟩),.k (.pointer (some ((elemAddr t_Rowss.v ((0 : Int).toNat * 2)).add 0))),.le g0 (kf false (.f 0) t_Rows (fun _ => t_Rowss)) (0 : Int) (some 0) false x1 hx1 (fun _ => ⟨by omega, by omega⟩) false (fun _ => [iv x1.Key]),.ct g0 6 16 false [] [] [] (fun _ G => r5int_ctv x1.Key (by omega) n4 hn4 l3 hl3 l4 hl4),.cp g0 7 30 [(kf false (.f 1) key_P_Digits (fun _ => key_P_Digitss)).a, (kf false (.f 2) key_Q_Digits (fun _ => key_Q_Digitss)).a, (kf true (.g 6 0) l3 (fun G => (G 6).ss 0)).a, (kf true (.g 6 1) l4 (fun G => (G 6).ss 1)).a] (fun _ G => fcmp_ctv key_P_Sign key_P_Digits key_P_Digitss key_Q_Sign key_Q_Digits key_Q_Digitss n4 l3 ((G 6).ss 0) (1 : Int) l4 ((G 6).ss 1) (by omega) (by omega) (by omega) (by omega) n5 hn5),.k (bv (decide (n5 < 0)))] fun _ _ G6 kw6 => ?_
  intro S_ s_
  obtain ⟨⟨kl6, -⟩, ⟨kl7, -⟩, -⟩ : Lq l3 (((G6 6).ss 0).v) ∧ Lq l4 (((G6 6).ss 1).v) ∧ True := kn kw6 (by kernel_rfl)
  clear kw6
  refine V.cond (b := decide (n5 < 0)) iDT iDF (by kernel_rfl) (fun q3 => ?_) (fun q4 => ?_)
  · have h0 : Tb.aft t_Rows (Fr.fq key_P_Sign key_P_Digits key_Q_Digits) = 0 := Tb.aft_zero (hc_a.1 q3)
    have hz := Fr.Fz.no (p := (Tb.RtT t_Name t_Unit t_Rows ∧ Fr.FrB key_P_Sign key_P_Digits key_Q_Sign key_Q_Digits) ∧ 0 < Tb.aft t_Rows (Fr.fq key_P_Sign key_P_Digits key_Q_Digits)) (fun h => by have := h.2; omega) (Tb.lkR t_Unit t_Rows (Fr.fq key_P_Sign key_P_Digits key_Q_Digits))
    have hs6 : n1 = 0 ∧ l1 = [] ∧ n2 = 0 ∧ l2 = [] := by rw [hn1, hl1, hn2, hl2]; exact ⟨hz.1.symm, hz.2.1.symm, hz.2.2.1.symm, hz.2.2.2.symm⟩
    refine V.g [.kb true,.kb true,.k (iv n3),.k (bv (decide (n3 = 4))),.k (bv (decide (n3 = 4))),.k (bv (decide (n3 = 4))),.ld 2 0 true (fun _ => Dat.cells (DFrac.mk (DBig.mk n1 ⟨l1, (G5 2).ss 0⟩) (DBig.mk n2 ⟨l2, (G5 2).ss 1⟩))),.k (ag (DFrac.mk (DBig.mk 0 ⟨[], {}⟩) (DBig.mk 0 ⟨[], {}⟩))),.cp (gT (b := decide (n3 = 4)) iDT) 8 15 [(kf true (.f 3) l1 (fun _ => (G5 2).ss 0)).a, (kf true (.f 4) l2 (fun _ => (G5 2).ss 1)).a, (knil (α := Int)).a, (knil (α := Int)).a] (fun hg G => same5t_ct n1 l1 ((G5 2).ss 0) n2 l2 ((G5 2).ss 1) (0 : Int) ([] : List Int) ({}) (0 : Int) ([] : List Int) ({}) hs6),.and g0 false (decide (n3 = 4)) true,.k (bv ((decide (n3 = 4)) && true))] fun _ _ G7 => ?_
    intro S_ s_
    have e0 : ((decide (n3 = 4)) && true) = true := by
      refine (iAT iDT iTT).2 ?_
      have he : n3 = 4 := by rw [hn3, if_neg (fun h => h hP), if_pos h0]
      first | exact ⟨he, trivial⟩ | exact he
    exact V.ret [0] [] [] [] [] [] (bv ((decide (n3 = 4)) && true)) (fun _ _ => by kernel_rfl) (fun _ _ => (Eq.trans (by kernel_rfl) (cong1 (fun (x0 : Bool) => (bv x0 : Value)) e0)).trans (by kernel_rfl)) (fun _ _ => trivial)
  refine nm (t_Rows.getD i.toNat default : DRow) fun x2 hx2 => ?_
  refine nm (Bg.sgn x2.Key : Int) fun n6 hn6 => ?_
  refine nm (Bg.dig x2.Key.natAbs : List Int) fun l5 hl5 => ?_
  have hl5n := congrArg List.length hl5
  refine nm (if Fr.FrB key_P_Sign key_P_Digits key_Q_Sign key_Q_Digits ∧ Fr.FrB n6 l5 (1 : Int) l4 then Fr.cmpQ (Fr.fq key_P_Sign key_P_Digits key_Q_Digits) (Fr.fq n6 l5 l4) else 0 : Int) fun n7 hn7 => ?_
  have hk_b : Tb.ky t_Rows (i.toNat) = x2.Key := by rw [hx2, show (i).toNat = i.toNat by omega]; rfl
  have hr_b := (hso.2.2 (i.toNat) (by omega)).1
  rw [hk_b] at hr_b; unfold Tb.inR at hr_b
  have z_b : Fr.Fz n6 l5 1 l4 (x2.Key : Rat) := by subst_vars; exact Un.intz _
  have hl_b := z_b.len (Fr.Hb.int (n := x2.Key) (by omega)); have hl1_b := hl_b.1; have hl2_b := hl_b.2
  have hc_b : n7 < 0 ↔ (Fr.fq key_P_Sign key_P_Digits key_Q_Digits) < (Tb.ky t_Rows i.toNat : Rat) := by rw [hn7, if_pos ⟨hK, z_b.rt⟩, z_b.v, ← hk_b]; exact Tb.cmpQ_neg
  refine V.r [.ld 1 0 true (fun _ => Dat.cells (DFrac.mk (DBig.mk key_P_Sign ⟨key_P_Digits, key_P_Digitss⟩) (DBig.mk key_Q_Sign ⟨key_Q_Digits, key_Q_Digitss⟩))),.k (pp ((G1 0).b) 2),.ld 0 2 false (fun _ => [t_Rowss.v]),.k (iv i),.ix g0 (kf false (.f 0) t_Rows (fun _ => t_Rowss)) i (fun _ => ⟨by omega, by omega⟩),.k (.pointer (some ((elemAddr t_Rowss.v (i.toNat * 2)).add 0))),.le g0 (kf false (.f 0) t_Rows (fun _ => t_Rowss)) i (some 0) false x2 hx2 (fun _ => ⟨by omega, by omega⟩) false (fun _ => [iv x2.Key]),.ct g0 7 16 false [] [] [] (fun _ G => r5int_ctv x2.Key (by omega) n6 hn6 l5 hl5 l4 hl4),.cp g0 8 30 [(kf false (.f 1) key_P_Digits (fun _ => key_P_Digitss)).a, (kf false (.f 2) key_Q_Digits (fun _ => key_Q_Digitss)).a, (kf true (.g 7 0) l5 (fun G => (G 7).ss 0)).a, (kf true (.g 7 1) l4 (fun G => (G 7).ss 1)).a] (fun _ G => fcmp_ctv key_P_Sign key_P_Digits key_P_Digitss key_Q_Sign key_Q_Digits key_Q_Digitss n6 l5 ((G 7).ss 0) (1 : Int) l4 ((G 7).ss 1) (by omega) (by omega) (by omega) (by omega) n7 hn7),.k (bv (decide (n7 < 0)))] fun _ _ G8 kw8 => ?_
  intro S_ s_
  obtain ⟨⟨kl8, -⟩, ⟨kl9, -⟩, -⟩ : Lq l5 (((G8 7).ss 0).v) ∧ Lq l4 (((G8 7).ss 1).v) ∧ True := kn kw8 (by kernel_rfl)
  clear kw8
  refine V.cond (b := decide (n7 < 0)) iDT iDF (by kernel_rfl) (fun q5 => ?_) (fun q6 => ?_)
  · refine V.g [.kb true,.kb true,.k (iv n3),.k (bv (decide (n3 = 0))),.k (bv (decide (n3 = 0))),.k (bv (decide (n3 = 0)))] fun _ _ G9 => ?_
    intro S_ s_
    have e0 : (decide (n3 = 0)) = true := by
      refine iDT.2 ?_
      have hp : 0 < Tb.aft t_Rows (Fr.fq key_P_Sign key_P_Digits key_Q_Digits) := Tb.aft_pos hso (i := 0) (by omega) (Rat.not_lt.1 fun h => q4 (hc_a.2 h))
      have he : n3 = 0 := by rw [hn3, if_neg (fun h => h hP), if_neg (by omega)]
      first | exact ⟨he, trivial⟩ | exact he
    exact V.ret [0] [] [] [] [] [] (bv (decide (n3 = 0))) (fun _ _ => by kernel_rfl) (fun _ _ => (Eq.trans (by kernel_rfl) (cong1 (fun (x0 : Bool) => (bv x0 : Value)) e0)).trans (by kernel_rfl)) (fun _ _ => trivial)
  have hle : (Tb.ky t_Rows i.toNat : Rat) ≤ (Fr.fq key_P_Sign key_P_Digits key_Q_Digits) := Rat.not_lt.1 fun h => q6 (hc_b.2 h)
  refine V.g [.k (iv i),.a (i + 1) (by omega) (by omega),.k (pp ((G1 0).b) 2),.ld 0 2 false (fun _ => [t_Rowss.v]),.ln (kf false (.f 0) t_Rows (fun _ => t_Rowss)),.k (bv (decide (i + 1 < (t_Rows.length : Int))))] fun _ _ G10 => ?_
  intro S_ s_
  refine V.cond (b := decide (i + 1 < (t_Rows.length : Int))) iDT iDF (by kernel_rfl) (fun q7 => ?_) (fun q8 => ?_)
  · refine nm (t_Rows.getD (i + 1).toNat default : DRow) fun x3 hx3 => ?_
    refine nm (Bg.sgn x3.Key : Int) fun n8 hn8 => ?_
    refine nm (Bg.dig x3.Key.natAbs : List Int) fun l6 hl6 => ?_
    have hl6n := congrArg List.length hl6
    refine nm (if Fr.FrB key_P_Sign key_P_Digits key_Q_Sign key_Q_Digits ∧ Fr.FrB n8 l6 (1 : Int) l4 then Fr.cmpQ (Fr.fq key_P_Sign key_P_Digits key_Q_Digits) (Fr.fq n8 l6 l4) else 0 : Int) fun n9 hn9 => ?_
    have hk_c : Tb.ky t_Rows (i.toNat + 1) = x3.Key := by rw [hx3, show ((i + 1)).toNat = i.toNat + 1 by omega]; rfl
    have hr_c := (hso.2.2 (i.toNat + 1) (by omega)).1
    rw [hk_c] at hr_c; unfold Tb.inR at hr_c
    have z_c : Fr.Fz n8 l6 1 l4 (x3.Key : Rat) := by subst_vars; exact Un.intz _
    have hl_c := z_c.len (Fr.Hb.int (n := x3.Key) (by omega)); have hl1_c := hl_c.1; have hl2_c := hl_c.2
    have hc_c : n9 < 0 ↔ (Fr.fq key_P_Sign key_P_Digits key_Q_Digits) < (Tb.ky t_Rows (i.toNat + 1) : Rat) := by rw [hn9, if_pos ⟨hK, z_c.rt⟩, z_c.v, ← hk_c]; exact Tb.cmpQ_neg
    refine V.r [.ld 1 0 true (fun _ => Dat.cells (DFrac.mk (DBig.mk key_P_Sign ⟨key_P_Digits, key_P_Digitss⟩) (DBig.mk key_Q_Sign ⟨key_Q_Digits, key_Q_Digitss⟩))),.k (pp ((G1 0).b) 2),.ld 0 2 false (fun _ => [t_Rowss.v]),.k (iv i),.a (i + 1) (by omega) (by omega),.ix g0 (kf false (.f 0) t_Rows (fun _ => t_Rowss)) (i + 1) (fun _ => ⟨by omega, by omega⟩),.k (.pointer (some ((elemAddr t_Rowss.v ((i + 1).toNat * 2)).add 0))),.le g0 (kf false (.f 0) t_Rows (fun _ => t_Rowss)) (i + 1) (some 0) false x3 hx3 (fun _ => ⟨by omega, by omega⟩) false (fun _ => [iv x3.Key]),.ct g0 8 16 false [] [] [] (fun _ G => r5int_ctv x3.Key (by omega) n8 hn8 l6 hl6 l4 hl4),.cp g0 9 30 [(kf false (.f 1) key_P_Digits (fun _ => key_P_Digitss)).a, (kf false (.f 2) key_Q_Digits (fun _ => key_Q_Digitss)).a, (kf true (.g 8 0) l6 (fun G => (G 8).ss 0)).a, (kf true (.g 8 1) l4 (fun G => (G 8).ss 1)).a] (fun _ G => fcmp_ctv key_P_Sign key_P_Digits key_P_Digitss key_Q_Sign key_Q_Digits key_Q_Digitss n8 l6 ((G 8).ss 0) (1 : Int) l4 ((G 8).ss 1) (by omega) (by omega) (by omega) (by omega) n9 hn9),.k (bv (decide (0 ≤ n9)))] fun _ _ G11 kw11 => ?_
    intro S_ s_
    obtain ⟨⟨kl10, -⟩, ⟨kl11, -⟩, -⟩ : Lq l6 (((G11 8).ss 0).v) ∧ Lq l4 (((G11 8).ss 1).v) ∧ True := kn kw11 (by kernel_rfl)
    clear kw11
    refine V.cond (b := decide (0 ≤ n9)) iDT iDF (by kernel_rfl) (fun q9 => ?_) (fun q10 => ?_)
    · refine V.g [.kb true,.kb true,.k (iv n3),.k (bv (decide (n3 = 0))),.k (bv (decide (n3 = 0))),.k (bv (decide (n3 = 0)))] fun _ _ G12 => ?_
      intro S_ s_
      have e0 : (decide (n3 = 0)) = true := by
        refine iDT.2 ?_
        have hp : 0 < Tb.aft t_Rows (Fr.fq key_P_Sign key_P_Digits key_Q_Digits) := Tb.aft_pos hso (i := 0) (by omega) (Rat.not_lt.1 fun h => q4 (hc_a.2 h))
        have he : n3 = 0 := by rw [hn3, if_neg (fun h => h hP), if_neg (by omega)]
        first | exact ⟨he, trivial⟩ | exact he
      exact V.ret [0] [] [] [] [] [] (bv (decide (n3 = 0))) (fun _ _ => by kernel_rfl) (fun _ _ => (Eq.trans (by kernel_rfl) (cong1 (fun (x0 : Bool) => (bv x0 : Value)) e0)).trans (by kernel_rfl)) (fun _ _ => trivial)
    have haft : Tb.aft t_Rows (Fr.fq key_P_Sign key_P_Digits key_Q_Digits) = i.toNat + 1 := Tb.aft_row hso (by omega) hle (fun h => hc_c.1 (by have hqq := q10; omega))
    refine nm (Un.dv ((Un.read t_Unit).1) 0 : Int) fun n10 hn10 => ?_
    refine nm (Un.dv ((Un.read t_Unit).1) 1 : Int) fun n11 hn11 => ?_
    refine nm (Un.dv ((Un.read t_Unit).1) 2 : Int) fun n12 hn12 => ?_
    refine nm (Un.dv ((Un.read t_Unit).1) 3 : Int) fun n13 hn13 => ?_
    refine nm (Un.dv ((Un.read t_Unit).1) 4 : Int) fun n14 hn14 => ?_
    refine nm (Un.dv ((Un.read t_Unit).1) 5 : Int) fun n15 hn15 => ?_
    refine nm (Fr.rS (((Un.read t_Unit).1).isSome = true) (Un.fv ((Un.read t_Unit).1)) : Int) fun n16 hn16 => ?_
    refine nm (Fr.rD (((Un.read t_Unit).1).isSome = true) (Un.fv ((Un.read t_Unit).1)) : List Int) fun l7 hl7 => ?_
    have hl7n := congrArg List.length hl7
    refine nm (Fr.rT (((Un.read t_Unit).1).isSome = true) : Int) fun n17 hn17 => ?_
    refine nm (Fr.rE (((Un.read t_Unit).1).isSome = true) (Un.fv ((Un.read t_Unit).1)) : List Int) fun l8 hl8 => ?_
    have hl8n := congrArg List.length hl8
    refine nm ((Un.read t_Unit).2 : Int) fun n18 hn18 => ?_
    refine V.r [.k (pp ((G1 0).b) 1),.ld 0 1 false (fun _ => [tv t_Unit]),.ct g0 2 13 false [] [] [] (fun _ G => uread_ctv t_Unit (by omega) n10 hn10 n11 hn11 n12 hn12 n13 hn13 n14 hn14 n15 hn15 n16 hn16 l7 hl7 n17 hn17 l8 hl8 n18 hn18),.v fun G => .tuple #[.agg #[iv n10, iv n11, iv n12, iv n13, iv n14, iv n15, iv n16, ((G 2).ss 0).v, iv n17, ((G 2).ss 1).v], iv n18],.v fun G => .agg #[iv n10, iv n11, iv n12, iv n13, iv n14, iv n15, iv n16, ((G 2).ss 0).v, iv n17, ((G 2).ss 1).v],.k (iv n18),.nb 6 3 (fun b => pp b 0) 32 (fun _ => #[iv 0, iv 0, iv 0, iv 0, iv 0, iv 0, iv 0, .slice none 0 0, iv 0, .slice none 0 0]),.st 3 (fun G => .blk ((G 6).b) #[iv n10, iv n11, iv n12, iv n13, iv n14, iv n15, iv n16, ((G 2).ss 0).v, iv n17, ((G 2).ss 1).v] 32),.k (iv n18)] fun _ _ G13 kw13 => ?_
    intro S_ s_
    obtain ⟨⟨kl12, -⟩, ⟨kl13, -⟩, -⟩ : Lq l7 (((G13 2).ss 0).v) ∧ Lq l8 (((G13 2).ss 1).v) ∧ True := kn kw13 (by kernel_rfl)
    clear kw13
    refine nm (Bg.sgn x2.Value : Int) fun n19 hn19 => ?_
    refine nm (Bg.dig x2.Value.natAbs : List Int) fun l9 hl9 => ?_
    have hl9n := congrArg List.length hl9
    refine nm (Fr.rS (Fr.FrB n19 l9 (1 : Int) l4 ∧ Fr.FrB n16 l7 n17 l8) ((Fr.fq n19 l9 l4) * (Fr.fq n16 l7 l8)) : Int) fun n20 hn20 => ?_
    refine nm (Fr.rD (Fr.FrB n19 l9 (1 : Int) l4 ∧ Fr.FrB n16 l7 n17 l8) ((Fr.fq n19 l9 l4) * (Fr.fq n16 l7 l8)) : List Int) fun l10 hl10 => ?_
    have hl10n := congrArg List.length hl10
    refine nm (Fr.rT (Fr.FrB n19 l9 (1 : Int) l4 ∧ Fr.FrB n16 l7 n17 l8) : Int) fun n21 hn21 => ?_
    refine nm (Fr.rE (Fr.FrB n19 l9 (1 : Int) l4 ∧ Fr.FrB n16 l7 n17 l8) ((Fr.fq n19 l9 l4) * (Fr.fq n16 l7 l8)) : List Int) fun l11 hl11 => ?_
    have hl11n := congrArg List.length hl11
    refine nm (if ¬ (Fr.FrB n19 l9 (1 : Int) l4 ∧ Fr.FrB n16 l7 n17 l8) then (1 : Int) else 0 : Int) fun n22 hn22 => ?_
    have hv_x : Tb.vl t_Rows i.toNat = x2.Value := by rw [hx2]; rfl
    have hrv := (hso.2.2 i.toNat (by omega)).2
    rw [hv_x] at hrv; unfold Tb.inR at hrv
    have zv : Fr.Fz n19 l9 1 l4 (x2.Value : Rat) := by subst_vars; exact Un.intz _
    have hlv := zv.len (Fr.Hb.int (n := x2.Value) (by omega)); have hlv1 := hlv.1; have hlv2 := hlv.2
    have zU := Fr.Fz.of (Un.read_some hu) hn16 hl7 hn17 hl8
    have hlU := zU.len (Tb.uf_hb hu).1; have hlU1 := hlU.1; have hlU2 := hlU.2
    have zw := Fr.Fz.of (And.intro zv.rt zU.rt) hn20 hl10 hn21 hl11
    rw [zv.v, zU.v, ← hv_x] at zw
    have zf := Fr.Fz.of (And.intro hP (show 0 < Tb.aft t_Rows (Fr.fq key_P_Sign key_P_Digits key_Q_Digits) by omega)) hn1 hl1 hn2 hl2
    rw [Tb.lk_row haft] at zf
    have hs14 := Fr.Fz.inj zf zw
    refine V.r [.k (pp ((G1 0).b) 2),.ld 0 2 false (fun _ => [t_Rowss.v]),.k (iv i),.ix g0 (kf false (.f 0) t_Rows (fun _ => t_Rowss)) i (fun _ => ⟨by omega, by omega⟩),.k (.pointer (some ((elemAddr t_Rowss.v (i.toNat * 2)).add 1))),.le g0 (kf false (.f 0) t_Rows (fun _ => t_Rowss)) i (some 1) false x2 hx2 (fun _ => ⟨by omega, by omega⟩) false (fun _ => [iv x2.Value]),.ct g0 6 16 false [] [] [] (fun _ G => r5int_ctv x2.Value (by omega) n19 hn19 l9 hl9 l4 hl4),.k (pp ((G13 6).b) 6),.ld 3 6 true (fun _ => Dat.cells (DFrac.mk (DBig.mk n16 ⟨l7, (G13 2).ss 0⟩) (DBig.mk n17 ⟨l8, (G13 2).ss 1⟩))),.ct g0 9 20 false [] [] [(kf true (.g 6 0) l9 (fun G => (G 6).ss 0)).a, (kf true (.g 6 1) l4 (fun G => (G 6).ss 1)).a, (kf true (.f 11) l7 (fun _ => (G13 2).ss 0)).a, (kf true (.f 12) l8 (fun _ => (G13 2).ss 1)).a] (fun _ G => fmul_ctv n19 l9 ((G 6).ss 0) (1 : Int) l4 ((G 6).ss 1) n16 l7 ((G13 2).ss 0) n17 l8 ((G13 2).ss 1) (by omega) (by omega) (by omega) (by omega) n20 hn20 l10 hl10 n21 hn21 l11 hl11 n22 hn22),.v fun G => .tuple #[ag (DFrac.mk (DBig.mk n20 ⟨l10, (G 9).ss 0⟩) (DBig.mk n21 ⟨l11, (G 9).ss 1⟩)), iv n22],.v fun G => ag (DFrac.mk (DBig.mk n20 ⟨l10, (G 9).ss 0⟩) (DBig.mk n21 ⟨l11, (G 9).ss 1⟩)),.k (iv n22),.nb 13 4 (fun b => pp b 0) 30 (fun _ => ca (DFrac.mk (DBig.mk 0 ⟨[], {}⟩) (DBig.mk 0 ⟨[], {}⟩))),.st 4 (fun G => .blk ((G 13).b) (ca (DFrac.mk (DBig.mk n20 ⟨l10, (G 9).ss 0⟩) (DBig.mk n21 ⟨l11, (G 9).ss 1⟩))) 30),.k (iv n22)] fun _ _ G14 kw14 => ?_
    intro S_ s_
    obtain ⟨⟨kl14, -⟩, ⟨kl15, -⟩, ⟨kl16, -⟩, ⟨kl17, -⟩, -⟩ : Lq l9 (((G14 6).ss 0).v) ∧ Lq l4 (((G14 6).ss 1).v) ∧ Lq l10 (((G14 9).ss 0).v) ∧ Lq l11 (((G14 9).ss 1).v) ∧ True := kn kw14 (by kernel_rfl)
    clear kw14
    refine nm (((decide (n3 = 0)) && (decide (n18 = 0))) && true : Bool) fun p3 hp3 => ?_
    refine V.g [.kb true,.kb true,.k (iv n3),.k (bv (decide (n3 = 0))),.k (bv (decide (n3 = 0))),.k (bv (decide (n3 = 0))),.k (iv n18),.k (bv (decide (n18 = 0))),.and g0 false (decide (n3 = 0)) (decide (n18 = 0)),.k (bv ((decide (n3 = 0)) && (decide (n18 = 0)))),.ld 2 0 true (fun _ => Dat.cells (DFrac.mk (DBig.mk n1 ⟨l1, (G5 2).ss 0⟩) (DBig.mk n2 ⟨l2, (G5 2).ss 1⟩))),.ld 4 0 true (fun _ => Dat.cells (DFrac.mk (DBig.mk n20 ⟨l10, (G14 9).ss 0⟩) (DBig.mk n21 ⟨l11, (G14 9).ss 1⟩))),.cp (gT (b := (decide (n3 = 0)) && (decide (n18 = 0))) (iAT iDT iDT)) 12 15 [(kf true (.f 3) l1 (fun _ => (G5 2).ss 0)).a, (kf true (.f 4) l2 (fun _ => (G5 2).ss 1)).a, (kf true (.f 15) l10 (fun _ => (G14 9).ss 0)).a, (kf true (.f 16) l11 (fun _ => (G14 9).ss 1)).a] (fun hg G => same5t_ct n1 l1 ((G5 2).ss 0) n2 l2 ((G5 2).ss 1) n20 l10 ((G14 9).ss 0) n21 l11 ((G14 9).ss 1) hs14),.andn g0 false ((decide (n3 = 0)) && (decide (n18 = 0))) true p3 hp3,.k (bv p3)] fun _ _ G15 => ?_
    intro S_ s_
    have e0 : p3 = true := by
      refine (iN hp3 (iAT (iAT iDT iDT) iTT)).2 ?_
      have he : n3 = 0 := by rw [hn3, if_neg (fun h => h hP), if_neg (by omega)]
      have hg : n18 = 0 := by rw [hn18]; exact hu
      first | exact ⟨⟨he, hg⟩, trivial⟩ | exact ⟨he, hg⟩
    exact V.ret [0] [] [] [] [] [] (bv p3) (fun _ _ => by kernel_rfl) (fun _ _ => (Eq.trans (by kernel_rfl) (cong1 (fun (x0 : Bool) => (bv x0 : Value)) e0)).trans (by kernel_rfl)) (fun _ _ => trivial)
  have haft : Tb.aft t_Rows (Fr.fq key_P_Sign key_P_Digits key_Q_Digits) = i.toNat + 1 := Tb.aft_row hso (by omega) hle (fun h => absurd h (by have hqq := q8; omega))
  refine nm (Un.dv ((Un.read t_Unit).1) 0 : Int) fun n23 hn23 => ?_
  refine nm (Un.dv ((Un.read t_Unit).1) 1 : Int) fun n24 hn24 => ?_
  refine nm (Un.dv ((Un.read t_Unit).1) 2 : Int) fun n25 hn25 => ?_
  refine nm (Un.dv ((Un.read t_Unit).1) 3 : Int) fun n26 hn26 => ?_
  refine nm (Un.dv ((Un.read t_Unit).1) 4 : Int) fun n27 hn27 => ?_
  refine nm (Un.dv ((Un.read t_Unit).1) 5 : Int) fun n28 hn28 => ?_
  refine nm (Fr.rS (((Un.read t_Unit).1).isSome = true) (Un.fv ((Un.read t_Unit).1)) : Int) fun n29 hn29 => ?_
  refine nm (Fr.rD (((Un.read t_Unit).1).isSome = true) (Un.fv ((Un.read t_Unit).1)) : List Int) fun l12 hl12 => ?_
  have hl12n := congrArg List.length hl12
  refine nm (Fr.rT (((Un.read t_Unit).1).isSome = true) : Int) fun n30 hn30 => ?_
  refine nm (Fr.rE (((Un.read t_Unit).1).isSome = true) (Un.fv ((Un.read t_Unit).1)) : List Int) fun l13 hl13 => ?_
  have hl13n := congrArg List.length hl13
  refine nm ((Un.read t_Unit).2 : Int) fun n31 hn31 => ?_
  refine V.r [.k (pp ((G1 0).b) 1),.ld 0 1 false (fun _ => [tv t_Unit]),.ct g0 2 13 false [] [] [] (fun _ G => uread_ctv t_Unit (by omega) n23 hn23 n24 hn24 n25 hn25 n26 hn26 n27 hn27 n28 hn28 n29 hn29 l12 hl12 n30 hn30 l13 hl13 n31 hn31),.v fun G => .tuple #[.agg #[iv n23, iv n24, iv n25, iv n26, iv n27, iv n28, iv n29, ((G 2).ss 0).v, iv n30, ((G 2).ss 1).v], iv n31],.v fun G => .agg #[iv n23, iv n24, iv n25, iv n26, iv n27, iv n28, iv n29, ((G 2).ss 0).v, iv n30, ((G 2).ss 1).v],.k (iv n31),.nb 6 3 (fun b => pp b 0) 32 (fun _ => #[iv 0, iv 0, iv 0, iv 0, iv 0, iv 0, iv 0, .slice none 0 0, iv 0, .slice none 0 0]),.st 3 (fun G => .blk ((G 6).b) #[iv n23, iv n24, iv n25, iv n26, iv n27, iv n28, iv n29, ((G 2).ss 0).v, iv n30, ((G 2).ss 1).v] 32),.k (iv n31)] fun _ _ G16 kw16 => ?_
  intro S_ s_
  obtain ⟨⟨kl18, -⟩, ⟨kl19, -⟩, -⟩ : Lq l12 (((G16 2).ss 0).v) ∧ Lq l13 (((G16 2).ss 1).v) ∧ True := kn kw16 (by kernel_rfl)
  clear kw16
  refine nm (Bg.sgn x2.Value : Int) fun n32 hn32 => ?_
  refine nm (Bg.dig x2.Value.natAbs : List Int) fun l14 hl14 => ?_
  have hl14n := congrArg List.length hl14
  refine nm (Fr.rS (Fr.FrB n32 l14 (1 : Int) l4 ∧ Fr.FrB n29 l12 n30 l13) ((Fr.fq n32 l14 l4) * (Fr.fq n29 l12 l13)) : Int) fun n33 hn33 => ?_
  refine nm (Fr.rD (Fr.FrB n32 l14 (1 : Int) l4 ∧ Fr.FrB n29 l12 n30 l13) ((Fr.fq n32 l14 l4) * (Fr.fq n29 l12 l13)) : List Int) fun l15 hl15 => ?_
  have hl15n := congrArg List.length hl15
  refine nm (Fr.rT (Fr.FrB n32 l14 (1 : Int) l4 ∧ Fr.FrB n29 l12 n30 l13) : Int) fun n34 hn34 => ?_
  refine nm (Fr.rE (Fr.FrB n32 l14 (1 : Int) l4 ∧ Fr.FrB n29 l12 n30 l13) ((Fr.fq n32 l14 l4) * (Fr.fq n29 l12 l13)) : List Int) fun l16 hl16 => ?_
  have hl16n := congrArg List.length hl16
  refine nm (if ¬ (Fr.FrB n32 l14 (1 : Int) l4 ∧ Fr.FrB n29 l12 n30 l13) then (1 : Int) else 0 : Int) fun n35 hn35 => ?_
  have hv_x : Tb.vl t_Rows i.toNat = x2.Value := by rw [hx2]; rfl
  have hrv := (hso.2.2 i.toNat (by omega)).2
  rw [hv_x] at hrv; unfold Tb.inR at hrv
  have zv : Fr.Fz n32 l14 1 l4 (x2.Value : Rat) := by subst_vars; exact Un.intz _
  have hlv := zv.len (Fr.Hb.int (n := x2.Value) (by omega)); have hlv1 := hlv.1; have hlv2 := hlv.2
  have zU := Fr.Fz.of (Un.read_some hu) hn29 hl12 hn30 hl13
  have hlU := zU.len (Tb.uf_hb hu).1; have hlU1 := hlU.1; have hlU2 := hlU.2
  have zw := Fr.Fz.of (And.intro zv.rt zU.rt) hn33 hl15 hn34 hl16
  rw [zv.v, zU.v, ← hv_x] at zw
  have zf := Fr.Fz.of (And.intro hP (show 0 < Tb.aft t_Rows (Fr.fq key_P_Sign key_P_Digits key_Q_Digits) by omega)) hn1 hl1 hn2 hl2
  rw [Tb.lk_row haft] at zf
  have hs14 := Fr.Fz.inj zf zw
  refine V.r [.k (pp ((G1 0).b) 2),.ld 0 2 false (fun _ => [t_Rowss.v]),.k (iv i),.ix g0 (kf false (.f 0) t_Rows (fun _ => t_Rowss)) i (fun _ => ⟨by omega, by omega⟩),.k (.pointer (some ((elemAddr t_Rowss.v (i.toNat * 2)).add 1))),.le g0 (kf false (.f 0) t_Rows (fun _ => t_Rowss)) i (some 1) false x2 hx2 (fun _ => ⟨by omega, by omega⟩) false (fun _ => [iv x2.Value]),.ct g0 6 16 false [] [] [] (fun _ G => r5int_ctv x2.Value (by omega) n32 hn32 l14 hl14 l4 hl4),.k (pp ((G16 6).b) 6),.ld 3 6 true (fun _ => Dat.cells (DFrac.mk (DBig.mk n29 ⟨l12, (G16 2).ss 0⟩) (DBig.mk n30 ⟨l13, (G16 2).ss 1⟩))),.ct g0 9 20 false [] [] [(kf true (.g 6 0) l14 (fun G => (G 6).ss 0)).a, (kf true (.g 6 1) l4 (fun G => (G 6).ss 1)).a, (kf true (.f 9) l12 (fun _ => (G16 2).ss 0)).a, (kf true (.f 10) l13 (fun _ => (G16 2).ss 1)).a] (fun _ G => fmul_ctv n32 l14 ((G 6).ss 0) (1 : Int) l4 ((G 6).ss 1) n29 l12 ((G16 2).ss 0) n30 l13 ((G16 2).ss 1) (by omega) (by omega) (by omega) (by omega) n33 hn33 l15 hl15 n34 hn34 l16 hl16 n35 hn35),.v fun G => .tuple #[ag (DFrac.mk (DBig.mk n33 ⟨l15, (G 9).ss 0⟩) (DBig.mk n34 ⟨l16, (G 9).ss 1⟩)), iv n35],.v fun G => ag (DFrac.mk (DBig.mk n33 ⟨l15, (G 9).ss 0⟩) (DBig.mk n34 ⟨l16, (G 9).ss 1⟩)),.k (iv n35),.nb 13 4 (fun b => pp b 0) 30 (fun _ => ca (DFrac.mk (DBig.mk 0 ⟨[], {}⟩) (DBig.mk 0 ⟨[], {}⟩))),.st 4 (fun G => .blk ((G 13).b) (ca (DFrac.mk (DBig.mk n33 ⟨l15, (G 9).ss 0⟩) (DBig.mk n34 ⟨l16, (G 9).ss 1⟩))) 30),.k (iv n35)] fun _ _ G17 kw17 => ?_
  intro S_ s_
  obtain ⟨⟨kl20, -⟩, ⟨kl21, -⟩, ⟨kl22, -⟩, ⟨kl23, -⟩, -⟩ : Lq l14 (((G17 6).ss 0).v) ∧ Lq l4 (((G17 6).ss 1).v) ∧ Lq l15 (((G17 9).ss 0).v) ∧ Lq l16 (((G17 9).ss 1).v) ∧ True := kn kw17 (by kernel_rfl)
  clear kw17
  refine nm (((decide (n3 = 0)) && (decide (n31 = 0))) && true : Bool) fun p4 hp4 => ?_
  refine V.g [.kb true,.kb true,.k (iv n3),.k (bv (decide (n3 = 0))),.k (bv (decide (n3 = 0))),.k (bv (decide (n3 = 0))),.k (iv n31),.k (bv (decide (n31 = 0))),.and g0 false (decide (n3 = 0)) (decide (n31 = 0)),.k (bv ((decide (n3 = 0)) && (decide (n31 = 0)))),.ld 2 0 true (fun _ => Dat.cells (DFrac.mk (DBig.mk n1 ⟨l1, (G5 2).ss 0⟩) (DBig.mk n2 ⟨l2, (G5 2).ss 1⟩))),.ld 4 0 true (fun _ => Dat.cells (DFrac.mk (DBig.mk n33 ⟨l15, (G17 9).ss 0⟩) (DBig.mk n34 ⟨l16, (G17 9).ss 1⟩))),.cp (gT (b := (decide (n3 = 0)) && (decide (n31 = 0))) (iAT iDT iDT)) 12 15 [(kf true (.f 3) l1 (fun _ => (G5 2).ss 0)).a, (kf true (.f 4) l2 (fun _ => (G5 2).ss 1)).a, (kf true (.f 13) l15 (fun _ => (G17 9).ss 0)).a, (kf true (.f 14) l16 (fun _ => (G17 9).ss 1)).a] (fun hg G => same5t_ct n1 l1 ((G5 2).ss 0) n2 l2 ((G5 2).ss 1) n33 l15 ((G17 9).ss 0) n34 l16 ((G17 9).ss 1) hs14),.andn g0 false ((decide (n3 = 0)) && (decide (n31 = 0))) true p4 hp4,.k (bv p4)] fun _ _ G18 => ?_
  intro S_ s_
  have e0 : p4 = true := by
    refine (iN hp4 (iAT (iAT iDT iDT) iTT)).2 ?_
    have he : n3 = 0 := by rw [hn3, if_neg (fun h => h hP), if_neg (by omega)]
    have hg : n31 = 0 := by rw [hn31]; exact hu
    first | exact ⟨⟨he, hg⟩, trivial⟩ | exact ⟨he, hg⟩
  exact V.ret [0] [] [] [] [] [] (bv p4) (fun _ _ => by kernel_rfl) (fun _ _ => (Eq.trans (by kernel_rfl) (cong1 (fun (x0 : Bool) => (bv x0 : Value)) e0)).trans (by kernel_rfl)) (fun _ _ => trivial)
end Kb
