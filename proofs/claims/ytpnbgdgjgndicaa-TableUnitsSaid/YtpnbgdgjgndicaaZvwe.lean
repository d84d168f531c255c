/- Texts for the claim, put together: the calculus of regions, its rules, and contracts of the functions that the law reaches. -/
import Derived.Test.YtpnbgdgjgndicaaZvwd
set_option linter.unusedVariables false
set_option linter.unusedSectionVars false
set_option linter.unusedSimpArgs false
namespace Kb
open Go Go.Proofs
set_option maxRecDepth 10000 in
theorem r4neg_ct (a_Sign : Int) (a_Digits : List Int) (a_Digitss : SV) (hla : a_Digits.length ≤ 17179869184) :
    Ct Try.prog 89 #[ag (DBig.mk a_Sign ⟨a_Digits, a_Digitss⟩)] [fs true a_Digits a_Digitss] [] (fun g => ag (DBig.mk (Bg.oS (Bg.RtB a_Sign a_Digits) (-Bg.zv a_Sign a_Digits)) ⟨Bg.oD (Bg.RtB a_Sign a_Digits) (-Bg.zv a_Sign a_Digits), (g.ss 0)⟩)) (fun g => [fs true (Bg.oD (Bg.RtB a_Sign a_Digits) (-Bg.zv a_Sign a_Digits)) (g.ss 0)]) (fun g => []) (fun g => []) := by
  refine V.fn mo Try.func89 13 2 (by kernel_rfl) fun w H ε k0 => ?_
  obtain ⟨⟨kl1, -⟩, -⟩ : Lq a_Digits a_Digitss.v ∧ True := kn k0 (by kernel_rfl)
  clear k0
  refine V.g [.nb 0 0 (fun b => pp b 0) 28 (fun _ => ca (DBig.mk a_Sign ⟨a_Digits, a_Digitss⟩)),.nb 1 1 (fun b => pp b 0) 28 (fun _ => ca (DBig.mk 0 ⟨[], {}⟩))] fun _ _ G1 => ?_
  intro S_ s_
  refine V.g [.ld 0 0 true (fun _ => Dat.cells (DBig.mk a_Sign ⟨a_Digits, a_Digitss⟩)),.cp g0 1 88 [(kf false (.f 0) a_Digits (fun _ => a_Digitss)).a] (fun _ G => r4right_ct a_Sign a_Digits a_Digitss),.k (bv (!(decide (Bg.RtB a_Sign a_Digits))))] fun _ _ G2 => ?_
  intro S_ s_
  refine V.cond (b := !(decide (Bg.RtB a_Sign a_Digits))) (iNT iDF) (iNF iDT) (by kernel_rfl) (fun q1 => ?_) (fun q2 => ?_)
  · refine V.g [.k (ag (DBig.mk 0 ⟨[], {}⟩)),.st 1 (fun _ => .blk ((G1 1).b) (ca (DBig.mk 0 ⟨[], {}⟩)) 28)] fun _ _ G3 => ?_
    intro S_ s_
    refine V.nilF (α := Int) ?_
    have e1 : ([] : List Int) = Bg.oD (Bg.RtB a_Sign a_Digits) (-Bg.zv a_Sign a_Digits) := (Bg.oD_n q1 _).symm
    rw [← e1]
    have e0 : (0 : Int) = Bg.oS (Bg.RtB a_Sign a_Digits) (-Bg.zv a_Sign a_Digits) := (Bg.oS_n q1 _).symm
    exact V.ret [1] [{}] [fun _ => {}] [] [1] [] (ag (DBig.mk 0 ⟨([] : List Int), {}⟩)) (fun _ _ => by kernel_rfl) (fun _ _ => (Eq.trans (by kernel_rfl) (cong1 (fun (x0 : Int) => (.agg #[iv x0, SV.v ({})] : Value)) e0)).trans (by kernel_rfl)) (fun _ _ => trivial)
  have hRt : Bg.RtB a_Sign a_Digits := by first | exact q2 | exact Decidable.not_not.1 q2
  have hsB := Bg.sg_le hRt
  refine nm (Bg.sg0 (Bg.nv a_Digits) (-a_Sign) : Int) fun n1 hn1 => ?_
  refine nm (Bg.dig (Bg.nv a_Digits) : List Int) fun l1 hl1 => ?_
  have hl1n := congrArg List.length hl1
  refine V.r [.k (pp ((G1 0).b) 0),.ld 0 0 false (fun _ => [iv a_Sign]),.ng a_Sign (-a_Sign) rfl (by omega) (by omega),.k (pp ((G1 0).b) 1),.ld 0 1 false (fun _ => [a_Digitss.v]),.ct g0 5 92 false [] [] [(kf false (.f 0) a_Digits (fun _ => a_Digitss)).a] (fun _ G => r4made_ctv (-a_Sign) a_Digits a_Digitss hRt.dg (by omega) n1 hn1 l1 hl1),.st 1 (fun G => .blk ((G1 1).b) (ca (DBig.mk n1 ⟨l1, (G 5).ss 0⟩)) 28)] fun _ _ G4 kw4 => ?_
  intro S_ s_
  obtain ⟨⟨kl2, -⟩, -⟩ : Lq l1 (((G4 5).ss 0).v) ∧ True := kn kw4 (by kernel_rfl)
  clear kw4
  have e1 : l1 = Bg.oD (Bg.RtB a_Sign a_Digits) (-Bg.zv a_Sign a_Digits) := by
    rw [hl1]
    rw [Bg.oD_y hRt]; exact Bg.neg_d hRt
  subst e1
  have e0 : n1 = Bg.oS (Bg.RtB a_Sign a_Digits) (-Bg.zv a_Sign a_Digits) := by
    rw [hn1]
    rw [Bg.oS_y hRt]; exact Bg.neg_s hRt
  exact V.ret [1] [(G4 5).ss 0] [fun _ => {}] [] [1] [] (ag (DBig.mk n1 ⟨(Bg.oD (Bg.RtB a_Sign a_Digits) (-Bg.zv a_Sign a_Digits)), (G4 5).ss 0⟩)) (fun _ _ => by kernel_rfl) (fun _ _ => (Eq.trans (by kernel_rfl) (cong1 (fun (x0 : Int) => (.agg #[iv x0, ((G4 5).ss 0).v] : Value)) e0)).trans (by kernel_rfl)) (fun _ _ => trivial)
theorem r4neg_ctv (a_Sign : Int) (a_Digits : List Int) (a_Digitss : SV) (hla : a_Digits.length ≤ 17179869184) (rv0 : Int) (erv0 : rv0 = Bg.oS (Bg.RtB a_Sign a_Digits) (-Bg.zv a_Sign a_Digits)) (rv1 : List Int) (erv1 : rv1 = Bg.oD (Bg.RtB a_Sign a_Digits) (-Bg.zv a_Sign a_Digits)) :
    Ct Try.prog 89 #[ag (DBig.mk a_Sign ⟨a_Digits, a_Digitss⟩)] [fs true a_Digits a_Digitss] [] (fun g => ag (DBig.mk rv0 ⟨rv1, (g.ss 0)⟩)) (fun g => [fs true rv1 (g.ss 0)]) (fun g => []) (fun g => []) := by
  subst erv0 erv1; exact r4neg_ct a_Sign a_Digits a_Digitss hla
set_option maxRecDepth 10000 in
theorem r4gcd_ct (a_Sign : Int) (a_Digits : List Int) (a_Digitss : SV) (b_Sign : Int) (b_Digits : List Int) (b_Digitss : SV) (hla : a_Digits.length ≤ 17179869184) (hlb : b_Digits.length ≤ 17179869184) :
    Ct Try.prog 90 #[ag (DBig.mk a_Sign ⟨a_Digits, a_Digitss⟩), ag (DBig.mk b_Sign ⟨b_Digits, b_Digitss⟩)] [fs true a_Digits a_Digitss, fs true b_Digits b_Digitss] [] (fun g => .tuple #[ag (DBig.mk (Bg.oS (Bg.RtB a_Sign a_Digits ∧ Bg.RtB b_Sign b_Digits) ((Nat.gcd (Bg.nv a_Digits) (Bg.nv b_Digits) : Int))) ⟨Bg.oD (Bg.RtB a_Sign a_Digits ∧ Bg.RtB b_Sign b_Digits) ((Nat.gcd (Bg.nv a_Digits) (Bg.nv b_Digits) : Int)), (g.ss 0)⟩), iv (if (Bg.RtB a_Sign a_Digits ∧ Bg.RtB b_Sign b_Digits) then (0 : Int) else 1)]) (fun g => [fs true (Bg.oD (Bg.RtB a_Sign a_Digits ∧ Bg.RtB b_Sign b_Digits) ((Nat.gcd (Bg.nv a_Digits) (Bg.nv b_Digits) : Int))) (g.ss 0)]) (fun g => []) (fun g => []) := by
  refine V.fn mo Try.func90 36 3 (by kernel_rfl) fun w H ε k0 => ?_
  obtain ⟨⟨kl1, -⟩, ⟨kl2, -⟩, -⟩ : Lq a_Digits a_Digitss.v ∧ Lq b_Digits b_Digitss.v ∧ True := kn k0 (by kernel_rfl)
  clear k0
  refine V.g [.nb 0 0 (fun b => pp b 0) 28 (fun _ => ca (DBig.mk a_Sign ⟨a_Digits, a_Digitss⟩)),.nb 1 1 (fun b => pp b 0) 28 (fun _ => ca (DBig.mk b_Sign ⟨b_Digits, b_Digitss⟩)),.nb 2 2 (fun b => pp b 0) 28 (fun _ => ca (DBig.mk 0 ⟨[], {}⟩)),.k (iv 0)] fun _ _ G1 => ?_
  intro S_ s_
  refine nm ((!(decide (Bg.RtB a_Sign a_Digits))) || (!(decide (Bg.RtB b_Sign b_Digits))) : Bool) fun p1 hp1 => ?_
  refine V.g [.ld 0 0 true (fun _ => Dat.cells (DBig.mk a_Sign ⟨a_Digits, a_Digitss⟩)),.cp g0 1 88 [(kf false (.f 0) a_Digits (fun _ => a_Digitss)).a] (fun _ G => r4right_ct a_Sign a_Digits a_Digitss),.k (bv (!(decide (Bg.RtB a_Sign a_Digits)))),.k (bv (!(decide (Bg.RtB a_Sign a_Digits)))),.ld 1 0 true (fun _ => Dat.cells (DBig.mk b_Sign ⟨b_Digits, b_Digitss⟩)),.cp (gF (b := !(decide (Bg.RtB a_Sign a_Digits))) (iNF iDT)) 5 88 [(kf false (.f 1) b_Digits (fun _ => b_Digitss)).a] (fun hg G => r4right_ct b_Sign b_Digits b_Digitss),.k (bv (!(decide (Bg.RtB b_Sign b_Digits)))),.orn g0 false (!(decide (Bg.RtB a_Sign a_Digits))) (!(decide (Bg.RtB b_Sign b_Digits))) p1 hp1] fun _ _ G2 => ?_
  intro S_ s_
  refine V.cond (b := p1) (iN hp1 (iOT (iNT iDF) (iNT iDF))) (iN hp1 (iOF (iNF iDT) (iNF iDT))) (by kernel_rfl) (fun q1 => ?_) (fun q2 => ?_)
  · have hNR : ¬ (Bg.RtB a_Sign a_Digits ∧ Bg.RtB b_Sign b_Digits) := by rintro ⟨h1, h2⟩; rcases q1 with h | h; exact h h1; exact h h2
    refine V.g [.k (ag (DBig.mk 0 ⟨[], {}⟩)),.st 2 (fun _ => .blk ((G1 2).b) (ca (DBig.mk 0 ⟨[], {}⟩)) 28),.k (iv 1)] fun _ _ G3 => ?_
    intro S_ s_
    refine V.nilF (α := Int) ?_
    have e1 : ([] : List Int) = Bg.oD (Bg.RtB a_Sign a_Digits ∧ Bg.RtB b_Sign b_Digits) ((Nat.gcd (Bg.nv a_Digits) (Bg.nv b_Digits) : Int)) := (Bg.oD_n hNR _).symm
    rw [← e1]
    have e0 : (0 : Int) = Bg.oS (Bg.RtB a_Sign a_Digits ∧ Bg.RtB b_Sign b_Digits) ((Nat.gcd (Bg.nv a_Digits) (Bg.nv b_Digits) : Int)) := (Bg.oS_n hNR _).symm
    have e2 : (1 : Int) = if (Bg.RtB a_Sign a_Digits ∧ Bg.RtB b_Sign b_Digits) then (0 : Int) else 1 := (if_neg hNR).symm
    exact V.ret [2, 0] [{}] [fun _ => {}] [] [2] [] (.tuple #[ag (DBig.mk 0 ⟨([] : List Int), {}⟩), iv 1]) (fun _ _ => by kernel_rfl) (fun _ _ => (Eq.trans (by kernel_rfl) (cong2 (fun (x0 : Int) (x2 : Int) => (.tuple #[.agg #[iv x0, SV.v ({})], iv x2] : Value)) e0 e2)).trans (by kernel_rfl)) (fun _ _ => trivial)
  have hRR : (Bg.RtB a_Sign a_Digits ∧ Bg.RtB b_Sign b_Digits) := by first | exact q2 | exact ⟨Decidable.not_not.1 (q2).1, Decidable.not_not.1 (q2).2⟩
  have hsm := Bg.sml hRR.1 hRR.2
  refine V.g [.k (pp ((G1 0).b) 1),.ld 0 1 false (fun _ => [a_Digitss.v]),.k (a_Digitss.v)] fun _ _ G4 => ?_
  intro S_ s_
  refine V.g [.k (pp ((G1 1).b) 1),.ld 1 1 false (fun _ => [b_Digitss.v]),.k (b_Digitss.v)] fun _ _ G5 => ?_
  intro S_ s_
  refine V.loop (γ := List Int × SV × List Int × SV) (fun ⟨x, xs, y, ys⟩ => ⟨[(4, pp ((G1 2).b) 0), (6, xs.v), (7, ys.v)], [fs false x xs, fs false y ys, fs false a_Digits a_Digitss, fs false b_Digits b_Digitss], [.blk ((G1 0).b) (ca (DBig.mk a_Sign ⟨a_Digits, a_Digitss⟩)) 28, .blk ((G1 1).b) (ca (DBig.mk b_Sign ⟨b_Digits, b_Digitss⟩)) 28, .blk ((G1 2).b) (ca (DBig.mk 0 ⟨[], {}⟩)) 28]⟩) (fun ⟨x, xs, y, ys⟩ => (Bg.Dg x) ∧ (Bg.Nz y) ∧ (Bg.Dg y) ∧ (Nat.gcd (Bg.nv x) (Bg.nv y) = Nat.gcd (Bg.nv a_Digits) (Bg.nv b_Digits)) ∧ (x.length ≤ 17179869184) ∧ (y.length ≤ 17179869184)) (fun ⟨x, xs, y, ys⟩ => Bg.nv y) (a_Digits, a_Digitss, b_Digits, b_Digitss) (by kernel_rfl) [0, 1, 0, 1] (by kernel_rfl) ?_ ?_
  · refine ⟨?_, ?_, ?_, ?_, ?_, ?_⟩
    · show Bg.Dg a_Digits
      exact hRR.1.dg
    · show Bg.Nz b_Digits
      exact hRR.2.nz
    · show Bg.Dg b_Digits
      exact hRR.2.dg
    · show Nat.gcd (Bg.nv a_Digits) (Bg.nv b_Digits) = Nat.gcd (Bg.nv a_Digits) (Bg.nv b_Digits)
      rfl
    · show a_Digits.length ≤ 17179869184
      omega
    show b_Digits.length ≤ 17179869184
    omega
  rintro ⟨x, xs, y, ys⟩ hF1 kw6 Z1 hZ1
  have hF1 : (Bg.Dg x) ∧ (Bg.Nz y) ∧ (Bg.Dg y) ∧ (Nat.gcd (Bg.nv x) (Bg.nv y) = Nat.gcd (Bg.nv a_Digits) (Bg.nv b_Digits)) ∧ (x.length ≤ 17179869184) ∧ (y.length ≤ 17179869184) := hF1
  obtain ⟨hf1, hf2, hf3, hf4, hf5, hf6⟩ := hF1
  obtain ⟨⟨kl3, -⟩, ⟨kl4, -⟩, -, -, -⟩ : Lq x xs.v ∧ Lq y ys.v ∧ Lq a_Digits a_Digitss.v ∧ Lq b_Digits b_Digitss.v ∧ True := kn kw6 (by kernel_rfl)
  clear kw6
  refine V.g [.k (ys.v),.ln (kf false (.f 1) y (fun _ => ys)),.k (bv (decide (0 < (y.length : Int))))] fun _ _ G6 => ?_
  intro S_ s_
  refine V.cond (b := decide (0 < (y.length : Int))) iDT iDF (by kernel_rfl) (fun q3 => ?_) (fun q4 => ?_)
  · have hyn : y ≠ [] := fun e => by have := congrArg List.length e; simp only [List.length_nil] at this; omega
    have hyp := Bg.nv_ne hf3 hf2 hyn
    have hmd := Nat.mod_lt (Bg.nv x) (Nat.pos_of_ne_zero hyp)
    refine nm (Bg.dig (Bg.nv x / Bg.nv y) : List Int) fun l1 hl1 => ?_
    have hl1n := congrArg List.length hl1
    refine nm (Bg.dig (Bg.nv x % Bg.nv y) : List Int) fun l2 hl2 => ?_
    have hl2n := congrArg List.length hl2
    refine V.r [.k (xs.v),.k (ys.v),.ct g0 2 119 false [] [] [(kf false (.f 0) x (fun _ => xs)).a, (kf false (.f 1) y (fun _ => ys)).a] (fun _ G => r4over_ctv x xs y ys hf1 hf3 (Nat.pos_of_ne_zero hyp) (by omega) (by omega) l1 hl1 l2 hl2),.v fun G => .tuple #[((G 2).ss 0).v, ((G 2).ss 1).v],.v fun G => ((G 2).ss 0).v,.v fun G => ((G 2).ss 1).v,.v fun G => ((G 2).ss 0).v,.v fun G => ((G 2).ss 1).v] fun _ _ G7 kw8 => ?_
    intro S_ s_
    obtain ⟨⟨kl5, -⟩, ⟨kl6, -⟩, -⟩ : Lq l1 (((G7 2).ss 0).v) ∧ Lq l2 (((G7 2).ss 1).v) ∧ True := kn kw8 (by kernel_rfl)
    clear kw8
    refine V.g [.k (ys.v),.k (ys.v)] fun _ _ G8 => ?_
    intro S_ s_
    refine V.g [.k (((G7 2).ss 1).v),.k (((G7 2).ss 1).v)] fun _ _ G9 => ?_
    intro S_ s_
    refine V.rnd hZ1 (y, ys, l2, (G7 2).ss 1) [1, 5, 2, 3] (by kernel_rfl) ?_ ?_
    · refine ⟨?_, ?_, ?_, ?_, ?_, ?_⟩
      · show Bg.Dg y
        exact hf3
      · show Bg.Nz l2
        rw [hl2]
        exact Bg.dig_Nz _
      · show Bg.Dg l2
        rw [hl2]
        exact Bg.dig_Dg _
      · show Nat.gcd (Bg.nv y) (Bg.nv l2) = Nat.gcd (Bg.nv a_Digits) (Bg.nv b_Digits)
        rw [hl2]
        rw [Bg.nv_dig]; exact Bg.gcd_step hf4
      · show y.length ≤ 17179869184
        omega
      show l2.length ≤ 17179869184
      rw [hl2]
      exact Nat.le_trans (Bg.dig_len_mono' (Nat.le_of_lt hmd)) (Nat.le_trans (Bg.dig_le hf3) hf6)
    show Bg.nv l2 < Bg.nv y
    rw [hl2]
    rw [Bg.nv_dig]; exact hmd
  have hxd := hf1
  have hgx := hf4
  have hy0 : y = [] := List.eq_nil_of_length_eq_zero (by omega)
  rw [hy0, show Bg.nv [] = 0 from rfl, Nat.gcd_zero_right] at hgx
  have hgS := Bg.gcdS (Nat.gcd (Bg.nv a_Digits) (Bg.nv b_Digits)); have hgD := Bg.gcdD (Nat.gcd (Bg.nv a_Digits) (Bg.nv b_Digits))
  rw [← hgx, Bg.nv_dig] at hgS hgD
  refine nm (Bg.sg0 (Bg.nv x) (1 : Int) : Int) fun n1 hn1 => ?_
  refine nm (Bg.dig (Bg.nv x) : List Int) fun l3 hl3 => ?_
  have hl3n := congrArg List.length hl3
  refine V.r [.k (xs.v),.ct g0 1 92 false [] [] [(kf false (.f 0) x (fun _ => xs)).a] (fun _ G => r4made_ctv (1 : Int) x xs hxd (by omega) n1 hn1 l3 hl3),.st 2 (fun G => .blk ((G1 2).b) (ca (DBig.mk n1 ⟨l3, (G 1).ss 0⟩)) 28),.k (iv 0)] fun _ _ G10 kw11 => ?_
  intro S_ s_
  obtain ⟨⟨kl7, -⟩, -⟩ : Lq l3 (((G10 1).ss 0).v) ∧ True := kn kw11 (by kernel_rfl)
  clear kw11
  have e1 : l3 = Bg.oD (Bg.RtB a_Sign a_Digits ∧ Bg.RtB b_Sign b_Digits) ((Nat.gcd (Bg.nv a_Digits) (Bg.nv b_Digits) : Int)) := by
    rw [hl3]
    rw [Bg.oD_y hRR]; rw [← hgx]; exact hgD
  subst e1
  have e0 : n1 = Bg.oS (Bg.RtB a_Sign a_Digits ∧ Bg.RtB b_Sign b_Digits) ((Nat.gcd (Bg.nv a_Digits) (Bg.nv b_Digits) : Int)) := by
    rw [hn1]
    rw [Bg.oS_y hRR]; rw [← hgx]; exact hgS
  have e2 : (0 : Int) = if (Bg.RtB a_Sign a_Digits ∧ Bg.RtB b_Sign b_Digits) then (0 : Int) else 1 := (if_pos hRR).symm
  exact V.ret [2, 0] [(G10 1).ss 0] [fun _ => {}] [] [4] [] (.tuple #[ag (DBig.mk n1 ⟨(Bg.oD (Bg.RtB a_Sign a_Digits ∧ Bg.RtB b_Sign b_Digits) ((Nat.gcd (Bg.nv a_Digits) (Bg.nv b_Digits) : Int))), (G10 1).ss 0⟩), iv 0]) (fun _ _ => by kernel_rfl) (fun _ _ => (Eq.trans (by kernel_rfl) (cong2 (fun (x0 : Int) (x2 : Int) => (.tuple #[.agg #[iv x0, ((G10 1).ss 0).v], iv x2] : Value)) e0 e2)).trans (by kernel_rfl)) (fun _ _ => trivial)
theorem r4gcd_ctv (a_Sign : Int) (a_Digits : List Int) (a_Digitss : SV) (b_Sign : Int) (b_Digits : List Int) (b_Digitss : SV) (hla : a_Digits.length ≤ 17179869184) (hlb : b_Digits.length ≤ 17179869184) (rv0 : Int) (erv0 : rv0 = Bg.oS (Bg.RtB a_Sign a_Digits ∧ Bg.RtB b_Sign b_Digits) ((Nat.gcd (Bg.nv a_Digits) (Bg.nv b_Digits) : Int))) (rv1 : List Int) (erv1 : rv1 = Bg.oD (Bg.RtB a_Sign a_Digits ∧ Bg.RtB b_Sign b_Digits) ((Nat.gcd (Bg.nv a_Digits) (Bg.nv b_Digits) : Int))) (rv2 : Int) (erv2 : rv2 = if (Bg.RtB a_Sign a_Digits ∧ Bg.RtB b_Sign b_Digits) then (0 : Int) else 1) :
    Ct Try.prog 90 #[ag (DBig.mk a_Sign ⟨a_Digits, a_Digitss⟩), ag (DBig.mk b_Sign ⟨b_Digits, b_Digitss⟩)] [fs true a_Digits a_Digitss, fs true b_Digits b_Digitss] [] (fun g => .tuple #[ag (DBig.mk rv0 ⟨rv1, (g.ss 0)⟩), iv rv2]) (fun g => [fs true rv1 (g.ss 0)]) (fun g => []) (fun g => []) := by
  subst erv0 erv1 erv2; exact r4gcd_ct a_Sign a_Digits a_Digitss b_Sign b_Digits b_Digitss hla hlb
set_option maxRecDepth 10000 in
theorem r4div_ct (a_Sign : Int) (a_Digits : List Int) (a_Digitss : SV) (b_Sign : Int) (b_Digits : List Int) (b_Digitss : SV) (hla : a_Digits.length ≤ 17179869184) (hlb : b_Digits.length ≤ 17179869184) :
    Ct Try.prog 91 #[ag (DBig.mk a_Sign ⟨a_Digits, a_Digitss⟩), ag (DBig.mk b_Sign ⟨b_Digits, b_Digitss⟩)] [fs true a_Digits a_Digitss, fs true b_Digits b_Digitss] [] (fun g => .tuple #[ag (DBig.mk (Bg.oS ((Bg.RtB a_Sign a_Digits ∧ Bg.RtB b_Sign b_Digits) ∧ b_Sign ≠ 0) (Bg.flo (Bg.zv a_Sign a_Digits) (Bg.zv b_Sign b_Digits))) ⟨Bg.oD ((Bg.RtB a_Sign a_Digits ∧ Bg.RtB b_Sign b_Digits) ∧ b_Sign ≠ 0) (Bg.flo (Bg.zv a_Sign a_Digits) (Bg.zv b_Sign b_Digits)), (g.ss 0)⟩), ag (DBig.mk (Bg.oS ((Bg.RtB a_Sign a_Digits ∧ Bg.RtB b_Sign b_Digits) ∧ b_Sign ≠ 0) (Bg.fmo (Bg.zv a_Sign a_Digits) (Bg.zv b_Sign b_Digits))) ⟨Bg.oD ((Bg.RtB a_Sign a_Digits ∧ Bg.RtB b_Sign b_Digits) ∧ b_Sign ≠ 0) (Bg.fmo (Bg.zv a_Sign a_Digits) (Bg.zv b_Sign b_Digits)), (g.ss 1)⟩), iv (if ¬ (Bg.RtB a_Sign a_Digits ∧ Bg.RtB b_Sign b_Digits) then (1 : Int) else if b_Sign = 0 then 15 else 0)]) (fun g => [fs true (Bg.oD ((Bg.RtB a_Sign a_Digits ∧ Bg.RtB b_Sign b_Digits) ∧ b_Sign ≠ 0) (Bg.flo (Bg.zv a_Sign a_Digits) (Bg.zv b_Sign b_Digits))) (g.ss 0), fs true (Bg.oD ((Bg.RtB a_Sign a_Digits ∧ Bg.RtB b_Sign b_Digits) ∧ b_Sign ≠ 0) (Bg.fmo (Bg.zv a_Sign a_Digits) (Bg.zv b_Sign b_Digits))) (g.ss 1)]) (fun g => []) (fun g => []) := by
  refine V.fn mo Try.func91 65 4 (by kernel_rfl) fun w H ε k0 => ?_
  obtain ⟨⟨kl1, -⟩, ⟨kl2, -⟩, -⟩ : Lq a_Digits a_Digitss.v ∧ Lq b_Digits b_Digitss.v ∧ True := kn k0 (by kernel_rfl)
  clear k0
  refine V.g [.nb 0 0 (fun b => pp b 0) 28 (fun _ => ca (DBig.mk a_Sign ⟨a_Digits, a_Digitss⟩)),.nb 1 1 (fun b => pp b 0) 28 (fun _ => ca (DBig.mk b_Sign ⟨b_Digits, b_Digitss⟩)),.nb 2 2 (fun b => pp b 0) 28 (fun _ => ca (DBig.mk 0 ⟨[], {}⟩)),.nb 3 3 (fun b => pp b 0) 28 (fun _ => ca (DBig.mk 0 ⟨[], {}⟩)),.k (iv 0)] fun _ _ G1 => ?_
  intro S_ s_
  refine nm ((!(decide (Bg.RtB a_Sign a_Digits))) || (!(decide (Bg.RtB b_Sign b_Digits))) : Bool) fun p1 hp1 => ?_
  refine V.g [.ld 0 0 true (fun _ => Dat.cells (DBig.mk a_Sign ⟨a_Digits, a_Digitss⟩)),.cp g0 1 88 [(kf false (.f 0) a_Digits (fun _ => a_Digitss)).a] (fun _ G => r4right_ct a_Sign a_Digits a_Digitss),.k (bv (!(decide (Bg.RtB a_Sign a_Digits)))),.k (bv (!(decide (Bg.RtB a_Sign a_Digits)))),.ld 1 0 true (fun _ => Dat.cells (DBig.mk b_Sign ⟨b_Digits, b_Digitss⟩)),.cp (gF (b := !(decide (Bg.RtB a_Sign a_Digits))) (iNF iDT)) 5 88 [(kf false (.f 1) b_Digits (fun _ => b_Digitss)).a] (fun hg G => r4right_ct b_Sign b_Digits b_Digitss),.k (bv (!(decide (Bg.RtB b_Sign b_Digits)))),.orn g0 false (!(decide (Bg.RtB a_Sign a_Digits))) (!(decide (Bg.RtB b_Sign b_Digits))) p1 hp1] fun _ _ G2 => ?_
  intro S_ s_
  refine V.cond (b := p1) (iN hp1 (iOT (iNT iDF) (iNT iDF))) (iN hp1 (iOF (iNF iDT) (iNF iDT))) (by kernel_rfl) (fun q1 => ?_) (fun q2 => ?_)
  · have hNR : ¬ (Bg.RtB a_Sign a_Digits ∧ Bg.RtB b_Sign b_Digits) := by rintro ⟨h1, h2⟩; rcases q1 with h | h; exact h h1; exact h h2
    refine V.g [.k (ag (DBig.mk 0 ⟨[], {}⟩)),.k (ag (DBig.mk 0 ⟨[], {}⟩)),.st 2 (fun _ => .blk ((G1 2).b) (ca (DBig.mk 0 ⟨[], {}⟩)) 28),.st 3 (fun _ => .blk ((G1 3).b) (ca (DBig.mk 0 ⟨[], {}⟩)) 28),.k (iv 1)] fun _ _ G3 => ?_
    intro S_ s_
    refine V.nilF (α := Int) ?_
    refine V.nilF (α := Int) ?_
    have e1 : ([] : List Int) = Bg.oD ((Bg.RtB a_Sign a_Digits ∧ Bg.RtB b_Sign b_Digits) ∧ b_Sign ≠ 0) (Bg.flo (Bg.zv a_Sign a_Digits) (Bg.zv b_Sign b_Digits)) := (Bg.oD_n (fun h => hNR h.1) _).symm
    rw [← e1]
    have e3 : ([] : List Int) = Bg.oD ((Bg.RtB a_Sign a_Digits ∧ Bg.RtB b_Sign b_Digits) ∧ b_Sign ≠ 0) (Bg.fmo (Bg.zv a_Sign a_Digits) (Bg.zv b_Sign b_Digits)) := (Bg.oD_n (fun h => hNR h.1) _).symm
    rw [← e3]
    have e0 : (0 : Int) = Bg.oS ((Bg.RtB a_Sign a_Digits ∧ Bg.RtB b_Sign b_Digits) ∧ b_Sign ≠ 0) (Bg.flo (Bg.zv a_Sign a_Digits) (Bg.zv b_Sign b_Digits)) := (Bg.oS_n (fun h => hNR h.1) _).symm
    have e2 : (0 : Int) = Bg.oS ((Bg.RtB a_Sign a_Digits ∧ Bg.RtB b_Sign b_Digits) ∧ b_Sign ≠ 0) (Bg.fmo (Bg.zv a_Sign a_Digits) (Bg.zv b_Sign b_Digits)) := (Bg.oS_n (fun h => hNR h.1) _).symm
    have e4 : (1 : Int) = if ¬ (Bg.RtB a_Sign a_Digits ∧ Bg.RtB b_Sign b_Digits) then (1 : Int) else if b_Sign = 0 then 15 else 0 := (if_pos hNR).symm
    exact V.ret [2, 3, 0] [{}, {}] [fun _ => {}, fun _ => {}] [] [2, 3] [] (.tuple #[ag (DBig.mk 0 ⟨([] : List Int), {}⟩), ag (DBig.mk 0 ⟨([] : List Int), {}⟩), iv 1]) (fun _ _ => by kernel_rfl) (fun _ _ => (Eq.trans (by kernel_rfl) (cong3 (fun (x0 : Int) (x2 : Int) (x4 : Int) => (.tuple #[.agg #[iv x0, SV.v ({})], .agg #[iv x2, SV.v ({})], iv x4] : Value)) e0 e2 e4)).trans (by kernel_rfl)) (fun _ _ => trivial)
  have hRR : (Bg.RtB a_Sign a_Digits ∧ Bg.RtB b_Sign b_Digits) := by first | exact q2 | exact ⟨Decidable.not_not.1 (q2).1, Decidable.not_not.1 (q2).2⟩
  have hsm := Bg.sml hRR.1 hRR.2
  refine V.g [.k (pp ((G1 1).b) 0),.ld 1 0 false (fun _ => [iv b_Sign]),.k (bv (decide (b_Sign = 0)))] fun _ _ G4 => ?_
  intro S_ s_
  refine V.cond (b := decide (b_Sign = 0)) iDT iDF (by kernel_rfl) (fun q3 => ?_) (fun q4 => ?_)
  · have hz0 : b_Sign = 0 := q3
    refine V.g [.k (ag (DBig.mk 0 ⟨[], {}⟩)),.k (ag (DBig.mk 0 ⟨[], {}⟩)),.st 2 (fun _ => .blk ((G1 2).b) (ca (DBig.mk 0 ⟨[], {}⟩)) 28),.st 3 (fun _ => .blk ((G1 3).b) (ca (DBig.mk 0 ⟨[], {}⟩)) 28),.k (iv 15)] fun _ _ G5 => ?_
    intro S_ s_
    refine V.nilF (α := Int) ?_
    refine V.nilF (α := Int) ?_
    have e1 : ([] : List Int) = Bg.oD ((Bg.RtB a_Sign a_Digits ∧ Bg.RtB b_Sign b_Digits) ∧ b_Sign ≠ 0) (Bg.flo (Bg.zv a_Sign a_Digits) (Bg.zv b_Sign b_Digits)) := (Bg.oD_n (fun h => h.2 hz0) _).symm
    rw [← e1]
    have e3 : ([] : List Int) = Bg.oD ((Bg.RtB a_Sign a_Digits ∧ Bg.RtB b_Sign b_Digits) ∧ b_Sign ≠ 0) (Bg.fmo (Bg.zv a_Sign a_Digits) (Bg.zv b_Sign b_Digits)) := (Bg.oD_n (fun h => h.2 hz0) _).symm
    rw [← e3]
    have e0 : (0 : Int) = Bg.oS ((Bg.RtB a_Sign a_Digits ∧ Bg.RtB b_Sign b_Digits) ∧ b_Sign ≠ 0) (Bg.flo (Bg.zv a_Sign a_Digits) (Bg.zv b_Sign b_Digits)) := (Bg.oS_n (fun h => h.2 hz0) _).symm
    have e2 : (0 : Int) = Bg.oS ((Bg.RtB a_Sign a_Digits ∧ Bg.RtB b_Sign b_Digits) ∧ b_Sign ≠ 0) (Bg.fmo (Bg.zv a_Sign a_Digits) (Bg.zv b_Sign b_Digits)) := (Bg.oS_n (fun h => h.2 hz0) _).symm
    have e4 : (15 : Int) = if ¬ (Bg.RtB a_Sign a_Digits ∧ Bg.RtB b_Sign b_Digits) then (1 : Int) else if b_Sign = 0 then 15 else 0 := by rw [if_neg (fun h => h hRR), if_pos hz0]
    exact V.ret [2, 3, 0] [{}, {}] [fun _ => {}, fun _ => {}] [] [2, 3] [] (.tuple #[ag (DBig.mk 0 ⟨([] : List Int), {}⟩), ag (DBig.mk 0 ⟨([] : List Int), {}⟩), iv 15]) (fun _ _ => by kernel_rfl) (fun _ _ => (Eq.trans (by kernel_rfl) (cong3 (fun (x0 : Int) (x2 : Int) (x4 : Int) => (.tuple #[.agg #[iv x0, SV.v ({})], .agg #[iv x2, SV.v ({})], iv x4] : Value)) e0 e2 e4)).trans (by kernel_rfl)) (fun _ _ => trivial)
  have hz0 : ¬ b_Sign = 0 := q4
  have hPD : ((Bg.RtB a_Sign a_Digits ∧ Bg.RtB b_Sign b_Digits) ∧ b_Sign ≠ 0) := ⟨hRR, hz0⟩
  have hnz := Bg.nv_pos hRR.2 hz0
  have hml := Nat.mod_lt (Bg.nv a_Digits) (Nat.pos_of_ne_zero hnz.1)
  have hmle : Bg.nv (Bg.dig (Bg.nv a_Digits % Bg.nv b_Digits)) ≤ Bg.nv b_Digits := by rw [Bg.nv_dig]; omega
  have hll1 := Bg.dig_len_mono' (Nat.div_le_self (Bg.nv a_Digits) (Bg.nv b_Digits)); have hll2 := Bg.dig_len_mono' (Nat.mod_le (Bg.nv a_Digits) (Bg.nv b_Digits)); have hll3 := Bg.dig_le hRR.1.dg
  refine nm (Bg.dig (Bg.nv a_Digits / Bg.nv b_Digits) : List Int) fun l1 hl1 => ?_
  have hl1n := congrArg List.length hl1
  refine nm (Bg.dig (Bg.nv a_Digits % Bg.nv b_Digits) : List Int) fun l2 hl2 => ?_
  have hl2n := congrArg List.length hl2
  refine V.r [.k (pp ((G1 0).b) 1),.ld 0 1 false (fun _ => [a_Digitss.v]),.k (pp ((G1 1).b) 1),.ld 1 1 false (fun _ => [b_Digitss.v]),.ct g0 4 119 false [] [] [(kf false (.f 0) a_Digits (fun _ => a_Digitss)).a, (kf false (.f 1) b_Digits (fun _ => b_Digitss)).a] (fun _ G => r4over_ctv a_Digits a_Digitss b_Digits b_Digitss hRR.1.dg hRR.2.dg (Nat.pos_of_ne_zero hnz.1) (by omega) (by omega) l1 hl1 l2 hl2),.v fun G => .tuple #[((G 4).ss 0).v, ((G 4).ss 1).v],.v fun G => ((G 4).ss 0).v,.v fun G => ((G 4).ss 1).v,.v fun G => ((G 4).ss 0).v,.v fun G => ((G 4).ss 1).v] fun _ _ G6 kw6 => ?_
  intro S_ s_
  obtain ⟨⟨kl3, -⟩, ⟨kl4, -⟩, -⟩ : Lq l1 (((G6 4).ss 0).v) ∧ Lq l2 (((G6 4).ss 1).v) ∧ True := kn kw6 (by kernel_rfl)
  clear kw6
  refine nm (a_Sign * b_Sign : Int) fun n1 hn1 => ?_
  refine nm ((decide (0 ≤ n1)) || (decide ((l2.length : Int) = 0)) : Bool) fun p2 hp2 => ?_
  refine V.g [.k (pp ((G1 0).b) 0),.ld 0 0 false (fun _ => [iv a_Sign]),.k (pp ((G1 1).b) 0),.ld 1 0 false (fun _ => [iv b_Sign]),.ar (a_Sign * b_Sign) n1 hn1 (by rw [hn1]; exact hsm.1) (by rw [hn1]; exact hsm.2),.k (bv (decide (0 ≤ n1))),.k (bv (decide (0 ≤ n1))),.k (((G6 4).ss 1).v),.ln (kf true (.f 3) l2 (fun _ => (G6 4).ss 1)),.k (bv (decide ((l2.length : Int) = 0))),.orn g0 false (decide (0 ≤ n1)) (decide ((l2.length : Int) = 0)) p2 hp2] fun _ _ G7 => ?_
  intro S_ s_
  refine V.cond (b := p2) (iN hp2 (iOT iDT iDT)) (iN hp2 (iOF iDF iDF)) (by kernel_rfl) (fun q5 => ?_) (fun q6 => ?_)
  · have hnn : 0 ≤ a_Sign * b_Sign ∨ Bg.nv a_Digits % Bg.nv b_Digits = 0 := by have hqq := q5; subst_vars; rcases hqq with h | h; exact .inl h; right; exact Bg.len_dig0.1 (by omega)
    refine nm (Bg.sg0 (Bg.nv l1) n1 : Int) fun n2 hn2 => ?_
    refine nm (Bg.dig (Bg.nv l1) : List Int) fun l3 hl3 => ?_
    have hl3n := congrArg List.length hl3
    refine nm (Bg.sg0 (Bg.nv l2) a_Sign : Int) fun n3 hn3 => ?_
    refine nm (Bg.dig (Bg.nv l2) : List Int) fun l4 hl4 => ?_
    have hl4n := congrArg List.length hl4
    refine V.r [.k (pp ((G1 0).b) 0),.ld 0 0 false (fun _ => [iv a_Sign]),.k (pp ((G1 1).b) 0),.ld 1 0 false (fun _ => [iv b_Sign]),.ar (a_Sign * b_Sign) n1 hn1 (by rw [hn1]; exact hsm.1) (by rw [hn1]; exact hsm.2),.k (((G6 4).ss 0).v),.ct g0 6 92 false [] [] [(kf true (.f 2) l1 (fun _ => (G6 4).ss 0)).a] (fun _ G => r4made_ctv n1 l1 ((G6 4).ss 0) (by subst_vars; exact Bg.dig_Dg _) (by omega) n2 hn2 l3 hl3),.k (pp ((G1 0).b) 0),.ld 0 0 false (fun _ => [iv a_Sign]),.k (((G6 4).ss 1).v),.ct g0 10 92 false [] [] [(kf true (.f 3) l2 (fun _ => (G6 4).ss 1)).a] (fun _ G => r4made_ctv a_Sign l2 ((G6 4).ss 1) (by subst_vars; exact Bg.dig_Dg _) (by omega) n3 hn3 l4 hl4),.st 2 (fun G => .blk ((G1 2).b) (ca (DBig.mk n2 ⟨l3, (G 6).ss 0⟩)) 28),.st 3 (fun G => .blk ((G1 3).b) (ca (DBig.mk n3 ⟨l4, (G 10).ss 0⟩)) 28),.k (iv 0)] fun _ _ G8 kw8 => ?_
    intro S_ s_
    obtain ⟨⟨kl5, -⟩, ⟨kl6, -⟩, -⟩ : Lq l3 (((G8 6).ss 0).v) ∧ Lq l4 (((G8 10).ss 0).v) ∧ True := kn kw8 (by kernel_rfl)
    clear kw8
    have e1 : l3 = Bg.oD ((Bg.RtB a_Sign a_Digits ∧ Bg.RtB b_Sign b_Digits) ∧ b_Sign ≠ 0) (Bg.flo (Bg.zv a_Sign a_Digits) (Bg.zv b_Sign b_Digits)) := by
      rw [hl3, hl1]
      rw [Bg.oD_y hPD]; exact Bg.qD hRR.1 hRR.2 hnz.1 hnn
    subst e1
    have e3 : l4 = Bg.oD ((Bg.RtB a_Sign a_Digits ∧ Bg.RtB b_Sign b_Digits) ∧ b_Sign ≠ 0) (Bg.fmo (Bg.zv a_Sign a_Digits) (Bg.zv b_Sign b_Digits)) := by
      rw [hl4, hl2]
      rw [Bg.oD_y hPD]; exact Bg.rD hRR.1 hRR.2 hnz.1 hnn
    subst e3
    have e0 : n2 = Bg.oS ((Bg.RtB a_Sign a_Digits ∧ Bg.RtB b_Sign b_Digits) ∧ b_Sign ≠ 0) (Bg.flo (Bg.zv a_Sign a_Digits) (Bg.zv b_Sign b_Digits)) := by
      rw [hn2, hn1, hl1]
      rw [Bg.oS_y hPD]; exact Bg.qS hRR.1 hRR.2 hnz.1 hnn
    have e2 : n3 = Bg.oS ((Bg.RtB a_Sign a_Digits ∧ Bg.RtB b_Sign b_Digits) ∧ b_Sign ≠ 0) (Bg.fmo (Bg.zv a_Sign a_Digits) (Bg.zv b_Sign b_Digits)) := by
      rw [hn3, hl2]
      rw [Bg.oS_y hPD]; exact Bg.rS hRR.1 hRR.2 hnz.1 hnn
    have e4 : (0 : Int) = if ¬ (Bg.RtB a_Sign a_Digits ∧ Bg.RtB b_Sign b_Digits) then (1 : Int) else if b_Sign = 0 then 15 else 0 := by rw [if_neg (fun h => h hRR), if_neg hz0]
    exact V.ret [2, 3, 0] [(G8 6).ss 0, (G8 10).ss 0] [fun _ => {}, fun _ => {}] [] [4, 5] [] (.tuple #[ag (DBig.mk n2 ⟨(Bg.oD ((Bg.RtB a_Sign a_Digits ∧ Bg.RtB b_Sign b_Digits) ∧ b_Sign ≠ 0) (Bg.flo (Bg.zv a_Sign a_Digits) (Bg.zv b_Sign b_Digits))), (G8 6).ss 0⟩), ag (DBig.mk n3 ⟨(Bg.oD ((Bg.RtB a_Sign a_Digits ∧ Bg.RtB b_Sign b_Digits) ∧ b_Sign ≠ 0) (Bg.fmo (Bg.zv a_Sign a_Digits) (Bg.zv b_Sign b_Digits))), (G8 10).ss 0⟩), iv 0]) (fun _ _ => by kernel_rfl) (fun _ _ => (Eq.trans (by kernel_rfl) (cong3 (fun (x0 : Int) (x2 : Int) (x4 : Int) => (.tuple #[.agg #[iv x0, ((G8 6).ss 0).v], .agg #[iv x2, ((G8 10).ss 0).v], iv x4] : Value)) e0 e2 e4)).trans (by kernel_rfl)) (fun _ _ => trivial)
  have hng : a_Sign * b_Sign < 0 := by have := q6; omega
  have hr0 : Bg.nv a_Digits % Bg.nv b_Digits ≠ 0 := fun e => by have := q6; subst_vars; rw [e, Bg.dig_zero] at this; simp at this
  refine nm (Bg.dig (Bg.nv l1 + Bg.nv ([1] : List Int)) : List Int) fun l5 hl5 => ?_
  have hl5n := congrArg List.length hl5
  refine nm (Bg.sg0 (Bg.nv l5) (-1 : Int) : Int) fun n4 hn4 => ?_
  refine nm (Bg.dig (Bg.nv l5) : List Int) fun l6 hl6 => ?_
  have hl6n := congrArg List.length hl6
  refine nm (Bg.dig (Bg.nv b_Digits - Bg.nv l2) : List Int) fun l7 hl7 => ?_
  have hl7n := congrArg List.length hl7
  refine nm (Bg.sg0 (Bg.nv l7) b_Sign : Int) fun n5 hn5 => ?_
  refine nm (Bg.dig (Bg.nv l7) : List Int) fun l8 hl8 => ?_
  have hl8n := congrArg List.length hl8
  have hL8 := Bg.add1_len (m := b_Digits) hRR.1.dg
  have hL9 := Nat.le_trans (Bg.dig_len_mono' (Nat.sub_le (Bg.nv b_Digits) (Bg.nv (Bg.dig (Bg.nv a_Digits % Bg.nv b_Digits))))) (Bg.dig_le hRR.2.dg)
  refine V.r [.k (((G6 4).ss 0).v),.nr 1 true 3 ([1] : List Int) [] (fun _ _ _ _ _ => trivial) (fun _ => #[iv 1]),.ct g0 2 120 false [] [] [(kf true (.f 2) l1 (fun _ => (G6 4).ss 0)).a, (kf true (.g 1 0) ([1] : List Int) (fun G => ⟨atB (G 1).b, 1, 1⟩)).a] (fun _ G => r4plus_ctv l1 ((G6 4).ss 0) ([1] : List Int) ⟨atB (G 1).b, 1, 1⟩ (by subst_vars; exact Bg.dig_Dg _) (Bg.Dg.one (by omega)) (by omega) (by simp) l5 hl5),.ct g0 3 92 false [] [] [(kf true (.g 2 0) l5 (fun G => (G 2).ss 0)).a] (fun _ G => r4made_ctv (-1 : Int) l5 ((G 2).ss 0) (by subst_vars; exact Bg.dig_Dg _) (by subst_vars; omega) n4 hn4 l6 hl6),.k (pp ((G1 1).b) 0),.ld 1 0 false (fun _ => [iv b_Sign]),.k (pp ((G1 1).b) 1),.ld 1 1 false (fun _ => [b_Digitss.v]),.k (((G6 4).ss 1).v),.ct g0 9 121 false [] [] [(kf false (.f 1) b_Digits (fun _ => b_Digitss)).a, (kf true (.f 3) l2 (fun _ => (G6 4).ss 1)).a] (fun _ G => r4minus_ctv b_Digits b_Digitss l2 ((G6 4).ss 1) hRR.2.dg (by subst_vars; exact Bg.dig_Dg _) (by omega) (by subst_vars; exact hmle) l7 hl7),.ct g0 10 92 false [] [] [(kf true (.g 9 0) l7 (fun G => (G 9).ss 0)).a] (fun _ G => r4made_ctv b_Sign l7 ((G 9).ss 0) (by subst_vars; exact Bg.dig_Dg _) (by subst_vars; omega) n5 hn5 l8 hl8),.st 2 (fun G => .blk ((G1 2).b) (ca (DBig.mk n4 ⟨l6, (G 3).ss 0⟩)) 28),.st 3 (fun G => .blk ((G1 3).b) (ca (DBig.mk n5 ⟨l8, (G 10).ss 0⟩)) 28),.k (iv 0)] fun _ _ G9 kw9 => ?_
  intro S_ s_
  obtain ⟨⟨kl7, -⟩, ⟨kl8, -⟩, ⟨kl9, -⟩, ⟨kl10, -⟩, ⟨kl11, -⟩, -⟩ : Lq ([1] : List Int) (SV.v ⟨atB (G9 1).b, 1, 1⟩) ∧ Lq l5 (((G9 2).ss 0).v) ∧ Lq l6 (((G9 3).ss 0).v) ∧ Lq l7 (((G9 9).ss 0).v) ∧ Lq l8 (((G9 10).ss 0).v) ∧ True := kn kw9 (by kernel_rfl)
  clear kw9
  have e1 : l6 = Bg.oD ((Bg.RtB a_Sign a_Digits ∧ Bg.RtB b_Sign b_Digits) ∧ b_Sign ≠ 0) (Bg.flo (Bg.zv a_Sign a_Digits) (Bg.zv b_Sign b_Digits)) := by
    rw [hl6, hl5, hl1]
    rw [Bg.oD_y hPD]; exact Bg.dqD hRR.1 hRR.2 hnz.1 hng hr0
  subst e1
  have e3 : l8 = Bg.oD ((Bg.RtB a_Sign a_Digits ∧ Bg.RtB b_Sign b_Digits) ∧ b_Sign ≠ 0) (Bg.fmo (Bg.zv a_Sign a_Digits) (Bg.zv b_Sign b_Digits)) := by
    rw [hl8, hl7, hl2]
    rw [Bg.oD_y hPD]; exact Bg.drD hRR.1 hRR.2 hnz.1 hng hr0
  subst e3
  have e0 : n4 = Bg.oS ((Bg.RtB a_Sign a_Digits ∧ Bg.RtB b_Sign b_Digits) ∧ b_Sign ≠ 0) (Bg.flo (Bg.zv a_Sign a_Digits) (Bg.zv b_Sign b_Digits)) := by
    rw [hn4, hl5, hl1]
    rw [Bg.oS_y hPD]; exact Bg.dqS hRR.1 hRR.2 hnz.1 hng hr0
  have e2 : n5 = Bg.oS ((Bg.RtB a_Sign a_Digits ∧ Bg.RtB b_Sign b_Digits) ∧ b_Sign ≠ 0) (Bg.fmo (Bg.zv a_Sign a_Digits) (Bg.zv b_Sign b_Digits)) := by
    rw [hn5, hl7, hl2]
    rw [Bg.oS_y hPD]; exact Bg.drS hRR.1 hRR.2 hnz.1 hng hr0
  have e4 : (0 : Int) = if ¬ (Bg.RtB a_Sign a_Digits ∧ Bg.RtB b_Sign b_Digits) then (1 : Int) else if b_Sign = 0 then 15 else 0 := by rw [if_neg (fun h => h hRR), if_neg hz0]
  exact V.ret [2, 3, 0] [(G9 3).ss 0, (G9 10).ss 0] [fun _ => {}, fun _ => {}] [] [6, 8] [] (.tuple #[ag (DBig.mk n4 ⟨(Bg.oD ((Bg.RtB a_Sign a_Digits ∧ Bg.RtB b_Sign b_Digits) ∧ b_Sign ≠ 0) (Bg.flo (Bg.zv a_Sign a_Digits) (Bg.zv b_Sign b_Digits))), (G9 3).ss 0⟩), ag (DBig.mk n5 ⟨(Bg.oD ((Bg.RtB a_Sign a_Digits ∧ Bg.RtB b_Sign b_Digits) ∧ b_Sign ≠ 0) (Bg.fmo (Bg.zv a_Sign a_Digits) (Bg.zv b_Sign b_Digits))), (G9 10).ss 0⟩), iv 0]) (fun _ _ => by kernel_rfl) (fun _ _ => (Eq.trans (by kernel_rfl) (cong3 (fun (x0 : Int) (x2 : Int) (x4 : Int) => (.tuple #[.agg #[iv x0, ((G9 3).ss 0).v], .agg #[iv x2, ((G9 10).ss 0).v], iv x4] : Value)) e0 e2 e4)).trans (by kernel_rfl)) (fun _ _ => trivial)
theorem r4div_ctv (a_Sign : Int) (a_Digits : List Int) (a_Digitss : SV) (b_Sign : Int) (b_Digits : List Int) (b_Digitss : SV) (hla : a_Digits.length ≤ 17179869184) (hlb : b_Digits.length ≤ 17179869184) (rv0 : Int) (erv0 : rv0 = Bg.oS ((Bg.RtB a_Sign a_Digits ∧ Bg.RtB b_Sign b_Digits) ∧ b_Sign ≠ 0) (Bg.flo (Bg.zv a_Sign a_Digits) (Bg.zv b_Sign b_Digits))) (rv1 : List Int) (erv1 : rv1 = Bg.oD ((Bg.RtB a_Sign a_Digits ∧ Bg.RtB b_Sign b_Digits) ∧ b_Sign ≠ 0) (Bg.flo (Bg.zv a_Sign a_Digits) (Bg.zv b_Sign b_Digits))) (rv2 : Int) (erv2 : rv2 = Bg.oS ((Bg.RtB a_Sign a_Digits ∧ Bg.RtB b_Sign b_Digits) ∧ b_Sign ≠ 0) (Bg.fmo (Bg.zv a_Sign a_Digits) (Bg.zv b_Sign b_Digits))) (rv3 : List Int) (erv3 : rv3 = Bg.oD ((Bg.RtB a_Sign a_Digits ∧ Bg.RtB b_Sign b_Digits) ∧ b_Sign ≠ 0) (Bg.fmo (Bg.zv a_Sign a_Digits) (Bg.zv b_Sign b_Digits))) (rv4 : Int) (erv4 : rv4 = if ¬ (Bg.RtB a_Sign a_Digits ∧ Bg.RtB b_Sign b_Digits) then (1 : Int) else if b_Sign = 0 then 15 else 0) :
    Ct Try.prog 91 #[ag (DBig.mk a_Sign ⟨a_Digits, a_Digitss⟩), ag (DBig.mk b_Sign ⟨b_Digits, b_Digitss⟩)] [fs true a_Digits a_Digitss, fs true b_Digits b_Digitss] [] (fun g => .tuple #[ag (DBig.mk rv0 ⟨rv1, (g.ss 0)⟩), ag (DBig.mk rv2 ⟨rv3, (g.ss 1)⟩), iv rv4]) (fun g => [fs true rv1 (g.ss 0), fs true rv3 (g.ss 1)]) (fun g => []) (fun g => []) := by
  subst erv0 erv1 erv2 erv3 erv4; exact r4div_ct a_Sign a_Digits a_Digitss b_Sign b_Digits b_Digitss hla hlb
set_option maxRecDepth 10000 in
theorem r5new_ct (p_Sign : Int) (p_Digits : List Int) (p_Digitss : SV) (q_Sign : Int) (q_Digits : List Int) (q_Digitss : SV) (hlp : p_Digits.length ≤ 17179869184) (hlq : q_Digits.length ≤ 17179869184) :
    Ct Try.prog 55 #[ag (DBig.mk p_Sign ⟨p_Digits, p_Digitss⟩), ag (DBig.mk q_Sign ⟨q_Digits, q_Digitss⟩)] [fs true p_Digits p_Digitss, fs true q_Digits q_Digitss] [] (fun g => .tuple #[ag (DFrac.mk (DBig.mk (Fr.rS ((Bg.RtB p_Sign p_Digits ∧ Bg.RtB q_Sign q_Digits) ∧ q_Sign ≠ 0) (Rat.divInt (Bg.zv p_Sign p_Digits) (Bg.zv q_Sign q_Digits))) ⟨Fr.rD ((Bg.RtB p_Sign p_Digits ∧ Bg.RtB q_Sign q_Digits) ∧ q_Sign ≠ 0) (Rat.divInt (Bg.zv p_Sign p_Digits) (Bg.zv q_Sign q_Digits)), (g.ss 0)⟩) (DBig.mk (Fr.rT ((Bg.RtB p_Sign p_Digits ∧ Bg.RtB q_Sign q_Digits) ∧ q_Sign ≠ 0)) ⟨Fr.rE ((Bg.RtB p_Sign p_Digits ∧ Bg.RtB q_Sign q_Digits) ∧ q_Sign ≠ 0) (Rat.divInt (Bg.zv p_Sign p_Digits) (Bg.zv q_Sign q_Digits)), (g.ss 1)⟩)), iv (if ¬ (Bg.RtB p_Sign p_Digits ∧ Bg.RtB q_Sign q_Digits) then (1 : Int) else if q_Sign = 0 then 15 else 0)]) (fun g => [fs true (Fr.rD ((Bg.RtB p_Sign p_Digits ∧ Bg.RtB q_Sign q_Digits) ∧ q_Sign ≠ 0) (Rat.divInt (Bg.zv p_Sign p_Digits) (Bg.zv q_Sign q_Digits))) (g.ss 0), fs true (Fr.rE ((Bg.RtB p_Sign p_Digits ∧ Bg.RtB q_Sign q_Digits) ∧ q_Sign ≠ 0) (Rat.divInt (Bg.zv p_Sign p_Digits) (Bg.zv q_Sign q_Digits))) (g.ss 1)]) (fun g => []) (fun g => []) := by
  refine V.fn mo Try.func55 57 8 (by kernel_rfl) fun w H ε k0 => ?_
  obtain ⟨⟨kl1, -⟩, ⟨kl2, -⟩, -⟩ : Lq p_Digits p_Digitss.v ∧ Lq q_Digits q_Digitss.v ∧ True := kn k0 (by kernel_rfl)
  clear k0
  refine V.g [.nb 0 0 (fun b => pp b 0) 28 (fun _ => ca (DBig.mk p_Sign ⟨p_Digits, p_Digitss⟩)),.nb 1 1 (fun b => pp b 0) 28 (fun _ => ca (DBig.mk q_Sign ⟨q_Digits, q_Digitss⟩)),.nb 2 2 (fun b => pp b 0) 30 (fun _ => ca (DFrac.mk (DBig.mk 0 ⟨[], {}⟩) (DBig.mk 0 ⟨[], {}⟩))),.k (iv 0)] fun _ _ G1 => ?_
  intro S_ s_
  refine nm ((!(decide (Bg.RtB p_Sign p_Digits))) || (!(decide (Bg.RtB q_Sign q_Digits))) : Bool) fun p1 hp1 => ?_
  refine V.g [.ld 0 0 true (fun _ => Dat.cells (DBig.mk p_Sign ⟨p_Digits, p_Digitss⟩)),.cp g0 1 88 [(kf false (.f 0) p_Digits (fun _ => p_Digitss)).a] (fun _ G => r4right_ct p_Sign p_Digits p_Digitss),.k (bv (!(decide (Bg.RtB p_Sign p_Digits)))),.k (bv (!(decide (Bg.RtB p_Sign p_Digits)))),.ld 1 0 true (fun _ => Dat.cells (DBig.mk q_Sign ⟨q_Digits, q_Digitss⟩)),.cp (gF (b := !(decide (Bg.RtB p_Sign p_Digits))) (iNF iDT)) 5 88 [(kf false (.f 1) q_Digits (fun _ => q_Digitss)).a] (fun hg G => r4right_ct q_Sign q_Digits q_Digitss),.k (bv (!(decide (Bg.RtB q_Sign q_Digits)))),.orn g0 false (!(decide (Bg.RtB p_Sign p_Digits))) (!(decide (Bg.RtB q_Sign q_Digits))) p1 hp1] fun _ _ G2 => ?_
  intro S_ s_
  refine V.cond (b := p1) (iN hp1 (iOT (iNT iDF) (iNT iDF))) (iN hp1 (iOF (iNF iDT) (iNF iDT))) (by kernel_rfl) (fun q1 => ?_) (fun q2 => ?_)
  · have hNR : ¬ (Bg.RtB p_Sign p_Digits ∧ Bg.RtB q_Sign q_Digits) := by rintro ⟨h1, h2⟩; rcases q1 with h | h; exact h h1; exact h h2
    refine V.g [.k (ag (DFrac.mk (DBig.mk 0 ⟨[], {}⟩) (DBig.mk 0 ⟨[], {}⟩))),.st 2 (fun _ => .blk ((G1 2).b) (ca (DFrac.mk (DBig.mk 0 ⟨[], {}⟩) (DBig.mk 0 ⟨[], {}⟩))) 30),.k (iv 1)] fun _ _ G3 => ?_
    intro S_ s_
    refine V.nilF (α := Int) ?_
    refine V.nilF (α := Int) ?_
    have e1 : ([] : List Int) = Fr.rD ((Bg.RtB p_Sign p_Digits ∧ Bg.RtB q_Sign q_Digits) ∧ q_Sign ≠ 0) (Rat.divInt (Bg.zv p_Sign p_Digits) (Bg.zv q_Sign q_Digits)) := (Fr.Fz.no (fun h => hNR h.1) (Rat.divInt (Bg.zv p_Sign p_Digits) (Bg.zv q_Sign q_Digits))).2.1
    rw [← e1]
    have e3 : ([] : List Int) = Fr.rE ((Bg.RtB p_Sign p_Digits ∧ Bg.RtB q_Sign q_Digits) ∧ q_Sign ≠ 0) (Rat.divInt (Bg.zv p_Sign p_Digits) (Bg.zv q_Sign q_Digits)) := (Fr.Fz.no (fun h => hNR h.1) (Rat.divInt (Bg.zv p_Sign p_Digits) (Bg.zv q_Sign q_Digits))).2.2.2
    rw [← e3]
    have e0 : (0 : Int) = Fr.rS ((Bg.RtB p_Sign p_Digits ∧ Bg.RtB q_Sign q_Digits) ∧ q_Sign ≠ 0) (Rat.divInt (Bg.zv p_Sign p_Digits) (Bg.zv q_Sign q_Digits)) := (Fr.Fz.no (fun h => hNR h.1) (Rat.divInt (Bg.zv p_Sign p_Digits) (Bg.zv q_Sign q_Digits))).1
    have e2 : (0 : Int) = Fr.rT ((Bg.RtB p_Sign p_Digits ∧ Bg.RtB q_Sign q_Digits) ∧ q_Sign ≠ 0) := (Fr.Fz.no (fun h => hNR h.1) (Rat.divInt (Bg.zv p_Sign p_Digits) (Bg.zv q_Sign q_Digits))).2.2.1
    have e4 : (1 : Int) = if ¬ (Bg.RtB p_Sign p_Digits ∧ Bg.RtB q_Sign q_Digits) then (1 : Int) else if q_Sign = 0 then 15 else 0 := (if_pos hNR).symm
    exact V.ret [2, 0] [{}, {}] [fun _ => {}, fun _ => {}] [] [2, 3] [] (.tuple #[ag (DFrac.mk (DBig.mk 0 ⟨([] : List Int), {}⟩) (DBig.mk 0 ⟨([] : List Int), {}⟩)), iv 1]) (fun _ _ => by kernel_rfl) (fun _ _ => (Eq.trans (by kernel_rfl) (cong3 (fun (x0 : Int) (x2 : Int) (x4 : Int) => (.tuple #[.agg #[iv x0, SV.v ({}), iv x2, SV.v ({})], iv x4] : Value)) e0 e2 e4)).trans (by kernel_rfl)) (fun _ _ => trivial)
  have hRR : (Bg.RtB p_Sign p_Digits ∧ Bg.RtB q_Sign q_Digits) := by first | exact q2 | exact ⟨Decidable.not_not.1 (q2).1, Decidable.not_not.1 (q2).2⟩
  refine V.g [.k (pp ((G1 1).b) 0),.ld 1 0 false (fun _ => [iv q_Sign]),.k (bv (decide (q_Sign = 0)))] fun _ _ G4 => ?_
  intro S_ s_
  refine V.cond (b := decide (q_Sign = 0)) iDT iDF (by kernel_rfl) (fun q3 => ?_) (fun q4 => ?_)
  · have hz0 : q_Sign = 0 := q3
    refine V.g [.k (ag (DFrac.mk (DBig.mk 0 ⟨[], {}⟩) (DBig.mk 0 ⟨[], {}⟩))),.st 2 (fun _ => .blk ((G1 2).b) (ca (DFrac.mk (DBig.mk 0 ⟨[], {}⟩) (DBig.mk 0 ⟨[], {}⟩))) 30),.k (iv 15)] fun _ _ G5 => ?_
    intro S_ s_
    refine V.nilF (α := Int) ?_
    refine V.nilF (α := Int) ?_
    have e1 : ([] : List Int) = Fr.rD ((Bg.RtB p_Sign p_Digits ∧ Bg.RtB q_Sign q_Digits) ∧ q_Sign ≠ 0) (Rat.divInt (Bg.zv p_Sign p_Digits) (Bg.zv q_Sign q_Digits)) := (Fr.Fz.no (fun h => h.2 hz0) (Rat.divInt (Bg.zv p_Sign p_Digits) (Bg.zv q_Sign q_Digits))).2.1
    rw [← e1]
    have e3 : ([] : List Int) = Fr.rE ((Bg.RtB p_Sign p_Digits ∧ Bg.RtB q_Sign q_Digits) ∧ q_Sign ≠ 0) (Rat.divInt (Bg.zv p_Sign p_Digits) (Bg.zv q_Sign q_Digits)) := (Fr.Fz.no (fun h => h.2 hz0) (Rat.divInt (Bg.zv p_Sign p_Digits) (Bg.zv q_Sign q_Digits))).2.2.2
    rw [← e3]
    have e0 : (0 : Int) = Fr.rS ((Bg.RtB p_Sign p_Digits ∧ Bg.RtB q_Sign q_Digits) ∧ q_Sign ≠ 0) (Rat.divInt (Bg.zv p_Sign p_Digits) (Bg.zv q_Sign q_Digits)) := (Fr.Fz.no (fun h => h.2 hz0) (Rat.divInt (Bg.zv p_Sign p_Digits) (Bg.zv q_Sign q_Digits))).1
    have e2 : (0 : Int) = Fr.rT ((Bg.RtB p_Sign p_Digits ∧ Bg.RtB q_Sign q_Digits) ∧ q_Sign ≠ 0) := (Fr.Fz.no (fun h => h.2 hz0) (Rat.divInt (Bg.zv p_Sign p_Digits) (Bg.zv q_Sign q_Digits))).2.2.1
    have e4 : (15 : Int) = if ¬ (Bg.RtB p_Sign p_Digits ∧ Bg.RtB q_Sign q_Digits) then (1 : Int) else if q_Sign = 0 then 15 else 0 := by rw [if_neg (fun h => h hRR), if_pos hz0]
    exact V.ret [2, 0] [{}, {}] [fun _ => {}, fun _ => {}] [] [2, 3] [] (.tuple #[ag (DFrac.mk (DBig.mk 0 ⟨([] : List Int), {}⟩) (DBig.mk 0 ⟨([] : List Int), {}⟩)), iv 15]) (fun _ _ => by kernel_rfl) (fun _ _ => (Eq.trans (by kernel_rfl) (cong3 (fun (x0 : Int) (x2 : Int) (x4 : Int) => (.tuple #[.agg #[iv x0, SV.v ({}), iv x2, SV.v ({})], iv x4] : Value)) e0 e2 e4)).trans (by kernel_rfl)) (fun _ _ => trivial)
  have hz0 : ¬ q_Sign = 0 := q4
  refine V.g [.k (pp ((G1 1).b) 0),.ld 1 0 false (fun _ => [iv q_Sign]),.k (bv (decide (q_Sign < 0)))] fun _ _ G6 => ?_
  intro S_ s_
  refine V.cond (b := decide (q_Sign < 0)) iDT iDF (by kernel_rfl) (fun q5 => ?_) (fun q6 => ?_)
  · refine nm (Bg.oS (Bg.RtB p_Sign p_Digits) (-Bg.zv p_Sign p_Digits) : Int) fun n1 hn1 => ?_
    refine nm (Bg.oD (Bg.RtB p_Sign p_Digits) (-Bg.zv p_Sign p_Digits) : List Int) fun l1 hl1 => ?_
    have hl1n := congrArg List.length hl1
    obtain ⟨zp, zpl⟩ := Fr.Bz.neg (Fr.RtB.z hRR.1) hn1 hl1
    have hyp : 0 < -(Bg.zv q_Sign q_Digits) := by have := (Fr.RtB.z hRR.2).neg0 q5; omega
    have hdv : Rat.divInt (-(Bg.zv p_Sign p_Digits)) (-(Bg.zv q_Sign q_Digits)) = Rat.divInt (Bg.zv p_Sign p_Digits) (Bg.zv q_Sign q_Digits) := Rat.neg_divInt_neg _ _
    refine V.r [.ld 0 0 true (fun _ => Dat.cells (DBig.mk p_Sign ⟨p_Digits, p_Digitss⟩)),.ct g0 1 89 false [] [] [(kf false (.f 0) p_Digits (fun _ => p_Digitss)).a] (fun _ G => r4neg_ctv p_Sign p_Digits p_Digitss (by omega) n1 hn1 l1 hl1),.st 0 (fun G => .blk ((G1 0).b) (ca (DBig.mk n1 ⟨l1, (G 1).ss 0⟩)) 28)] fun _ _ G7 kw7 => ?_
    intro S_ s_
    obtain ⟨⟨kl3, -⟩, -⟩ : Lq l1 (((G7 1).ss 0).v) ∧ True := kn kw7 (by kernel_rfl)
    clear kw7
    refine nm (Bg.oS (Bg.RtB q_Sign q_Digits) (-Bg.zv q_Sign q_Digits) : Int) fun n2 hn2 => ?_
    refine nm (Bg.oD (Bg.RtB q_Sign q_Digits) (-Bg.zv q_Sign q_Digits) : List Int) fun l2 hl2 => ?_
    have hl2n := congrArg List.length hl2
    obtain ⟨zq, zql⟩ := Fr.Bz.neg (Fr.RtB.z hRR.2) hn2 hl2
    refine V.r [.ld 1 0 true (fun _ => Dat.cells (DBig.mk q_Sign ⟨q_Digits, q_Digitss⟩)),.ct g0 1 89 false [] [] [(kf false (.f 1) q_Digits (fun _ => q_Digitss)).a] (fun _ G => r4neg_ctv q_Sign q_Digits q_Digitss (by omega) n2 hn2 l2 hl2),.st 1 (fun G => .blk ((G1 1).b) (ca (DBig.mk n2 ⟨l2, (G 1).ss 0⟩)) 28)] fun _ _ G8 kw8 => ?_
    intro S_ s_
    obtain ⟨⟨kl4, -⟩, -⟩ : Lq l2 (((G8 1).ss 0).v) ∧ True := kn kw8 (by kernel_rfl)
    clear kw8
    refine nm (Bg.oS (Bg.RtB n1 l1 ∧ Bg.RtB n2 l2) ((Nat.gcd (Bg.nv l1) (Bg.nv l2) : Int)) : Int) fun n3 hn3 => ?_
    refine nm (Bg.oD (Bg.RtB n1 l1 ∧ Bg.RtB n2 l2) ((Nat.gcd (Bg.nv l1) (Bg.nv l2) : Int)) : List Int) fun l3 hl3 => ?_
    have hl3n := congrArg List.length hl3
    refine nm (if (Bg.RtB n1 l1 ∧ Bg.RtB n2 l2) then (0 : Int) else 1 : Int) fun n4 hn4 => ?_
    have zg := Fr.Bz.gcd zp zq hn3 hl3
    have zgl := Fr.Bz.gcd_len zp zq hyp zg
    have hg0 := Fr.gcd_pos zg hyp
    refine V.r [.ld 0 0 true (fun _ => Dat.cells (DBig.mk n1 ⟨l1, (G7 1).ss 0⟩)),.ld 1 0 true (fun _ => Dat.cells (DBig.mk n2 ⟨l2, (G8 1).ss 0⟩)),.ct g0 2 90 false [] [] [(kf true (.f 2) l1 (fun _ => (G7 1).ss 0)).a, (kf true (.f 3) l2 (fun _ => (G8 1).ss 0)).a] (fun _ G => r4gcd_ctv n1 l1 ((G7 1).ss 0) n2 l2 ((G8 1).ss 0) (by omega) (by omega) n3 hn3 l3 hl3 n4 hn4),.v fun G => .tuple #[ag (DBig.mk n3 ⟨l3, (G 2).ss 0⟩), iv n4],.v fun G => ag (DBig.mk n3 ⟨l3, (G 2).ss 0⟩),.k (iv n4),.nb 6 3 (fun b => pp b 0) 28 (fun _ => ca (DBig.mk 0 ⟨[], {}⟩)),.st 3 (fun G => .blk ((G 6).b) (ca (DBig.mk n3 ⟨l3, (G 2).ss 0⟩)) 28),.k (iv n4)] fun _ _ G9 kw9 => ?_
    intro S_ s_
    obtain ⟨⟨kl5, -⟩, -⟩ : Lq l3 (((G9 2).ss 0).v) ∧ True := kn kw9 (by kernel_rfl)
    clear kw9
    refine nm (Bg.oS ((Bg.RtB n1 l1 ∧ Bg.RtB n3 l3) ∧ n3 ≠ 0) (Bg.flo (Bg.zv n1 l1) (Bg.zv n3 l3)) : Int) fun n5 hn5 => ?_
    refine nm (Bg.oD ((Bg.RtB n1 l1 ∧ Bg.RtB n3 l3) ∧ n3 ≠ 0) (Bg.flo (Bg.zv n1 l1) (Bg.zv n3 l3)) : List Int) fun l4 hl4 => ?_
    have hl4n := congrArg List.length hl4
    refine nm (Bg.oS ((Bg.RtB n1 l1 ∧ Bg.RtB n3 l3) ∧ n3 ≠ 0) (Bg.fmo (Bg.zv n1 l1) (Bg.zv n3 l3)) : Int) fun n6 hn6 => ?_
    refine nm (Bg.oD ((Bg.RtB n1 l1 ∧ Bg.RtB n3 l3) ∧ n3 ≠ 0) (Bg.fmo (Bg.zv n1 l1) (Bg.zv n3 l3)) : List Int) fun l5 hl5 => ?_
    have hl5n := congrArg List.length hl5
    refine nm (if ¬ (Bg.RtB n1 l1 ∧ Bg.RtB n3 l3) then (1 : Int) else if n3 = 0 then 15 else 0 : Int) fun n7 hn7 => ?_
    have za := Fr.Bz.div zp zg hg0 hn5 hl4
    refine V.r [.ld 0 0 true (fun _ => Dat.cells (DBig.mk n1 ⟨l1, (G7 1).ss 0⟩)),.ld 3 0 true (fun _ => Dat.cells (DBig.mk n3 ⟨l3, (G9 2).ss 0⟩)),.ct g0 2 91 false [] [] [(kf true (.f 2) l1 (fun _ => (G7 1).ss 0)).a, (kf true (.f 4) l3 (fun _ => (G9 2).ss 0)).a] (fun _ G => r4div_ctv n1 l1 ((G7 1).ss 0) n3 l3 ((G9 2).ss 0) (by omega) (by omega) n5 hn5 l4 hl4 n6 hn6 l5 hl5 n7 hn7),.v fun G => .tuple #[ag (DBig.mk n5 ⟨l4, (G 2).ss 0⟩), ag (DBig.mk n6 ⟨l5, (G 2).ss 1⟩), iv n7],.v fun G => ag (DBig.mk n5 ⟨l4, (G 2).ss 0⟩),.v fun G => ag (DBig.mk n6 ⟨l5, (G 2).ss 1⟩),.k (iv n7),.nb 7 4 (fun b => pp b 0) 28 (fun _ => ca (DBig.mk 0 ⟨[], {}⟩)),.nb 8 5 (fun b => pp b 0) 28 (fun _ => ca (DBig.mk 0 ⟨[], {}⟩)),.st 4 (fun G => .blk ((G 7).b) (ca (DBig.mk n5 ⟨l4, (G 2).ss 0⟩)) 28),.st 5 (fun G => .blk ((G 8).b) (ca (DBig.mk n6 ⟨l5, (G 2).ss 1⟩)) 28),.k (iv n7)] fun _ _ G10 kw10 => ?_
    intro S_ s_
    obtain ⟨⟨kl6, -⟩, ⟨kl7, -⟩, -⟩ : Lq l4 (((G10 2).ss 0).v) ∧ Lq l5 (((G10 2).ss 1).v) ∧ True := kn kw10 (by kernel_rfl)
    clear kw10
    refine nm (Bg.oS ((Bg.RtB n2 l2 ∧ Bg.RtB n3 l3) ∧ n3 ≠ 0) (Bg.flo (Bg.zv n2 l2) (Bg.zv n3 l3)) : Int) fun n8 hn8 => ?_
    refine nm (Bg.oD ((Bg.RtB n2 l2 ∧ Bg.RtB n3 l3) ∧ n3 ≠ 0) (Bg.flo (Bg.zv n2 l2) (Bg.zv n3 l3)) : List Int) fun l6 hl6 => ?_
    have hl6n := congrArg List.length hl6
    refine nm (Bg.oS ((Bg.RtB n2 l2 ∧ Bg.RtB n3 l3) ∧ n3 ≠ 0) (Bg.fmo (Bg.zv n2 l2) (Bg.zv n3 l3)) : Int) fun n9 hn9 => ?_
    refine nm (Bg.oD ((Bg.RtB n2 l2 ∧ Bg.RtB n3 l3) ∧ n3 ≠ 0) (Bg.fmo (Bg.zv n2 l2) (Bg.zv n3 l3)) : List Int) fun l7 hl7 => ?_
    have hl7n := congrArg List.length hl7
    refine nm (if ¬ (Bg.RtB n2 l2 ∧ Bg.RtB n3 l3) then (1 : Int) else if n3 = 0 then 15 else 0 : Int) fun n10 hn10 => ?_
    have zb := Fr.Bz.div zq zg hg0 hn8 hl6
    refine V.r [.ld 1 0 true (fun _ => Dat.cells (DBig.mk n2 ⟨l2, (G8 1).ss 0⟩)),.ld 3 0 true (fun _ => Dat.cells (DBig.mk n3 ⟨l3, (G9 2).ss 0⟩)),.ct g0 2 91 false [] [] [(kf true (.f 3) l2 (fun _ => (G8 1).ss 0)).a, (kf true (.f 4) l3 (fun _ => (G9 2).ss 0)).a] (fun _ G => r4div_ctv n2 l2 ((G8 1).ss 0) n3 l3 ((G9 2).ss 0) (by omega) (by omega) n8 hn8 l6 hl6 n9 hn9 l7 hl7 n10 hn10),.v fun G => .tuple #[ag (DBig.mk n8 ⟨l6, (G 2).ss 0⟩), ag (DBig.mk n9 ⟨l7, (G 2).ss 1⟩), iv n10],.v fun G => ag (DBig.mk n8 ⟨l6, (G 2).ss 0⟩),.v fun G => ag (DBig.mk n9 ⟨l7, (G 2).ss 1⟩),.k (iv n10),.nb 7 6 (fun b => pp b 0) 28 (fun _ => ca (DBig.mk 0 ⟨[], {}⟩)),.nb 8 7 (fun b => pp b 0) 28 (fun _ => ca (DBig.mk 0 ⟨[], {}⟩)),.st 6 (fun G => .blk ((G 7).b) (ca (DBig.mk n8 ⟨l6, (G 2).ss 0⟩)) 28),.st 7 (fun G => .blk ((G 8).b) (ca (DBig.mk n9 ⟨l7, (G 2).ss 1⟩)) 28),.k (iv n10)] fun _ _ G11 kw11 => ?_
    intro S_ s_
    obtain ⟨⟨kl8, -⟩, ⟨kl9, -⟩, -⟩ : Lq l6 (((G11 2).ss 0).v) ∧ Lq l7 (((G11 2).ss 1).v) ∧ True := kn kw11 (by kernel_rfl)
    clear kw11
    refine V.g [.ld 4 0 true (fun _ => Dat.cells (DBig.mk n5 ⟨l4, (G10 2).ss 0⟩)),.ld 6 0 true (fun _ => Dat.cells (DBig.mk n8 ⟨l6, (G11 2).ss 0⟩)),.k (ag (DFrac.mk (DBig.mk n5 ⟨l4, (G10 2).ss 0⟩) (DBig.mk n8 ⟨l6, (G11 2).ss 0⟩))),.st 2 (fun _ => .blk ((G1 2).b) (ca (DFrac.mk (DBig.mk n5 ⟨l4, (G10 2).ss 0⟩) (DBig.mk n8 ⟨l6, (G11 2).ss 0⟩))) 30),.k (iv 0)] fun _ _ G12 => ?_
    intro S_ s_
    have e1 : l4 = Fr.rD ((Bg.RtB p_Sign p_Digits ∧ Bg.RtB q_Sign q_Digits) ∧ q_Sign ≠ 0) (Rat.divInt (Bg.zv p_Sign p_Digits) (Bg.zv q_Sign q_Digits)) := (Fr.Fz.ret (Fr.new_fin zp zq hyp zg za zb) ⟨hRR, hz0⟩ (hdv)).2.1
    subst e1
    have e3 : l6 = Fr.rE ((Bg.RtB p_Sign p_Digits ∧ Bg.RtB q_Sign q_Digits) ∧ q_Sign ≠ 0) (Rat.divInt (Bg.zv p_Sign p_Digits) (Bg.zv q_Sign q_Digits)) := (Fr.Fz.ret (Fr.new_fin zp zq hyp zg za zb) ⟨hRR, hz0⟩ (hdv)).2.2.2
    subst e3
    have e0 : n5 = Fr.rS ((Bg.RtB p_Sign p_Digits ∧ Bg.RtB q_Sign q_Digits) ∧ q_Sign ≠ 0) (Rat.divInt (Bg.zv p_Sign p_Digits) (Bg.zv q_Sign q_Digits)) := (Fr.Fz.ret (Fr.new_fin zp zq hyp zg za zb) ⟨hRR, hz0⟩ (hdv)).1
    have e2 : n8 = Fr.rT ((Bg.RtB p_Sign p_Digits ∧ Bg.RtB q_Sign q_Digits) ∧ q_Sign ≠ 0) := (Fr.Fz.ret (Fr.new_fin zp zq hyp zg za zb) ⟨hRR, hz0⟩ (hdv)).2.2.1
    have e4 : (0 : Int) = if ¬ (Bg.RtB p_Sign p_Digits ∧ Bg.RtB q_Sign q_Digits) then (1 : Int) else if q_Sign = 0 then 15 else 0 := by rw [if_neg (fun h => h hRR), if_neg hz0]
    exact V.ret [2, 0] [(G10 2).ss 0, (G11 2).ss 0] [fun _ => {}, fun _ => {}] [] [5, 7] [] (.tuple #[ag (DFrac.mk (DBig.mk n5 ⟨(Fr.rD ((Bg.RtB p_Sign p_Digits ∧ Bg.RtB q_Sign q_Digits) ∧ q_Sign ≠ 0) (Rat.divInt (Bg.zv p_Sign p_Digits) (Bg.zv q_Sign q_Digits))), (G10 2).ss 0⟩) (DBig.mk n8 ⟨(Fr.rE ((Bg.RtB p_Sign p_Digits ∧ Bg.RtB q_Sign q_Digits) ∧ q_Sign ≠ 0) (Rat.divInt (Bg.zv p_Sign p_Digits) (Bg.zv q_Sign q_Digits))), (G11 2).ss 0⟩)), iv 0]) (fun _ _ => by kernel_rfl) (fun _ _ => (Eq.trans (by kernel_rfl) (cong3 (fun (x0 : Int) (x2 : Int) (x4 : Int) => (.tuple #[.agg #[iv x0, ((G10 2).ss 0).v, iv x2, ((G11 2).ss 0).v], iv x4] : Value)) e0 e2 e4)).trans (by kernel_rfl)) (fun _ _ => trivial)
  have zp := Fr.RtB.z hRR.1; have zq := Fr.RtB.z hRR.2
  have hyp : 0 < (Bg.zv q_Sign q_Digits) := zq.pos (by omega)
  have hdv : Rat.divInt (Bg.zv p_Sign p_Digits) (Bg.zv q_Sign q_Digits) = Rat.divInt (Bg.zv p_Sign p_Digits) (Bg.zv q_Sign q_Digits) := rfl
  refine nm (Bg.oS (Bg.RtB p_Sign p_Digits ∧ Bg.RtB q_Sign q_Digits) ((Nat.gcd (Bg.nv p_Digits) (Bg.nv q_Digits) : Int)) : Int) fun n11 hn11 => ?_
  refine nm (Bg.oD (Bg.RtB p_Sign p_Digits ∧ Bg.RtB q_Sign q_Digits) ((Nat.gcd (Bg.nv p_Digits) (Bg.nv q_Digits) : Int)) : List Int) fun l8 hl8 => ?_
  have hl8n := congrArg List.length hl8
  refine nm (if (Bg.RtB p_Sign p_Digits ∧ Bg.RtB q_Sign q_Digits) then (0 : Int) else 1 : Int) fun n12 hn12 => ?_
  have zg := Fr.Bz.gcd zp zq hn11 hl8
  have zgl := Fr.Bz.gcd_len zp zq hyp zg
  have hg0 := Fr.gcd_pos zg hyp
  refine V.r [.ld 0 0 true (fun _ => Dat.cells (DBig.mk p_Sign ⟨p_Digits, p_Digitss⟩)),.ld 1 0 true (fun _ => Dat.cells (DBig.mk q_Sign ⟨q_Digits, q_Digitss⟩)),.ct g0 2 90 false [] [] [(kf false (.f 0) p_Digits (fun _ => p_Digitss)).a, (kf false (.f 1) q_Digits (fun _ => q_Digitss)).a] (fun _ G => r4gcd_ctv p_Sign p_Digits p_Digitss q_Sign q_Digits q_Digitss (by omega) (by omega) n11 hn11 l8 hl8 n12 hn12),.v fun G => .tuple #[ag (DBig.mk n11 ⟨l8, (G 2).ss 0⟩), iv n12],.v fun G => ag (DBig.mk n11 ⟨l8, (G 2).ss 0⟩),.k (iv n12),.nb 6 3 (fun b => pp b 0) 28 (fun _ => ca (DBig.mk 0 ⟨[], {}⟩)),.st 3 (fun G => .blk ((G 6).b) (ca (DBig.mk n11 ⟨l8, (G 2).ss 0⟩)) 28),.k (iv n12)] fun _ _ G13 kw13 => ?_
  intro S_ s_
  obtain ⟨⟨kl10, -⟩, -⟩ : Lq l8 (((G13 2).ss 0).v) ∧ True := kn kw13 (by kernel_rfl)
  clear kw13
  refine nm (Bg.oS ((Bg.RtB p_Sign p_Digits ∧ Bg.RtB n11 l8) ∧ n11 ≠ 0) (Bg.flo (Bg.zv p_Sign p_Digits) (Bg.zv n11 l8)) : Int) fun n13 hn13 => ?_
  refine nm (Bg.oD ((Bg.RtB p_Sign p_Digits ∧ Bg.RtB n11 l8) ∧ n11 ≠ 0) (Bg.flo (Bg.zv p_Sign p_Digits) (Bg.zv n11 l8)) : List Int) fun l9 hl9 => ?_
  have hl9n := congrArg List.length hl9
  refine nm (Bg.oS ((Bg.RtB p_Sign p_Digits ∧ Bg.RtB n11 l8) ∧ n11 ≠ 0) (Bg.fmo (Bg.zv p_Sign p_Digits) (Bg.zv n11 l8)) : Int) fun n14 hn14 => ?_
  refine nm (Bg.oD ((Bg.RtB p_Sign p_Digits ∧ Bg.RtB n11 l8) ∧ n11 ≠ 0) (Bg.fmo (Bg.zv p_Sign p_Digits) (Bg.zv n11 l8)) : List Int) fun l10 hl10 => ?_
  have hl10n := congrArg List.length hl10
  refine nm (if ¬ (Bg.RtB p_Sign p_Digits ∧ Bg.RtB n11 l8) then (1 : Int) else if n11 = 0 then 15 else 0 : Int) fun n15 hn15 => ?_
  have za := Fr.Bz.div zp zg hg0 hn13 hl9
  refine V.r [.ld 0 0 true (fun _ => Dat.cells (DBig.mk p_Sign ⟨p_Digits, p_Digitss⟩)),.ld 3 0 true (fun _ => Dat.cells (DBig.mk n11 ⟨l8, (G13 2).ss 0⟩)),.ct g0 2 91 false [] [] [(kf false (.f 0) p_Digits (fun _ => p_Digitss)).a, (kf true (.f 2) l8 (fun _ => (G13 2).ss 0)).a] (fun _ G => r4div_ctv p_Sign p_Digits p_Digitss n11 l8 ((G13 2).ss 0) (by omega) (by omega) n13 hn13 l9 hl9 n14 hn14 l10 hl10 n15 hn15),.v fun G => .tuple #[ag (DBig.mk n13 ⟨l9, (G 2).ss 0⟩), ag (DBig.mk n14 ⟨l10, (G 2).ss 1⟩), iv n15],.v fun G => ag (DBig.mk n13 ⟨l9, (G 2).ss 0⟩),.v fun G => ag (DBig.mk n14 ⟨l10, (G 2).ss 1⟩),.k (iv n15),.nb 7 4 (fun b => pp b 0) 28 (fun _ => ca (DBig.mk 0 ⟨[], {}⟩)),.nb 8 5 (fun b => pp b 0) 28 (fun _ => ca (DBig.mk 0 ⟨[], {}⟩)),.st 4 (fun G => .blk ((G 7).b) (ca (DBig.mk n13 ⟨l9, (G 2).ss 0⟩)) 28),.st 5 (fun G => .blk ((G 8).b) (ca (DBig.mk n14 ⟨l10, (G 2).ss 1⟩)) 28),.k (iv n15)] fun _ _ G14 kw14 => ?_
  intro S_ s_
  obtain ⟨⟨kl11, -⟩, ⟨kl12, -⟩, -⟩ : Lq l9 (((G14 2).ss 0).v) ∧ Lq l10 (((G14 2).ss 1).v) ∧ True := kn kw14 (by kernel_rfl)
  clear kw14
  refine nm (Bg.oS ((Bg.RtB q_Sign q_Digits ∧ Bg.RtB n11 l8) ∧ n11 ≠ 0) (Bg.flo (Bg.zv q_Sign q_Digits) (Bg.zv n11 l8)) : Int) fun n16 hn16 => ?_
  refine nm (Bg.oD ((Bg.RtB q_Sign q_Digits ∧ Bg.RtB n11 l8) ∧ n11 ≠ 0) (Bg.flo (Bg.zv q_Sign q_Digits) (Bg.zv n11 l8)) : List Int) fun l11 hl11 => ?_
  have hl11n := congrArg List.length hl11
  refine nm (Bg.oS ((Bg.RtB q_Sign q_Digits ∧ Bg.RtB n11 l8) ∧ n11 ≠ 0) (Bg.fmo (Bg.zv q_Sign q_Digits) (Bg.zv n11 l8)) : Int) fun n17 hn17 => ?_
  refine nm (Bg.oD ((Bg.RtB q_Sign q_Digits ∧ Bg.RtB n11 l8) ∧ n11 ≠ 0) (Bg.fmo (Bg.zv q_Sign q_Digits) (Bg.zv n11 l8)) : List Int) fun l12 hl12 => ?_
  have hl12n := congrArg List.length hl12
  refine nm (if ¬ (Bg.RtB q_Sign q_Digits ∧ Bg.RtB n11 l8) then (1 : Int) else if n11 = 0 then 15 else 0 : Int) fun n18 hn18 => ?_
  have zb := Fr.Bz.div zq zg hg0 hn16 hl11
  refine V.r [.ld 1 0 true (fun _ => Dat.cells (DBig.mk q_Sign ⟨q_Digits, q_Digitss⟩)),.ld 3 0 true (fun _ => Dat.cells (DBig.mk n11 ⟨l8, (G13 2).ss 0⟩)),.ct g0 2 91 false [] [] [(kf false (.f 1) q_Digits (fun _ => q_Digitss)).a, (kf true (.f 2) l8 (fun _ => (G13 2).ss 0)).a] (fun _ G => r4div_ctv q_Sign q_Digits q_Digitss n11 l8 ((G13 2).ss 0) (by omega) (by omega) n16 hn16 l11 hl11 n17 hn17 l12 hl12 n18 hn18),.v fun G => .tuple #[ag (DBig.mk n16 ⟨l11, (G 2).ss 0⟩), ag (DBig.mk n17 ⟨l12, (G 2).ss 1⟩), iv n18],.v fun G => ag (DBig.mk n16 ⟨l11, (G 2).ss 0⟩),.v fun G => ag (DBig.mk n17 ⟨l12, (G 2).ss 1⟩),.k (iv n18),.nb 7 6 (fun b => pp b 0) 28 (fun _ => ca (DBig.mk 0 ⟨[], {}⟩)),.nb 8 7 (fun b => pp b 0) 28 (fun _ => ca (DBig.mk 0 ⟨[], {}⟩)),.st 6 (fun G => .blk ((G 7).b) (ca (DBig.mk n16 ⟨l11, (G 2).ss 0⟩)) 28),.st 7 (fun G => .blk ((G 8).b) (ca (DBig.mk n17 ⟨l12, (G 2).ss 1⟩)) 28),.k (iv n18)] fun _ _ G15 kw15 => ?_
  intro S_ s_
  obtain ⟨⟨kl13, -⟩, ⟨kl14, -⟩, -⟩ : Lq l11 (((G15 2).ss 0).v) ∧ Lq l12 (((G15 2).ss 1).v) ∧ True := kn kw15 (by kernel_rfl)
  clear kw15
  refine V.g [.ld 4 0 true (fun _ => Dat.cells (DBig.mk n13 ⟨l9, (G14 2).ss 0⟩)),.ld 6 0 true (fun _ => Dat.cells (DBig.mk n16 ⟨l11, (G15 2).ss 0⟩)),.k (ag (DFrac.mk (DBig.mk n13 ⟨l9, (G14 2).ss 0⟩) (DBig.mk n16 ⟨l11, (G15 2).ss 0⟩))),.st 2 (fun _ => .blk ((G1 2).b) (ca (DFrac.mk (DBig.mk n13 ⟨l9, (G14 2).ss 0⟩) (DBig.mk n16 ⟨l11, (G15 2).ss 0⟩))) 30),.k (iv 0)] fun _ _ G16 => ?_
  intro S_ s_
  have e1 : l9 = Fr.rD ((Bg.RtB p_Sign p_Digits ∧ Bg.RtB q_Sign q_Digits) ∧ q_Sign ≠ 0) (Rat.divInt (Bg.zv p_Sign p_Digits) (Bg.zv q_Sign q_Digits)) := (Fr.Fz.ret (Fr.new_fin zp zq hyp zg za zb) ⟨hRR, hz0⟩ (hdv)).2.1
  subst e1
  have e3 : l11 = Fr.rE ((Bg.RtB p_Sign p_Digits ∧ Bg.RtB q_Sign q_Digits) ∧ q_Sign ≠ 0) (Rat.divInt (Bg.zv p_Sign p_Digits) (Bg.zv q_Sign q_Digits)) := (Fr.Fz.ret (Fr.new_fin zp zq hyp zg za zb) ⟨hRR, hz0⟩ (hdv)).2.2.2
  subst e3
  have e0 : n13 = Fr.rS ((Bg.RtB p_Sign p_Digits ∧ Bg.RtB q_Sign q_Digits) ∧ q_Sign ≠ 0) (Rat.divInt (Bg.zv p_Sign p_Digits) (Bg.zv q_Sign q_Digits)) := (Fr.Fz.ret (Fr.new_fin zp zq hyp zg za zb) ⟨hRR, hz0⟩ (hdv)).1
  have e2 : n16 = Fr.rT ((Bg.RtB p_Sign p_Digits ∧ Bg.RtB q_Sign q_Digits) ∧ q_Sign ≠ 0) := (Fr.Fz.ret (Fr.new_fin zp zq hyp zg za zb) ⟨hRR, hz0⟩ (hdv)).2.2.1
  have e4 : (0 : Int) = if ¬ (Bg.RtB p_Sign p_Digits ∧ Bg.RtB q_Sign q_Digits) then (1 : Int) else if q_Sign = 0 then 15 else 0 := by rw [if_neg (fun h => h hRR), if_neg hz0]
  exact V.ret [2, 0] [(G14 2).ss 0, (G15 2).ss 0] [fun _ => {}, fun _ => {}] [] [3, 5] [] (.tuple #[ag (DFrac.mk (DBig.mk n13 ⟨(Fr.rD ((Bg.RtB p_Sign p_Digits ∧ Bg.RtB q_Sign q_Digits) ∧ q_Sign ≠ 0) (Rat.divInt (Bg.zv p_Sign p_Digits) (Bg.zv q_Sign q_Digits))), (G14 2).ss 0⟩) (DBig.mk n16 ⟨(Fr.rE ((Bg.RtB p_Sign p_Digits ∧ Bg.RtB q_Sign q_Digits) ∧ q_Sign ≠ 0) (Rat.divInt (Bg.zv p_Sign p_Digits) (Bg.zv q_Sign q_Digits))), (G15 2).ss 0⟩)), iv 0]) (fun _ _ => by kernel_rfl) (fun _ _ => (Eq.trans (by kernel_rfl) (cong3 (fun (x0 : Int) (x2 : Int) (x4 : Int) => (.tuple #[.agg #[iv x0, ((G14 2).ss 0).v, iv x2, ((G15 2).ss 0).v], iv x4] : Value)) e0 e2 e4)).trans (by kernel_rfl)) (fun _ _ => trivial)
theorem r5new_ctv (p_Sign : Int) (p_Digits : List Int) (p_Digitss : SV) (q_Sign : Int) (q_Digits : List Int) (q_Digitss : SV) (hlp : p_Digits.length ≤ 17179869184) (hlq : q_Digits.length ≤ 17179869184) (rv0 : Int) (erv0 : rv0 = Fr.rS ((Bg.RtB p_Sign p_Digits ∧ Bg.RtB q_Sign q_Digits) ∧ q_Sign ≠ 0) (Rat.divInt (Bg.zv p_Sign p_Digits) (Bg.zv q_Sign q_Digits))) (rv1 : List Int) (erv1 : rv1 = Fr.rD ((Bg.RtB p_Sign p_Digits ∧ Bg.RtB q_Sign q_Digits) ∧ q_Sign ≠ 0) (Rat.divInt (Bg.zv p_Sign p_Digits) (Bg.zv q_Sign q_Digits))) (rv2 : Int) (erv2 : rv2 = Fr.rT ((Bg.RtB p_Sign p_Digits ∧ Bg.RtB q_Sign q_Digits) ∧ q_Sign ≠ 0)) (rv3 : List Int) (erv3 : rv3 = Fr.rE ((Bg.RtB p_Sign p_Digits ∧ Bg.RtB q_Sign q_Digits) ∧ q_Sign ≠ 0) (Rat.divInt (Bg.zv p_Sign p_Digits) (Bg.zv q_Sign q_Digits))) (rv4 : Int) (erv4 : rv4 = if ¬ (Bg.RtB p_Sign p_Digits ∧ Bg.RtB q_Sign q_Digits) then (1 : Int) else if q_Sign = 0 then 15 else 0) :
    Ct Try.prog 55 #[ag (DBig.mk p_Sign ⟨p_Digits, p_Digitss⟩), ag (DBig.mk q_Sign ⟨q_Digits, q_Digitss⟩)] [fs true p_Digits p_Digitss, fs true q_Digits q_Digitss] [] (fun g => .tuple #[ag (DFrac.mk (DBig.mk rv0 ⟨rv1, (g.ss 0)⟩) (DBig.mk rv2 ⟨rv3, (g.ss 1)⟩)), iv rv4]) (fun g => [fs true rv1 (g.ss 0), fs true rv3 (g.ss 1)]) (fun g => []) (fun g => []) := by
  subst erv0 erv1 erv2 erv3 erv4; exact r5new_ct p_Sign p_Digits p_Digitss q_Sign q_Digits q_Digitss hlp hlq
set_option maxRecDepth 10000 in
theorem r5of_ct (p q : Int) (hp : -9223372036854775808 ≤ p ∧ p ≤ 9223372036854775807) (hq : -9223372036854775808 ≤ q ∧ q ≤ 9223372036854775807) :
    Ct Try.prog 18 #[iv p, iv q] [] [] (fun g => .tuple #[ag (DFrac.mk (DBig.mk (Fr.rS (q ≠ 0) (Rat.divInt p q)) ⟨Fr.rD (q ≠ 0) (Rat.divInt p q), (g.ss 0)⟩) (DBig.mk (Fr.rT (q ≠ 0)) ⟨Fr.rE (q ≠ 0) (Rat.divInt p q), (g.ss 1)⟩)), iv (if q = 0 then (15 : Int) else 0)]) (fun g => [fs true (Fr.rD (q ≠ 0) (Rat.divInt p q)) (g.ss 0), fs true (Fr.rE (q ≠ 0) (Rat.divInt p q)) (g.ss 1)]) (fun g => []) (fun g => []) := by
  refine V.fn mo Try.func18 13 1 (by kernel_rfl) fun w H ε k0 => ?_
  clear k0
  refine V.g [.nb 0 0 (fun b => pp b 0) 30 (fun _ => ca (DFrac.mk (DBig.mk 0 ⟨[], {}⟩) (DBig.mk 0 ⟨[], {}⟩))),.k (iv 0)] fun _ _ G1 => ?_
  intro S_ s_
  refine nm (Bg.sgn p : Int) fun n1 hn1 => ?_
  refine nm (Bg.dig p.natAbs : List Int) fun l1 hl1 => ?_
  have hl1n := congrArg List.length hl1
  refine nm (Bg.sgn q : Int) fun n2 hn2 => ?_
  refine nm (Bg.dig q.natAbs : List Int) fun l2 hl2 => ?_
  have hl2n := congrArg List.length hl2
  refine nm (Fr.rS ((Bg.RtB n1 l1 ∧ Bg.RtB n2 l2) ∧ n2 ≠ 0) (Rat.divInt (Bg.zv n1 l1) (Bg.zv n2 l2)) : Int) fun n3 hn3 => ?_
  refine nm (Fr.rD ((Bg.RtB n1 l1 ∧ Bg.RtB n2 l2) ∧ n2 ≠ 0) (Rat.divInt (Bg.zv n1 l1) (Bg.zv n2 l2)) : List Int) fun l3 hl3 => ?_
  have hl3n := congrArg List.length hl3
  refine nm (Fr.rT ((Bg.RtB n1 l1 ∧ Bg.RtB n2 l2) ∧ n2 ≠ 0) : Int) fun n4 hn4 => ?_
  refine nm (Fr.rE ((Bg.RtB n1 l1 ∧ Bg.RtB n2 l2) ∧ n2 ≠ 0) (Rat.divInt (Bg.zv n1 l1) (Bg.zv n2 l2)) : List Int) fun l4 hl4 => ?_
  have hl4n := congrArg List.length hl4
  refine nm (if ¬ (Bg.RtB n1 l1 ∧ Bg.RtB n2 l2) then (1 : Int) else if n2 = 0 then 15 else 0 : Int) fun n5 hn5 => ?_
  have zp := Fr.Bz.int hn1 hl1
  have zq := Fr.Bz.int hn2 hl2
  have zpl := zp.int_len hp; have zql := zq.int_len hq
  obtain ⟨en1, en2, en3, en4, en5⟩ := Fr.of_all zp zq hn3 hl3 hn4 hl4 hn5
  refine V.r [.k (iv p),.ct g0 1 56 false [] [] [] (fun _ G => r4of_ctv p (by omega) n1 hn1 l1 hl1),.k (iv q),.ct g0 3 56 false [] [] [] (fun _ G => r4of_ctv q (by omega) n2 hn2 l2 hl2),.ct g0 4 55 false [] [] [(kf true (.g 1 0) l1 (fun G => (G 1).ss 0)).a, (kf true (.g 3 0) l2 (fun G => (G 3).ss 0)).a] (fun _ G => r5new_ctv n1 l1 ((G 1).ss 0) n2 l2 ((G 3).ss 0) (by omega) (by omega) n3 hn3 l3 hl3 n4 hn4 l4 hl4 n5 hn5),.v fun G => ag (DFrac.mk (DBig.mk n3 ⟨l3, (G 4).ss 0⟩) (DBig.mk n4 ⟨l4, (G 4).ss 1⟩)),.k (iv n5),.st 0 (fun G => .blk ((G1 0).b) (ca (DFrac.mk (DBig.mk n3 ⟨l3, (G 4).ss 0⟩) (DBig.mk n4 ⟨l4, (G 4).ss 1⟩))) 30),.k (iv n5)] fun _ _ G2 kw2 => ?_
  intro S_ s_
  obtain ⟨⟨kl1, -⟩, ⟨kl2, -⟩, ⟨kl3, -⟩, ⟨kl4, -⟩, -⟩ : Lq l1 (((G2 1).ss 0).v) ∧ Lq l2 (((G2 3).ss 0).v) ∧ Lq l3 (((G2 4).ss 0).v) ∧ Lq l4 (((G2 4).ss 1).v) ∧ True := kn kw2 (by kernel_rfl)
  clear kw2
  have e1 : l3 = Fr.rD (q ≠ 0) (Rat.divInt p q) := en2
  subst e1
  have e3 : l4 = Fr.rE (q ≠ 0) (Rat.divInt p q) := en4
  subst e3
  have e0 : n3 = Fr.rS (q ≠ 0) (Rat.divInt p q) := en1
  have e2 : n4 = Fr.rT (q ≠ 0) := en3
  have e4 : n5 = if q = 0 then (15 : Int) else 0 := en5
  exact V.ret [0, 0] [(G2 4).ss 0, (G2 4).ss 1] [fun _ => {}, fun _ => {}] [] [2, 3] [] (.tuple #[ag (DFrac.mk (DBig.mk n3 ⟨(Fr.rD (q ≠ 0) (Rat.divInt p q)), (G2 4).ss 0⟩) (DBig.mk n4 ⟨(Fr.rE (q ≠ 0) (Rat.divInt p q)), (G2 4).ss 1⟩)), iv n5]) (fun _ _ => by kernel_rfl) (fun _ _ => (Eq.trans (by kernel_rfl) (cong3 (fun (x0 : Int) (x2 : Int) (x4 : Int) => (.tuple #[.agg #[iv x0, ((G2 4).ss 0).v, iv x2, ((G2 4).ss 1).v], iv x4] : Value)) e0 e2 e4)).trans (by kernel_rfl)) (fun _ _ => trivial)
theorem r5of_ctv (p q : Int) (hp : -9223372036854775808 ≤ p ∧ p ≤ 9223372036854775807) (hq : -9223372036854775808 ≤ q ∧ q ≤ 9223372036854775807) (rv0 : Int) (erv0 : rv0 = Fr.rS (q ≠ 0) (Rat.divInt p q)) (rv1 : List Int) (erv1 : rv1 = Fr.rD (q ≠ 0) (Rat.divInt p q)) (rv2 : Int) (erv2 : rv2 = Fr.rT (q ≠ 0)) (rv3 : List Int) (erv3 : rv3 = Fr.rE (q ≠ 0) (Rat.divInt p q)) (rv4 : Int) (erv4 : rv4 = if q = 0 then (15 : Int) else 0) :
    Ct Try.prog 18 #[iv p, iv q] [] [] (fun g => .tuple #[ag (DFrac.mk (DBig.mk rv0 ⟨rv1, (g.ss 0)⟩) (DBig.mk rv2 ⟨rv3, (g.ss 1)⟩)), iv rv4]) (fun g => [fs true rv1 (g.ss 0), fs true rv3 (g.ss 1)]) (fun g => []) (fun g => []) := by
  subst erv0 erv1 erv2 erv3 erv4; exact r5of_ct p q hp hq
set_option maxRecDepth 10000 in
theorem r5int_ct (n : Int) (hn : -9223372036854775808 ≤ n ∧ n ≤ 9223372036854775807) :
    Ct Try.prog 16 #[iv n] [] [] (fun g => ag (DFrac.mk (DBig.mk (Bg.sgn n) ⟨Bg.dig n.natAbs, (g.ss 0)⟩) (DBig.mk 1 ⟨Bg.dig 1, (g.ss 1)⟩))) (fun g => [fs true (Bg.dig n.natAbs) (g.ss 0), fs true (Bg.dig 1) (g.ss 1)]) (fun g => []) (fun g => []) := by
  refine V.fn mo Try.func16 11 2 (by kernel_rfl) fun w H ε k0 => ?_
  clear k0
  refine V.g [.nb 0 0 (fun b => pp b 0) 30 (fun _ => ca (DFrac.mk (DBig.mk 0 ⟨[], {}⟩) (DBig.mk 0 ⟨[], {}⟩)))] fun _ _ G1 => ?_
  intro S_ s_
  refine nm (Fr.rS ((1 : Int) ≠ 0) (Rat.divInt n (1 : Int)) : Int) fun n1 hn1 => ?_
  refine nm (Fr.rD ((1 : Int) ≠ 0) (Rat.divInt n (1 : Int)) : List Int) fun l1 hl1 => ?_
  have hl1n := congrArg List.length hl1
  refine nm (Fr.rT ((1 : Int) ≠ 0) : Int) fun n2 hn2 => ?_
  refine nm (Fr.rE ((1 : Int) ≠ 0) (Rat.divInt n (1 : Int)) : List Int) fun l2 hl2 => ?_
  have hl2n := congrArg List.length hl2
  refine nm (if (1 : Int) = 0 then (15 : Int) else 0 : Int) fun n3 hn3 => ?_
  have zi := Fr.Fz.of (show (1 : Int) ≠ 0 by decide) hn1 hl1 hn2 hl2
  rw [Fr.divInt1] at zi
  refine V.r [.k (iv n),.ct g0 1 18 false [] [] [] (fun _ G => r5of_ctv n (1 : Int) (by omega) (by omega) n1 hn1 l1 hl1 n2 hn2 l2 hl2 n3 hn3),.v fun G => .tuple #[ag (DFrac.mk (DBig.mk n1 ⟨l1, (G 1).ss 0⟩) (DBig.mk n2 ⟨l2, (G 1).ss 1⟩)), iv n3],.v fun G => ag (DFrac.mk (DBig.mk n1 ⟨l1, (G 1).ss 0⟩) (DBig.mk n2 ⟨l2, (G 1).ss 1⟩)),.k (iv n3),.nb 5 1 (fun b => pp b 0) 30 (fun _ => ca (DFrac.mk (DBig.mk 0 ⟨[], {}⟩) (DBig.mk 0 ⟨[], {}⟩))),.st 1 (fun G => .blk ((G 5).b) (ca (DFrac.mk (DBig.mk n1 ⟨l1, (G 1).ss 0⟩) (DBig.mk n2 ⟨l2, (G 1).ss 1⟩))) 30),.k (iv n3)] fun _ _ G2 kw2 => ?_
  intro S_ s_
  obtain ⟨⟨kl1, -⟩, ⟨kl2, -⟩, -⟩ : Lq l1 (((G2 1).ss 0).v) ∧ Lq l2 (((G2 1).ss 1).v) ∧ True := kn kw2 (by kernel_rfl)
  clear kw2
  refine V.g [.ld 1 0 true (fun _ => Dat.cells (DFrac.mk (DBig.mk n1 ⟨l1, (G2 1).ss 0⟩) (DBig.mk n2 ⟨l2, (G2 1).ss 1⟩))),.st 0 (fun _ => .blk ((G1 0).b) (ca (DFrac.mk (DBig.mk n1 ⟨l1, (G2 1).ss 0⟩) (DBig.mk n2 ⟨l2, (G2 1).ss 1⟩))) 30)] fun _ _ G3 => ?_
  intro S_ s_
  have e1 : l1 = Bg.dig n.natAbs := zi.eqs.2.1
  subst e1
  have e3 : l2 = Bg.dig 1 := zi.eqs.2.2.2
  subst e3
  have e0 : n1 = Bg.sgn n := zi.eqs.1
  have e2 : n2 = 1 := zi.eqs.2.2.1
  exact V.ret [0] [(G2 1).ss 0, (G2 1).ss 1] [fun _ => {}, fun _ => {}] [] [0, 1] [] (ag (DFrac.mk (DBig.mk n1 ⟨(Bg.dig n.natAbs), (G2 1).ss 0⟩) (DBig.mk n2 ⟨(Bg.dig 1), (G2 1).ss 1⟩))) (fun _ _ => by kernel_rfl) (fun _ _ => (Eq.trans (by kernel_rfl) (cong2 (fun (x0 : Int) (x2 : Int) => (.agg #[iv x0, ((G2 1).ss 0).v, iv x2, ((G2 1).ss 1).v] : Value)) e0 e2)).trans (by kernel_rfl)) (fun _ _ => trivial)
theorem r5int_ctv (n : Int) (hn : -9223372036854775808 ≤ n ∧ n ≤ 9223372036854775807) (rv0 : Int) (erv0 : rv0 = Bg.sgn n) (rv1 : List Int) (erv1 : rv1 = Bg.dig n.natAbs) (rv3 : List Int) (erv3 : rv3 = Bg.dig 1) :
    Ct Try.prog 16 #[iv n] [] [] (fun g => ag (DFrac.mk (DBig.mk rv0 ⟨rv1, (g.ss 0)⟩) (DBig.mk 1 ⟨rv3, (g.ss 1)⟩))) (fun g => [fs true rv1 (g.ss 0), fs true rv3 (g.ss 1)]) (fun g => []) (fun g => []) := by
  subst erv0 erv1 erv3; exact r5int_ct n hn

open Go Go.Proofs
set_option maxRecDepth 10000 in
theorem dright_ct (d0 d1 d2 d3 d4 d5 : Int) :
    Cp Try.prog 12 #[.agg #[iv d0, iv d1, iv d2, iv d3, iv d4, iv d5]] [] (bv (decide (Dm.Rt [d0, d1, d2, d3, d4, d5]))) := by
  refine V.fn mo Try.func12 16 1 (by kernel_rfl) fun w H ε k0 => ?_
  clear k0
  refine V.g [.nb 0 0 (fun b => pp b 0) 23 (fun _ => #[iv d0, iv d1, iv d2, iv d3, iv d4, iv d5]),.kb false] fun _ _ G1 => ?_
  intro S_ s_
  refine V.g [.ld 0 0 true (fun _ => [iv d0, iv d1, iv d2, iv d3, iv d4, iv d5]),.k (iv 0)] fun _ _ G2 => ?_
  intro S_ s_
  refine V.loop (γ := Int) (fun k0 => ⟨[(5, .agg #[iv d0, iv d1, iv d2, iv d3, iv d4, iv d5]), (6, iv k0)], [], [.blk ((G1 0).b) #[iv d0, iv d1, iv d2, iv d3, iv d4, iv d5] 23]⟩) (fun k0 => (0 ≤ k0) ∧ (k0 ≤ 6) ∧ (∀ j : Nat, j < k0.toNat → -9 ≤ [d0, d1, d2, d3, d4, d5].getD j 0 ∧ [d0, d1, d2, d3, d4, d5].getD j 0 ≤ 9)) (fun k0 => (6 - k0).toNat) 0 (by kernel_rfl) [] (by kernel_rfl) ?_ ?_
  · refine ⟨?_, ?_, ?_⟩
    · show 0 ≤ (0 : Int)
      first | omega | rfl | (simp; done) | (subst_vars; simp; done)
    · show (0 : Int) ≤ 6
      first | omega | rfl | (simp; done) | (subst_vars; simp; done)
    show ∀ j : Nat, j < (0 : Int).toNat → -9 ≤ [d0, d1, d2, d3, d4, d5].getD j 0 ∧ [d0, d1, d2, d3, d4, d5].getD j 0 ≤ 9
    intro j hj; simp at hj
  rintro k0 hF1 kw3 Z1 hZ1
  have hF1 : (0 ≤ k0) ∧ (k0 ≤ 6) ∧ (∀ j : Nat, j < k0.toNat → -9 ≤ [d0, d1, d2, d3, d4, d5].getD j 0 ∧ [d0, d1, d2, d3, d4, d5].getD j 0 ≤ 9) := hF1
  obtain ⟨hf1, hf2, hf3⟩ := hF1
  clear kw3
  refine V.g [.k (bv (decide (k0 < 6)))] fun _ _ G3 => ?_
  intro S_ s_
  refine V.cond (b := decide (k0 < 6)) iDT iDF (by kernel_rfl) (fun q1 => ?_) (fun q2 => ?_)
  · rcases (by omega : k0 = 0 ∨ k0 = 1 ∨ k0 = 2 ∨ k0 = 3 ∨ k0 = 4 ∨ k0 = 5) with hcs1 | hcs2 | hcs3 | hcs4 | hcs5 | hcs6
    · refine V.alt (fun (zz : Int) => (⟨[(5, .agg #[iv d0, iv d1, iv d2, iv d3, iv d4, iv d5]), (6, iv zz), (7, bv (decide (k0 < 6)))], [], [.blk ((G1 0).b) #[iv d0, iv d1, iv d2, iv d3, iv d4, iv d5] 23]⟩ : St)) hcs1 [] (by kernel_rfl) ?_
      refine V.g [.k (iv d0),.k (iv d0)] fun _ _ G4 => ?_
      intro S_ s_
      refine V.g [.k (iv d0),.k (bv (decide (d0 < (-9)))),.k (bv (decide (d0 < (-9)))),.k (iv d0),.k (bv (decide (9 < d0))),.or g0 false (decide (d0 < (-9))) (decide (9 < d0))] fun _ _ G5 => ?_
      intro S_ s_
      refine V.cond (b := (decide (d0 < (-9))) || (decide (9 < d0))) (iOT iDT iDT) (iOF iDF iDF) (by kernel_rfl) (fun q3 => ?_) (fun q4 => ?_)
      · refine V.g [.kb false] fun _ _ G6 => ?_
        intro S_ s_
        have e0 : false = decide (Dm.Rt [d0, d1, d2, d3, d4, d5]) := by symm; rw [decide_eq_false_iff_not, Dm.Rt6]; omega
        exact V.ret [0] [] [] [] [] [] (bv false) (fun _ _ => by kernel_rfl) (fun _ _ => (Eq.trans (by kernel_rfl) (cong1 (fun (x0 : Bool) => (bv x0 : Value)) e0)).trans (by kernel_rfl)) (fun _ _ => trivial)
      refine V.g [.k (iv 1),.k (iv 1)] fun _ _ G7 => ?_
      intro S_ s_
      refine V.rnd hZ1 1 [] (by kernel_rfl) ?_ ?_
      · refine ⟨?_, ?_, ?_⟩
        · show 0 ≤ (1 : Int)
          omega
        · show (1 : Int) ≤ 6
          omega
        show ∀ j : Nat, j < (1 : Int).toNat → -9 ≤ [d0, d1, d2, d3, d4, d5].getD j 0 ∧ [d0, d1, d2, d3, d4, d5].getD j 0 ≤ 9
        exact Dm.upto_succ (P := fun j => -9 ≤ [d0, d1, d2, d3, d4, d5].getD j 0 ∧ [d0, d1, d2, d3, d4, d5].getD j 0 ≤ 9) (n := 0) (by omega) hf3 (by show -9 ≤ d0 ∧ d0 ≤ 9; omega)
      show (6 - (1 : Int)).toNat < (6 - k0).toNat
      omega
    · refine V.alt (fun (zz : Int) => (⟨[(5, .agg #[iv d0, iv d1, iv d2, iv d3, iv d4, iv d5]), (6, iv zz), (7, bv (decide (k0 < 6)))], [], [.blk ((G1 0).b) #[iv d0, iv d1, iv d2, iv d3, iv d4, iv d5] 23]⟩ : St)) hcs2 [] (by kernel_rfl) ?_
      refine V.g [.k (iv d1),.k (iv d1)] fun _ _ G8 => ?_
      intro S_ s_
      refine V.g [.k (iv d1),.k (bv (decide (d1 < (-9)))),.k (bv (decide (d1 < (-9)))),.k (iv d1),.k (bv (decide (9 < d1))),.or g0 false (decide (d1 < (-9))) (decide (9 < d1))] fun _ _ G9 => ?_
      intro S_ s_
      refine V.cond (b := (decide (d1 < (-9))) || (decide (9 < d1))) (iOT iDT iDT) (iOF iDF iDF) (by kernel_rfl) (fun q5 => ?_) (fun q6 => ?_)
      · refine V.g [.kb false] fun _ _ G10 => ?_
        intro S_ s_
        have e0 : false = decide (Dm.Rt [d0, d1, d2, d3, d4, d5]) := by symm; rw [decide_eq_false_iff_not, Dm.Rt6]; omega
        exact V.ret [0] [] [] [] [] [] (bv false) (fun _ _ => by kernel_rfl) (fun _ _ => (Eq.trans (by kernel_rfl) (cong1 (fun (x0 : Bool) => (bv x0 : Value)) e0)).trans (by kernel_rfl)) (fun _ _ => trivial)
      refine V.g [.k (iv 2),.k (iv 2)] fun _ _ G11 => ?_
      intro S_ s_
      refine V.rnd hZ1 2 [] (by kernel_rfl) ?_ ?_
      · refine ⟨?_, ?_, ?_⟩
        · show 0 ≤ (2 : Int)
          omega
        · show (2 : Int) ≤ 6
          omega
        show ∀ j : Nat, j < (2 : Int).toNat → -9 ≤ [d0, d1, d2, d3, d4, d5].getD j 0 ∧ [d0, d1, d2, d3, d4, d5].getD j 0 ≤ 9
        exact Dm.upto_succ (P := fun j => -9 ≤ [d0, d1, d2, d3, d4, d5].getD j 0 ∧ [d0, d1, d2, d3, d4, d5].getD j 0 ≤ 9) (n := 1) (by omega) hf3 (by show -9 ≤ d1 ∧ d1 ≤ 9; omega)
      show (6 - (2 : Int)).toNat < (6 - k0).toNat
      omega
    · refine V.alt (fun (zz : Int) => (⟨[(5, .agg #[iv d0, iv d1, iv d2, iv d3, iv d4, iv d5]), (6, iv zz), (7, bv (decide (k0 < 6)))], [], [.blk ((G1 0).b) #[iv d0, iv d1, iv d2, iv d3, iv d4, iv d5] 23]⟩ : St)) hcs3 [] (by kernel_rfl) ?_
      refine V.g [.k (iv d2),.k (iv d2)] fun _ _ G12 => ?_
      intro S_ s_
      refine V.g [.k (iv d2),.k (bv (decide (d2 < (-9)))),.k (bv (decide (d2 < (-9)))),.k (iv d2),.k (bv (decide (9 < d2))),.or g0 false (decide (d2 < (-9))) (decide (9 < d2))] fun _ _ G13 => ?_
      intro S_ s_
      refine V.cond (b := (decide (d2 < (-9))) || (decide (9 < d2))) (iOT iDT iDT) (iOF iDF iDF) (by kernel_rfl) (fun q7 => ?_) (fun q8 => ?_)
      · refine V.g [.kb false] fun _ _ G14 => ?_
        intro S_ s_
        have e0 : false = decide (Dm.Rt [d0, d1, d2, d3, d4, d5]) := by symm; rw [decide_eq_false_iff_not, Dm.Rt6]; omega
        exact V.ret [0] [] [] [] [] [] (bv false) (fun _ _ => by kernel_rfl) (fun _ _ => (Eq.trans (by kernel_rfl) (cong1 (fun (x0 : Bool) => (bv x0 : Value)) e0)).trans (by kernel_rfl)) (fun _ _ => trivial)
      refine V.g [.k (iv 3),.k (iv 3)] fun _ _ G15 => ?_
      intro S_ s_
      refine V.rnd hZ1 3 [] (by kernel_rfl) ?_ ?_
      · refine ⟨?_, ?_, ?_⟩
        · show 0 ≤ (3 : Int)
          omega
        · show (3 : Int) ≤ 6
          omega
        show ∀ j : Nat, j < (3 : Int).toNat → -9 ≤ [d0, d1, d2, d3, d4, d5].getD j 0 ∧ [d0, d1, d2, d3, d4, d5].getD j 0 ≤ 9
        exact Dm.upto_succ (P := fun j => -9 ≤ [d0, d1, d2, d3, d4, d5].getD j 0 ∧ [d0, d1, d2, d3, d4, d5].getD j 0 ≤ 9) (n := 2) (by omega) hf3 (by show -9 ≤ d2 ∧ d2 ≤ 9; omega)
      show (6 - (3 : Int)).toNat < (6 - k0).toNat
      omega
    · refine V.alt (fun (zz : Int) => (⟨[(5, .agg #[iv d0, iv d1, iv d2, iv d3, iv d4, iv d5]), (6, iv zz), (7, bv (decide (k0 < 6)))], [], [.blk ((G1 0).b) #[iv d0, iv d1, iv d2, iv d3, iv d4, iv d5] 23]⟩ : St)) hcs4 [] (by kernel_rfl) ?_
      refine V.g [.k (iv d3),.k (iv d3)] fun _ _ G16 => ?_
      intro S_ s_
      refine V.g [.k (iv d3),.k (bv (decide (d3 < (-9)))),.k (bv (decide (d3 < (-9)))),.k (iv d3),.k (bv (decide (9 < d3))),.or g0 false (decide (d3 < (-9))) (decide (9 < d3))] fun _ _ G17 => ?_
      intro S_ s_
      refine V.cond (b := (decide (d3 < (-9))) || (decide (9 < d3))) (iOT iDT iDT) (iOF iDF iDF) (by kernel_rfl) (fun q9 => ?_) (fun q10 => ?_)
      · refine V.g [.kb false] fun _ _ G18 => ?_
        intro S_ s_
        have e0 : false = decide (Dm.Rt [d0, d1, d2, d3, d4, d5]) := by symm; rw [decide_eq_false_iff_not, Dm.Rt6]; omega
        exact V.ret [0] [] [] [] [] [] (bv false) (fun _ _ => by kernel_rfl) (fun _ _ => (Eq.trans (by kernel_rfl) (cong1 (fun (x0 : Bool) => (bv x0 : Value)) e0)).trans (by kernel_rfl)) (fun _ _ => trivial)
      refine V.g [.k (iv 4),.k (iv 4)] fun _ _ G19 => ?_
      intro S_ s_
      refine V.rnd hZ1 4 [] (by kernel_rfl) ?_ ?_
      · refine ⟨?_, ?_, ?_⟩
        · show 0 ≤ (4 : Int)
          omega
        · show (4 : Int) ≤ 6
          omega
        show ∀ j : Nat, j < (4 : Int).toNat → -9 ≤ [d0, d1, d2, d3, d4, d5].getD j 0 ∧ [d0, d1, d2, d3, d4, d5].getD j 0 ≤ 9
        exact Dm.upto_succ (P := fun j => -9 ≤ [d0, d1, d2, d3, d4, d5].getD j 0 ∧ [d0, d1, d2, d3, d4, d5].getD j 0 ≤ 9) (n := 3) (by omega) hf3 (by show -9 ≤ d3 ∧ d3 ≤ 9; omega)
      show (6 - (4 : Int)).toNat < (6 - k0).toNat
      omega
    · refine V.alt (fun (zz : Int) => (⟨[(5, .agg #[iv d0, iv d1, iv d2, iv d3, iv d4, iv d5]), (6, iv zz), (7, bv (decide (k0 < 6)))], [], [.blk ((G1 0).b) #[iv d0, iv d1, iv d2, iv d3, iv d4, iv d5] 23]⟩ : St)) hcs5 [] (by kernel_rfl) ?_
      refine V.g [.k (iv d4),.k (iv d4)] fun _ _ G20 => ?_
      intro S_ s_
      refine V.g [.k (iv d4),.k (bv (decide (d4 < (-9)))),.k (bv (decide (d4 < (-9)))),.k (iv d4),.k (bv (decide (9 < d4))),.or g0 false (decide (d4 < (-9))) (decide (9 < d4))] fun _ _ G21 => ?_
      intro S_ s_
      refine V.cond (b := (decide (d4 < (-9))) || (decide (9 < d4))) (iOT iDT iDT) (iOF iDF iDF) (by kernel_rfl) (fun q11 => ?_) (fun q12 => ?_)
      · refine V.g [.kb false] fun _ _ G22 => ?_
        intro S_ s_
        have e0 : false = decide (Dm.Rt [d0, d1, d2, d3, d4, d5]) := by symm; rw [decide_eq_false_iff_not, Dm.Rt6]; omega
        exact V.ret [0] [] [] [] [] [] (bv false) (fun _ _ => by kernel_rfl) (fun _ _ => (Eq.trans (by kernel_rfl) (cong1 (fun (x0 : Bool) => (bv x0 : Value)) e0)).trans (by kernel_rfl)) (fun _ _ => trivial)
      refine V.g [.k (iv 5),.k (iv 5)] fun _ _ G23 => ?_
      intro S_ s_
      refine V.rnd hZ1 5 [] (by kernel_rfl) ?_ ?_
      · refine ⟨?_, ?_, ?_⟩
        · show 0 ≤ (5 : Int)
          omega
        · show (5 : Int) ≤ 6
          omega
        show ∀ j : Nat, j < (5 : Int).toNat → -9 ≤ [d0, d1, d2, d3, d4, d5].getD j 0 ∧ [d0, d1, d2, d3, d4, d5].getD j 0 ≤ 9
        exact Dm.upto_succ (P := fun j => -9 ≤ [d0, d1, d2, d3, d4, d5].getD j 0 ∧ [d0, d1, d2, d3, d4, d5].getD j 0 ≤ 9) (n := 4) (by omega) hf3 (by show -9 ≤ d4 ∧ d4 ≤ 9; omega)
      show (6 - (5 : Int)).toNat < (6 - k0).toNat
      omega
    refine V.alt (fun (zz : Int) => (⟨[(5, .agg #[iv d0, iv d1, iv d2, iv d3, iv d4, iv d5]), (6, iv zz), (7, bv (decide (k0 < 6)))], [], [.blk ((G1 0).b) #[iv d0, iv d1, iv d2, iv d3, iv d4, iv d5] 23]⟩ : St)) hcs6 [] (by kernel_rfl) ?_
    refine V.g [.k (iv d5),.k (iv d5)] fun _ _ G24 => ?_
    intro S_ s_
    refine V.g [.k (iv d5),.k (bv (decide (d5 < (-9)))),.k (bv (decide (d5 < (-9)))),.k (iv d5),.k (bv (decide (9 < d5))),.or g0 false (decide (d5 < (-9))) (decide (9 < d5))] fun _ _ G25 => ?_
    intro S_ s_
    refine V.cond (b := (decide (d5 < (-9))) || (decide (9 < d5))) (iOT iDT iDT) (iOF iDF iDF) (by kernel_rfl) (fun q13 => ?_) (fun q14 => ?_)
    · refine V.g [.kb false] fun _ _ G26 => ?_
      intro S_ s_
      have e0 : false = decide (Dm.Rt [d0, d1, d2, d3, d4, d5]) := by symm; rw [decide_eq_false_iff_not, Dm.Rt6]; omega
      exact V.ret [0] [] [] [] [] [] (bv false) (fun _ _ => by kernel_rfl) (fun _ _ => (Eq.trans (by kernel_rfl) (cong1 (fun (x0 : Bool) => (bv x0 : Value)) e0)).trans (by kernel_rfl)) (fun _ _ => trivial)
    refine V.g [.k (iv 6),.k (iv 6)] fun _ _ G27 => ?_
    intro S_ s_
    refine V.rnd hZ1 6 [] (by kernel_rfl) ?_ ?_
    · refine ⟨?_, ?_, ?_⟩
      · show 0 ≤ (6 : Int)
        omega
      · show (6 : Int) ≤ 6
        omega
      show ∀ j : Nat, j < (6 : Int).toNat → -9 ≤ [d0, d1, d2, d3, d4, d5].getD j 0 ∧ [d0, d1, d2, d3, d4, d5].getD j 0 ≤ 9
      exact Dm.upto_succ (P := fun j => -9 ≤ [d0, d1, d2, d3, d4, d5].getD j 0 ∧ [d0, d1, d2, d3, d4, d5].getD j 0 ≤ 9) (n := 5) (by omega) hf3 (by show -9 ≤ d5 ∧ d5 ≤ 9; omega)
    show (6 - (6 : Int)).toNat < (6 - k0).toNat
    omega
  refine V.g [.kb true] fun _ _ G28 => ?_
  intro S_ s_
  have e0 : true = decide (Dm.Rt [d0, d1, d2, d3, d4, d5]) := by symm; rw [decide_eq_true_iff]; exact Dm.Rt_all rfl fun j hj => hf3 j (by omega)
  exact V.ret [0] [] [] [] [] [] (bv true) (fun _ _ => by kernel_rfl) (fun _ _ => (Eq.trans (by kernel_rfl) (cong1 (fun (x0 : Bool) => (bv x0 : Value)) e0)).trans (by kernel_rfl)) (fun _ _ => trivial)

open Go
namespace Un
open Fr Bg
abbrev U := List Int × Rat
def dv (o : Option U) (i : Nat) : Int := (o.getD ([], 0)).1.getD i 0
def fv (o : Option U) : Rat := (o.getD ([], 0)).2
theorem dv_s {o : Option U} {d : List Int} {r : Rat} (h : o = some (d, r)) (i : Nat) : dv o i = d.getD i 0 := by subst h; rfl
theorem fv_s {o : Option U} {d : List Int} {r : Rat} (h : o = some (d, r)) : fv o = r := by subst h; rfl
theorem is_s {o : Option U} {u : U} (h : o = some u) : o.isSome = true := by subst h; rfl
theorem dv_n {o : Option U} (h : o = none) (i : Nat) : dv o i = 0 := by subst h; simp [dv]
theorem is_n {o : Option U} (h : o = none) : ¬ o.isSome = true := by subst h; simp
theorem some_of {o : Option U} (h : o.isSome = true) : o = some ((o.getD ([], 0)).1, fv o) := by
  obtain ⟨x, rfl⟩ := Option.isSome_iff_exists.1 h; rfl
def sl : List (ByteArray × U) := [(⟨#[103]⟩, [1, 0, 0, 0, 0, 0], Rat.divInt 1 1), (⟨#[116]⟩, [1, 0, 0, 0, 0, 0], Rat.divInt 1000000 1), (⟨#[109]⟩, [0, 1, 0, 0, 0, 0], Rat.divInt 1 1), (⟨#[108]⟩, [0, 3, 0, 0, 0, 0], Rat.divInt 1 1000),
  (⟨#[115]⟩, [0, 0, 1, 0, 0, 0], Rat.divInt 1 1), (⟨#[104]⟩, [0, 0, 1, 0, 0, 0], Rat.divInt 3600 1), (⟨#[100]⟩, [0, 0, 1, 0, 0, 0], Rat.divInt 86400 1), (⟨#[74]⟩, [0, 0, 0, 1, 0, 0], Rat.divInt 1 1), (⟨#[87, 104]⟩, [0, 0, 0, 1, 0, 0], Rat.divInt 3600 1),
  (⟨#[99, 101, 110, 116]⟩, [0, 0, 0, 0, 1, 0], Rat.divInt 1 1), (⟨#[101, 117, 114]⟩, [0, 0, 0, 0, 1, 0], Rat.divInt 100 1), (⟨#[112, 99]⟩, [0, 0, 0, 0, 0, 1], Rat.divInt 1 1)]
def look : List (ByteArray × U) → ByteArray → Option U
  | [], _ => none
  | x :: l, s => if s = x.1 then some x.2 else look l s
def sym (s : ByteArray) : Option U := look sl s
theorem look_mem {s : ByteArray} {u : U} : ∀ {l : List (ByteArray × U)}, look l s = some u → (s, u) ∈ l
  | [], h => by cases h
  | x :: l, h => by
    unfold look at h
    split at h
    · rename_i e; obtain rfl := Option.some.inj h; subst e; exact List.mem_cons_self
    · exact List.mem_cons_of_mem _ (look_mem h)
theorem look_no {s : ByteArray} : ∀ {l : List (ByteArray × U)}, (∀ x ∈ l, ¬ s = x.1) → look l s = none
  | [], _ => rfl
  | x :: l, h => by
    unfold look
    rw [if_neg (h x List.mem_cons_self)]
    exact look_no fun y hy => h y (List.mem_cons_of_mem _ hy)
theorem sym_no {s : ByteArray} (h1 : ¬ s = ⟨#[103]⟩) (h2 : ¬ s = ⟨#[116]⟩) (h3 : ¬ s = ⟨#[109]⟩) (h4 : ¬ s = ⟨#[108]⟩) (h5 : ¬ s = ⟨#[115]⟩) (h6 : ¬ s = ⟨#[104]⟩) (h7 : ¬ s = ⟨#[100]⟩) (h8 : ¬ s = ⟨#[74]⟩) (h9 : ¬ s = ⟨#[87, 104]⟩)
    (h10 : ¬ s = ⟨#[99, 101, 110, 116]⟩) (h11 : ¬ s = ⟨#[101, 117, 114]⟩) (h12 : ¬ s = ⟨#[112, 99]⟩) : sym s = none := by
  refine look_no fun x hx => ?_
  simp only [sl, List.mem_cons, List.not_mem_nil, or_false] at hx
  rcases hx with rfl | rfl | rfl | rfl | rfl | rfl | rfl | rfl | rfl | rfl | rfl | rfl <;> assumption
def ok (u : U) (k : Nat) : Prop := u.1.length = 6 ∧ (∀ x ∈ u.1, -3 ≤ x ∧ x ≤ 3) ∧ 0 < u.2 ∧ Hb u.2 k
instance (r : Rat) (k : Nat) : Decidable (Hb r k) := by unfold Hb; infer_instance
instance (u : U) (k : Nat) : Decidable (ok u k) := by unfold ok; infer_instance
theorem sl_ok : ∀ x ∈ sl, ok x.2 1 := by decide +kernel
theorem sym_ok {s : ByteArray} {u : U} (h : sym s = some u) : ok u 1 := sl_ok _ (look_mem h)
def pre (c : Int) : Option (Int × Int) := if c = 107 then some (1000, 1) else if c = 77 then some (1000000, 1) else if c = 71 then some (1000000000, 1) else if c = 109 then some (1, 1000) else none
def pp (o : Option (Int × Int)) : Int := (o.getD (0, 0)).1
def pq (o : Option (Int × Int)) : Int := (o.getD (0, 0)).2
theorem pre_ok {c : Int} (h : (pre c).isSome = true) : (0 < pp (pre c) ∧ pp (pre c) ≤ 1000000000) ∧ 0 < pq (pre c) ∧ pq (pre c) ≤ 1000 := by
  unfold pre at h ⊢
  split
  · decide
  · split
    · decide
    · split
      · decide
      · split
        · decide
        · rename_i h1 h2 h3 h4
          rw [if_neg h1, if_neg h2, if_neg h3, if_neg h4] at h; cases h
def pf (s : ByteArray) : Prop := ((((s = ⟨#[103]⟩ ∨ s = ⟨#[109]⟩) ∨ s = ⟨#[108]⟩) ∨ s = ⟨#[115]⟩) ∨ s = ⟨#[74]⟩) ∨ s = ⟨#[87, 104]⟩
instance (s : ByteArray) : Decidable (pf s) := by unfold pf; infer_instance
def wdB (s : ByteArray) : Prop := (pre (((bl s).getD 0 default).toNat : Int)).isSome = true ∧ (sym (s.extract 1 s.size)).isSome = true ∧ pf (s.extract 1 s.size)
instance (s : ByteArray) : Decidable (wdB s) := by unfold wdB; infer_instance
def wd (s : ByteArray) : Option U := if wdB s then some (((sym (s.extract 1 s.size)).getD ([], 0)).1, fv (sym (s.extract 1 s.size)) * Rat.divInt (pp (pre (((bl s).getD 0 default).toNat : Int))) (pq (pre (((bl s).getD 0 default).toNat : Int)))) else none
def word (s : ByteArray) : Option U := if (sym s).isSome = true then sym s else wd s
theorem word_y {s : ByteArray} (h : (sym s).isSome = true) : word s = sym s := if_pos h
theorem word_n {s : ByteArray} (h : ¬ (sym s).isSome = true) (k : ¬ wdB s) : word s = none := by unfold word wd; rw [if_neg h, if_neg k]
theorem word_p {s : ByteArray} (h : ¬ (sym s).isSome = true) (k : wdB s) : word s = some (((sym (s.extract 1 s.size)).getD ([], 0)).1, fv (sym (s.extract 1 s.size)) * Rat.divInt (pp (pre (((bl s).getD 0 default).toNat : Int))) (pq (pre (((bl s).getD 0 default).toNat : Int)))) := by unfold word wd; rw [if_neg h, if_pos k]
theorem divI_pos {p q : Int} (hp : 0 < p) (hq : 0 < q) : 0 < Rat.divInt p q := by
  have h := (Fr.red (n := p) hq).1
  have hg : 0 < Nat.gcd p.natAbs q.natAbs := Nat.gcd_pos_of_pos_left _ (by omega)
  have hd : ((Nat.gcd p.natAbs q.natAbs : Nat) : Int) ∣ p := Int.dvd_natAbs.1 (Int.natCast_dvd_natCast.2 (Nat.gcd_dvd_left _ _))
  have hp' := Int.ediv_pos_of_pos_of_dvd hp (by omega) hd
  rw [← Fr.sgn_num.2.2, h]
  generalize p / ((Nat.gcd p.natAbs q.natAbs : Nat) : Int) = x at hp'
  unfold Bg.sgn; omega
theorem word_ok {s : ByteArray} {u : U} (h : word s = some u) : ok u 4 := by
  by_cases hs : (sym s).isSome = true
  · rw [word_y hs] at h
    obtain ⟨a, b, c, d⟩ := sym_ok h
    exact ⟨a, b, c, d.mono (by omega)⟩
  · by_cases hk : wdB s
    · rw [word_p hs hk] at h
      obtain rfl := Option.some.inj h
      obtain ⟨a, b, c, d⟩ := sym_ok (some_of hk.2.1)
      obtain ⟨⟨h1, h2⟩, h3, h4⟩ := pre_ok hk.1
      refine ⟨a, b, Rat.mul_pos c (divI_pos h1 h3), ?_⟩
      refine (d.mul (Hb.divI (k := 3) (by omega) ?_ ?_))
      · have : (1048576 : Nat) ^ 3 = 1152921504606846976 := by decide
        omega
      · have : (1048576 : Nat) ^ 3 = 1152921504606846976 := by decide
        omega
    · rw [word_n hs hk] at h; cases h
def tmN (a f : Rat) (p : Prop) [Decidable p] : Nat → Rat
  | 0 => a
  | n + 1 => if p then tmN a f p n * f else tmN a f p n / f
def tm (a f : Rat) (e : Int) : Rat := tmN a f (0 < e) e.natAbs
theorem tmN_y {a f : Rat} {p : Prop} [Decidable p] (h : p) (n : Nat) : tmN a f p (n + 1) = tmN a f p n * f := by rw [tmN, if_pos h]
theorem tmN_n {a f : Rat} {p : Prop} [Decidable p] (h : ¬ p) (n : Nat) : tmN a f p (n + 1) = tmN a f p n / f := by rw [tmN, if_neg h]
theorem tmN_hb {a f : Rat} {p : Prop} [Decidable p] {i j : Nat} (ha : Hb a i) (hf : Hb f j) : ∀ n, Hb (tmN a f p n) (i + n * j)
  | 0 => by rw [Nat.zero_mul]; exact ha
  | n + 1 => by
    have ih := tmN_hb (p := p) ha hf n
    rw [tmN, show i + (n + 1) * j = i + n * j + j by rw [Nat.succ_mul, Nat.add_assoc]]
    split
    · exact ih.mul hf
    · exact ih.div hf
theorem tm_hb {a f : Rat} {e : Int} {i j : Nat} (ha : Hb a i) (hf : Hb f j) (he : -9 ≤ e ∧ e ≤ 9) : Hb (tm a f e) (i + 9 * j) := by
  refine (tmN_hb ha hf _).mono ?_
  have : e.natAbs * j ≤ 9 * j := Nat.mul_le_mul_right _ (by omega)
  omega
theorem tmN_pos {a f : Rat} {p : Prop} [Decidable p] (ha : 0 < a) (hf : 0 < f) : ∀ n, 0 < tmN a f p n
  | 0 => ha
  | n + 1 => by
    have ih := tmN_pos (p := p) ha hf n
    rw [tmN]
    split
    · exact Rat.mul_pos ih hf
    · rw [Rat.div_def]; exact Rat.mul_pos ih (Rat.inv_pos.2 hf)
theorem tm_pos {a f : Rat} (ha : 0 < a) (hf : 0 < f) (e : Int) : 0 < tm a f e := tmN_pos ha hf _
def ltr (c : Int) : Prop := (97 ≤ c ∧ c ≤ 122) ∨ (65 ≤ c ∧ c ≤ 90)
instance (c : Int) : Decidable (ltr c) := by unfold ltr; infer_instance
def nlL : List UInt8 → Nat
  | [] => 0
  | c :: l => if ltr (c.toNat : Int) then nlL l + 1 else 0
def nl (s : ByteArray) : Nat := nlL (bl s)
theorem nlL_at : ∀ {l : List UInt8} {n : Nat}, n ≤ l.length → (∀ j, j < n → ltr ((l.getD j default).toNat : Int)) → (n = l.length ∨ ¬ ltr ((l.getD n default).toNat : Int)) → nlL l = n
  | [], n, hn, _, _ => by simp at hn; subst hn; rfl
  | c :: l, 0, _, _, h => by
    rcases h with h | h
    · simp at h
    · unfold nlL; rw [if_neg (by simpa using h)]
  | c :: l, n + 1, hn, hj, h => by
    unfold nlL
    rw [if_pos (by simpa using hj 0 (by omega)), nlL_at (by simpa using hn) (fun j hj' => by have := hj (j + 1) (by omega); simpa using this) (by simpa using h)]
theorem nlL_le : ∀ (l : List UInt8), nlL l ≤ l.length
  | [] => Nat.le_refl _
  | c :: l => by unfold nlL; have := nlL_le l; split <;> simp <;> omega
theorem nl_le (s : ByteArray) : nl s ≤ s.size := by have := nlL_le (bl s); rw [bl_len] at this; exact this
theorem nl_at {s : ByteArray} {n : Nat} (hn : n ≤ s.size) (hj : ∀ j, j < n → ltr (((bl s).getD j default).toNat : Int)) (h : n = s.size ∨ ¬ ltr (((bl s).getD n default).toNat : Int)) : nl s = n :=
  nlL_at (by rw [bl_len]; exact hn) hj (by rw [bl_len]; exact h)
def rest (s : ByteArray) : ByteArray := s.extract (nl s) s.size
def num (t : ByteArray) : Prop := (¬ t = ByteArray.empty ∧ 50 ≤ (((bl t).getD 0 default).toNat : Int)) ∧ (((bl t).getD 0 default).toNat : Int) ≤ 57
instance (t : ByteArray) : Decidable (num t) := by unfold num; infer_instance
def cuW (s : ByteArray) : ByteArray := s.extract 0 (nl s)
def cuE (s : ByteArray) : Int := if num (rest s) then (((bl (rest s)).getD 0 default).toNat : Int) - 48 else 1
def cuR (s : ByteArray) : ByteArray := if num (rest s) then (rest s).extract 1 (rest s).size else rest s
theorem cuE_rg (s : ByteArray) : 1 ≤ cuE s ∧ cuE s ≤ 9 := by
  unfold cuE; split
  · rename_i h; obtain ⟨⟨_, h1⟩, h2⟩ := h; omega
  · omega
theorem cuR_size (s : ByteArray) : (cuR s).size ≤ s.size - nl s := by
  have h1 := nl_le s
  have h2 : (rest s).size = s.size - nl s := by unfold rest; rw [ByteArray.size_extract]; omega
  unfold cuR; split
  · rw [ByteArray.size_extract]; omega
  · omega
theorem cuW_size (s : ByteArray) : (cuW s).size = nl s := by
  have h1 := nl_le s
  unfold cuW; rw [ByteArray.size_extract]; omega
def itm (c : UInt8) (t : ByteArray) : Ditem := ⟨cuW t, if (c.toNat : Int) = 47 then -cuE t else cuE t⟩
def good (r : ByteArray) : Prop := 0 < nl (r.extract 1 r.size) ∧ ((((bl r).getD 0 default).toNat : Int) = 42 ∨ (((bl r).getD 0 default).toNat : Int) = 47)
instance (r : ByteArray) : Decidable (good r) := by unfold good; infer_instance
def itN : Nat → ByteArray → Option (List Ditem)
  | 0, _ => some []
  | n + 1, r => if r = ByteArray.empty then some [] else if good r then (itN n (cuR (r.extract 1 r.size))).map (itm ((bl r).getD 0 default) (r.extract 1 r.size) :: ·) else none
def it (r : ByteArray) : Option (List Ditem) := itN r.size r
theorem itN_fuel : ∀ (n m : Nat) (r : ByteArray), r.size ≤ n → r.size ≤ m → itN n r = itN m r
  | 0, 0, _, _, _ => rfl
  | 0, m + 1, r, h, _ => by
    have h0 : r = ByteArray.empty := Classical.byContradiction fun e => Dm.size_ne e (by omega)
    unfold itN; rw [if_pos h0]
  | n + 1, 0, r, _, h => by
    have h0 : r = ByteArray.empty := Classical.byContradiction fun e => Dm.size_ne e (by omega)
    unfold itN; rw [if_pos h0]
  | n + 1, m + 1, r, h1, h2 => by
    unfold itN
    by_cases h0 : r = ByteArray.empty
    · rw [if_pos h0, if_pos h0]
    · rw [if_neg h0, if_neg h0]
      have hs := Dm.size_ne h0
      have h3 := cuR_size (r.extract 1 r.size)
      rw [ByteArray.size_extract] at h3
      rw [itN_fuel n m _ (by omega) (by omega)]
theorem it_end {r : ByteArray} (h : r = ByteArray.empty) : it r = some [] := by subst h; rfl
theorem it_bad {r : ByteArray} (h : ¬ r = ByteArray.empty) (k : ¬ good r) : it r = none := by
  have hs := Dm.size_ne h
  unfold it
  obtain ⟨n, hn⟩ : ∃ n, r.size = n + 1 := ⟨r.size - 1, by omega⟩
  rw [hn, itN, if_neg h, if_neg k]
theorem it_step {r : ByteArray} (h : ¬ r = ByteArray.empty) (k : good r) : it r = (it (cuR (r.extract 1 r.size))).map (itm (((bl r).getD 0 default)) (r.extract 1 r.size) :: ·) := by
  have hs := Dm.size_ne h
  have h3 := cuR_size (r.extract 1 r.size)
  rw [ByteArray.size_extract] at h3
  have e : it r = itN r.size r := rfl
  rw [e]
  obtain ⟨n, hn⟩ : ∃ n, r.size = n + 1 := ⟨r.size - 1, by omega⟩
  rw [hn, itN, if_neg h, if_pos k, ← hn]
  unfold it
  rw [itN_fuel n _ _ (by omega) (Nat.le_refl _)]
def itA (out : List Ditem) (r : ByteArray) : Option (List Ditem) := (it r).map (out ++ ·)
theorem itA_nil (r : ByteArray) : itA [] r = it r := by
  unfold itA; cases it r <;> simp
theorem itA_end {r : ByteArray} {out : List Ditem} (h : r = ByteArray.empty) : itA out r = some out := by unfold itA; rw [it_end h]; simp
theorem itA_bad {r : ByteArray} {out : List Ditem} (h : ¬ r = ByteArray.empty) (k : ¬ good r) : itA out r = none := by unfold itA; rw [it_bad h k]; rfl
theorem itA_step {r t : ByteArray} {out : List Ditem} {x : Ditem} (h : ¬ r = ByteArray.empty) (k : good r) (ht : t = r.extract (1 : Int).toNat (r.size : Int).toNat) (hx : x = itm ((bl r).getD 0 default) t) : itA (out ++ [x]) (cuR t) = itA out r := by
  have ht' : t = r.extract 1 r.size := ht
  unfold itA
  rw [it_step h k, ← ht', ← hx]
  cases it (cuR t) <;> simp
def start (s : ByteArray) : ByteArray := if Dm.cpB s ⟨#[49]⟩ then Dm.cpR s ⟨#[49]⟩ else ⟨#[42]⟩ ++ s
def items (s : ByteArray) : Option (List Ditem) := if s = ByteArray.empty then some [] else if 40 < s.size then none else it (start s)
theorem items_nil {s : ByteArray} (h : s = ByteArray.empty) : items s = some [] := if_pos h
theorem items_far {s : ByteArray} (h : ¬ s = ByteArray.empty) (k : 40 < s.size) : items s = none := by unfold items; rw [if_neg h, if_pos k]
theorem items_is {s : ByteArray} (h : ¬ s = ByteArray.empty) (k : ¬ 40 < s.size) : items s = itA [] (start s) := by unfold items; rw [if_neg h, if_neg k, itA_nil]
theorem start_size {s : ByteArray} : (start s).size ≤ s.size + 1 := by
  unfold start; split
  · have := Dm.cpR_size (s := s) (p := ⟨#[49]⟩); omega
  · rw [ByteArray.size_append]; have : (⟨#[42]⟩ : ByteArray).size = 1 := rfl; omega
def addD (a b : List Int) (e : Int) : List Int := [a.getD 0 0 + b.getD 0 0 * e, a.getD 1 0 + b.getD 1 0 * e, a.getD 2 0 + b.getD 2 0 * e, a.getD 3 0 + b.getD 3 0 * e, a.getD 4 0 + b.getD 4 0 * e, a.getD 5 0 + b.getD 5 0 * e]
def acc : List Ditem → U → Option U
  | [], u => some u
  | x :: l, u => if (word x.word).isSome = true then acc l (addD u.1 ((word x.word).getD ([], 0)).1 x.exp, tm u.2 (fv (word x.word)) x.exp) else none
theorem acc_drop {l : List Ditem} {k : Nat} {u : U} (h : k < l.length) : acc (l.drop k) u = if (word (l.getD k default).word).isSome = true then acc (l.drop (k + 1)) (addD u.1 ((word (l.getD k default).word).getD ([], 0)).1 (l.getD k default).exp, tm u.2 (fv (word (l.getD k default).word)) (l.getD k default).exp) else none := by
  rw [List.drop_eq_getElem_cons h, acc]
  have : l.getD k default = l[k] := by simp [List.getD_eq_getElem?_getD, h]
  rw [this]
def fin (o : Option U) : Option U × Int := if o.isSome = true then (if Dm.Rt (o.getD ([], 0)).1 then (o, 0) else (none, 3)) else (none, 11)
def read (s : ByteArray) : Option U × Int := if (items s).isSome = true then fin (acc ((items s).getD []) ([0, 0, 0, 0, 0, 0], 1)) else (none, 12)
theorem read_syn {s : ByteArray} (h : ¬ (items s).isSome = true) : read s = (none, 12) := if_neg h
theorem read_nam {s : ByteArray} (h : (items s).isSome = true) (k : acc ((items s).getD []) ([0, 0, 0, 0, 0, 0], 1) = none) : read s = (none, 11) := by unfold read; rw [if_pos h, k]; rfl
theorem read_rng {s : ByteArray} {d : List Int} {r : Rat} (h : (items s).isSome = true) (k : acc ((items s).getD []) ([0, 0, 0, 0, 0, 0], 1) = some (d, r)) (hd : ¬ Dm.Rt d) : read s = (none, 3) := by unfold read fin; rw [if_pos h, k, if_pos (show (some (d, r)).isSome = true from rfl)]; exact if_neg hd
theorem read_ok {s : ByteArray} {d : List Int} {r : Rat} (h : (items s).isSome = true) (k : acc ((items s).getD []) ([0, 0, 0, 0, 0, 0], 1) = some (d, r)) (hd : Dm.Rt d) : read s = (some (d, r), 0) := by unfold read fin; rw [if_pos h, k, if_pos (show (some (d, r)).isSome = true from rfl)]; exact if_pos hd
def itOk (x : Ditem) : Prop := 0 < x.word.size ∧ -9 ≤ x.exp ∧ x.exp ≤ 9
theorem itm_ok {c : UInt8} {t : ByteArray} (h : 0 < nl t) : itOk (itm c t) := by
  have h1 := cuW_size t
  have h2 := cuE_rg t
  refine ⟨by show 0 < (cuW t).size; omega, ?_⟩
  show -9 ≤ (if (c.toNat : Int) = 47 then -cuE t else cuE t) ∧ (if (c.toNat : Int) = 47 then -cuE t else cuE t) ≤ 9
  split <;> omega
theorem it_ok : ∀ (n : Nat) (r : ByteArray) (l : List Ditem), itN n r = some l → l.length ≤ r.size ∧ ∀ x ∈ l, itOk x
  | 0, r, l, h => by obtain rfl := Option.some.inj h; exact ⟨by simp, fun x hx => by cases hx⟩
  | n + 1, r, l, h => by
    unfold itN at h
    split at h
    · obtain rfl := Option.some.inj h; exact ⟨by simp, fun x hx => by cases hx⟩
    · rename_i hne
      split at h
      · rename_i hg
        obtain ⟨m, hm, rfl⟩ := Option.map_eq_some_iff.1 h
        obtain ⟨h1, h2⟩ := it_ok n _ m hm
        have h3 := cuR_size (r.extract 1 r.size)
        rw [ByteArray.size_extract] at h3
        have hs := Dm.size_ne hne
        refine ⟨by simp; omega, fun x hx => ?_⟩
        rcases List.mem_cons.1 hx with rfl | hx
        · exact itm_ok hg.1
        · exact h2 x hx
      · cases h
theorem items_ok {s : ByteArray} {l : List Ditem} (h : items s = some l) : l.length ≤ 41 ∧ ∀ x ∈ l, itOk x := by
  unfold items at h
  split at h
  · obtain rfl := Option.some.inj h; exact ⟨by simp, fun x hx => by cases hx⟩
  · split at h
    · cases h
    · obtain ⟨h1, h2⟩ := it_ok _ _ l h
      have := start_size (s := s)
      exact ⟨by omega, h2⟩
theorem its {s : ByteArray} (h : (items s).isSome = true) : items s = some ((items s).getD []) := by
  obtain ⟨x, hx⟩ := Option.isSome_iff_exists.1 h
  rw [hx]; rfl
theorem mul27 {x e : Int} (h : -3 ≤ x ∧ x ≤ 3) (k : -9 ≤ e ∧ e ≤ 9) : -27 ≤ x * e ∧ x * e ≤ 27 := by
  have h1 : (x * e).natAbs ≤ 27 := by
    rw [Int.natAbs_mul]
    have : x.natAbs * e.natAbs ≤ 3 * 9 := Nat.mul_le_mul (by omega) (by omega)
    omega
  omega
def R27 (k o : Int) : Prop := -27 * k ≤ o ∧ o ≤ 27 * k
theorem R27.mul {x e n : Int} (h : -3 ≤ x ∧ x ≤ 3) (k : -9 ≤ e ∧ e ≤ 9) (hn : n = x * e) : R27 1 n := by
  have := mul27 h k
  unfold R27; omega
theorem R27.r64 {n : Int} (h : R27 1 n) : -9223372036854775808 ≤ n ∧ n ≤ 9223372036854775807 := by unfold R27 at h; omega
theorem R27.a64 {n o k : Int} (a : R27 k o) (h : R27 1 n) (hk : 0 ≤ k ∧ k ≤ 41) : -9223372036854775808 ≤ o + n ∧ o + n ≤ 9223372036854775807 := by unfold R27 at h a; omega
theorem R27.add {n o k : Int} (a : R27 k o) (h : R27 1 n) : R27 (k + 1) (o + n) := by unfold R27 at h a ⊢; omega
theorem R27.zero : R27 0 0 := by unfold R27; omega
theorem dv_rg {o : Option U} {k : Nat} (h : ∀ u, o = some u → ok u k) (i : Nat) : -3 ≤ dv o i ∧ dv o i ≤ 3 := by
  unfold dv
  cases o with
  | none => simp
  | some u =>
    obtain ⟨_, h2, _⟩ := h u rfl
    show -3 ≤ u.1.getD i 0 ∧ u.1.getD i 0 ≤ 3
    by_cases hi : i < u.1.length
    · rw [List.getD_eq_getElem?_getD, List.getElem?_eq_getElem hi]; exact h2 _ (List.getElem_mem hi)
    · rw [List.getD_eq_getElem?_getD, List.getElem?_eq_none (by omega)]; simp
theorem word_rg (w : ByteArray) (i : Nat) : -3 ≤ dv (word w) i ∧ dv (word w) i ≤ 3 := dv_rg (k := 4) (fun _ h => word_ok h) i
end Un

open Go Go.Proofs
set_option maxRecDepth 10000 in
theorem uof0_ct (exp p q : Int) (hp : -9223372036854775808 ≤ p ∧ p ≤ 9223372036854775807) (hq : -9223372036854775808 ≤ q ∧ q ≤ 9223372036854775807) (hq0 : q ≠ 0) :
    Ct Try.prog 116 #[iv 0, iv exp, iv p, iv q] [] [] (fun g => .agg #[iv exp, iv 0, iv 0, iv 0, iv 0, iv 0, iv (Fr.rS (q ≠ 0) (Rat.divInt p q)), ((g.ss 0)).v, iv (Fr.rT (q ≠ 0)), ((g.ss 1)).v]) (fun g => [fs true (Fr.rD (q ≠ 0) (Rat.divInt p q)) (g.ss 0), fs true (Fr.rE (q ≠ 0) (Rat.divInt p q)) (g.ss 1)]) (fun g => []) (fun g => []) := by
  refine V.fn mo Try.func116 22 2 (by kernel_rfl) fun w H ε k0 => ?_
  clear k0
  refine V.g [.nb 0 0 (fun b => pp b 0) 32 (fun _ => #[iv 0, iv 0, iv 0, iv 0, iv 0, iv 0, iv 0, .slice none 0 0, iv 0, .slice none 0 0])] fun _ _ G1 => ?_
  intro S_ s_
  refine V.g [.nb 0 1 (fun b => pp b 0) 32 (fun _ => #[iv 0, iv 0, iv 0, iv 0, iv 0, iv 0, iv 0, .slice none 0 0, iv 0, .slice none 0 0])] fun _ _ G2 => ?_
  intro S_ s_
  refine V.g [.k (iv 0),.k (iv exp),.k (pp ((G2 0).b) 0),.k (pp ((G2 0).b) 0),.st 1 (fun _ => .blk ((G2 0).b) #[iv exp, iv 0, iv 0, iv 0, iv 0, iv 0, iv 0, .slice none 0 0, iv 0, .slice none 0 0] 32)] fun _ _ G3 => ?_
  intro S_ s_
  refine nm (Fr.rS (q ≠ 0) (Rat.divInt p q) : Int) fun n1 hn1 => ?_
  refine nm (Fr.rD (q ≠ 0) (Rat.divInt p q) : List Int) fun l1 hl1 => ?_
  have hl1n := congrArg List.length hl1
  refine nm (Fr.rT (q ≠ 0) : Int) fun n2 hn2 => ?_
  refine nm (Fr.rE (q ≠ 0) (Rat.divInt p q) : List Int) fun l2 hl2 => ?_
  have hl2n := congrArg List.length hl2
  refine nm (if q = 0 then (15 : Int) else 0 : Int) fun n3 hn3 => ?_
  have zo := Fr.Fz.of hq0 hn1 hl1 hn2 hl2
  refine V.r [.k (iv p),.k (iv q),.ct g0 2 84 false [] [] [] (fun _ G => fof_ctv p q (by omega) (by omega) n1 hn1 l1 hl1 n2 hn2 l2 hl2 n3 hn3),.v fun G => .tuple #[ag (DFrac.mk (DBig.mk n1 ⟨l1, (G 2).ss 0⟩) (DBig.mk n2 ⟨l2, (G 2).ss 1⟩)), iv n3],.v fun G => ag (DFrac.mk (DBig.mk n1 ⟨l1, (G 2).ss 0⟩) (DBig.mk n2 ⟨l2, (G 2).ss 1⟩)),.k (iv n3),.k (pp ((G2 0).b) 6),.st 1 (fun G => .blk ((G2 0).b) #[iv exp, iv 0, iv 0, iv 0, iv 0, iv 0, iv n1, ((G 2).ss 0).v, iv n2, ((G 2).ss 1).v] 32)] fun _ _ G4 kw4 => ?_
  intro S_ s_
  obtain ⟨⟨kl1, -⟩, ⟨kl2, -⟩, -⟩ : Lq l1 (((G4 2).ss 0).v) ∧ Lq l2 (((G4 2).ss 1).v) ∧ True := kn kw4 (by kernel_rfl)
  clear kw4
  refine V.g [.ld 1 0 true (fun _ => [iv exp, iv 0, iv 0, iv 0, iv 0, iv 0, iv n1, ((G4 2).ss 0).v, iv n2, ((G4 2).ss 1).v]),.st 0 (fun _ => .blk ((G1 0).b) #[iv exp, iv 0, iv 0, iv 0, iv 0, iv 0, iv n1, ((G4 2).ss 0).v, iv n2, ((G4 2).ss 1).v] 32)] fun _ _ G5 => ?_
  intro S_ s_
  have e7 : l1 = Fr.rD (q ≠ 0) (Rat.divInt p q) := (Fr.Fz.ret zo hq0 rfl).2.1
  subst e7
  have e9 : l2 = Fr.rE (q ≠ 0) (Rat.divInt p q) := (Fr.Fz.ret zo hq0 rfl).2.2.2
  subst e9
  have e6 : n1 = Fr.rS (q ≠ 0) (Rat.divInt p q) := (Fr.Fz.ret zo hq0 rfl).1
  have e8 : n2 = Fr.rT (q ≠ 0) := (Fr.Fz.ret zo hq0 rfl).2.2.1
  exact V.ret [0] [(G4 2).ss 0, (G4 2).ss 1] [fun _ => {}, fun _ => {}] [] [0, 1] [] (.agg #[iv exp, iv 0, iv 0, iv 0, iv 0, iv 0, iv n1, ((G4 2).ss 0).v, iv n2, ((G4 2).ss 1).v]) (fun _ _ => by kernel_rfl) (fun _ _ => (Eq.trans (by kernel_rfl) (cong2 (fun (x6 : Int) (x8 : Int) => (.agg #[iv exp, iv 0, iv 0, iv 0, iv 0, iv 0, iv x6, ((G4 2).ss 0).v, iv x8, ((G4 2).ss 1).v] : Value)) e6 e8)).trans (by kernel_rfl)) (fun _ _ => trivial)
theorem uof0_ctv (exp p q : Int) (hp : -9223372036854775808 ≤ p ∧ p ≤ 9223372036854775807) (hq : -9223372036854775808 ≤ q ∧ q ≤ 9223372036854775807) (hq0 : q ≠ 0) (rv6 : Int) (erv6 : rv6 = Fr.rS (q ≠ 0) (Rat.divInt p q)) (rv7 : List Int) (erv7 : rv7 = Fr.rD (q ≠ 0) (Rat.divInt p q)) (rv8 : Int) (erv8 : rv8 = Fr.rT (q ≠ 0)) (rv9 : List Int) (erv9 : rv9 = Fr.rE (q ≠ 0) (Rat.divInt p q)) :
    Ct Try.prog 116 #[iv 0, iv exp, iv p, iv q] [] [] (fun g => .agg #[iv exp, iv 0, iv 0, iv 0, iv 0, iv 0, iv rv6, ((g.ss 0)).v, iv rv8, ((g.ss 1)).v]) (fun g => [fs true rv7 (g.ss 0), fs true rv9 (g.ss 1)]) (fun g => []) (fun g => []) := by
  subst erv6 erv7 erv8 erv9; exact uof0_ct exp p q hp hq hq0
set_option maxRecDepth 10000 in
theorem uof1_ct (exp p q : Int) (hp : -9223372036854775808 ≤ p ∧ p ≤ 9223372036854775807) (hq : -9223372036854775808 ≤ q ∧ q ≤ 9223372036854775807) (hq0 : q ≠ 0) :
    Ct Try.prog 116 #[iv 1, iv exp, iv p, iv q] [] [] (fun g => .agg #[iv 0, iv exp, iv 0, iv 0, iv 0, iv 0, iv (Fr.rS (q ≠ 0) (Rat.divInt p q)), ((g.ss 0)).v, iv (Fr.rT (q ≠ 0)), ((g.ss 1)).v]) (fun g => [fs true (Fr.rD (q ≠ 0) (Rat.divInt p q)) (g.ss 0), fs true (Fr.rE (q ≠ 0) (Rat.divInt p q)) (g.ss 1)]) (fun g => []) (fun g => []) := by
  refine V.fn mo Try.func116 22 2 (by kernel_rfl) fun w H ε k0 => ?_
  clear k0
  refine V.g [.nb 0 0 (fun b => pp b 0) 32 (fun _ => #[iv 0, iv 0, iv 0, iv 0, iv 0, iv 0, iv 0, .slice none 0 0, iv 0, .slice none 0 0])] fun _ _ G1 => ?_
  intro S_ s_
  refine V.g [.nb 0 1 (fun b => pp b 0) 32 (fun _ => #[iv 0, iv 0, iv 0, iv 0, iv 0, iv 0, iv 0, .slice none 0 0, iv 0, .slice none 0 0])] fun _ _ G2 => ?_
  intro S_ s_
  refine V.g [.k (iv 1),.k (iv exp),.k (pp ((G2 0).b) 0),.k (pp ((G2 0).b) 1),.st 1 (fun _ => .blk ((G2 0).b) #[iv 0, iv exp, iv 0, iv 0, iv 0, iv 0, iv 0, .slice none 0 0, iv 0, .slice none 0 0] 32)] fun _ _ G3 => ?_
  intro S_ s_
  refine nm (Fr.rS (q ≠ 0) (Rat.divInt p q) : Int) fun n1 hn1 => ?_
  refine nm (Fr.rD (q ≠ 0) (Rat.divInt p q) : List Int) fun l1 hl1 => ?_
  have hl1n := congrArg List.length hl1
  refine nm (Fr.rT (q ≠ 0) : Int) fun n2 hn2 => ?_
  refine nm (Fr.rE (q ≠ 0) (Rat.divInt p q) : List Int) fun l2 hl2 => ?_
  have hl2n := congrArg List.length hl2
  refine nm (if q = 0 then (15 : Int) else 0 : Int) fun n3 hn3 => ?_
  have zo := Fr.Fz.of hq0 hn1 hl1 hn2 hl2
  refine V.r [.k (iv p),.k (iv q),.ct g0 2 84 false [] [] [] (fun _ G => fof_ctv p q (by omega) (by omega) n1 hn1 l1 hl1 n2 hn2 l2 hl2 n3 hn3),.v fun G => .tuple #[ag (DFrac.mk (DBig.mk n1 ⟨l1, (G 2).ss 0⟩) (DBig.mk n2 ⟨l2, (G 2).ss 1⟩)), iv n3],.v fun G => ag (DFrac.mk (DBig.mk n1 ⟨l1, (G 2).ss 0⟩) (DBig.mk n2 ⟨l2, (G 2).ss 1⟩)),.k (iv n3),.k (pp ((G2 0).b) 6),.st 1 (fun G => .blk ((G2 0).b) #[iv 0, iv exp, iv 0, iv 0, iv 0, iv 0, iv n1, ((G 2).ss 0).v, iv n2, ((G 2).ss 1).v] 32)] fun _ _ G4 kw4 => ?_
  intro S_ s_
  obtain ⟨⟨kl1, -⟩, ⟨kl2, -⟩, -⟩ : Lq l1 (((G4 2).ss 0).v) ∧ Lq l2 (((G4 2).ss 1).v) ∧ True := kn kw4 (by kernel_rfl)
  clear kw4
  refine V.g [.ld 1 0 true (fun _ => [iv 0, iv exp, iv 0, iv 0, iv 0, iv 0, iv n1, ((G4 2).ss 0).v, iv n2, ((G4 2).ss 1).v]),.st 0 (fun _ => .blk ((G1 0).b) #[iv 0, iv exp, iv 0, iv 0, iv 0, iv 0, iv n1, ((G4 2).ss 0).v, iv n2, ((G4 2).ss 1).v] 32)] fun _ _ G5 => ?_
  intro S_ s_
  have e7 : l1 = Fr.rD (q ≠ 0) (Rat.divInt p q) := (Fr.Fz.ret zo hq0 rfl).2.1
  subst e7
  have e9 : l2 = Fr.rE (q ≠ 0) (Rat.divInt p q) := (Fr.Fz.ret zo hq0 rfl).2.2.2
  subst e9
  have e6 : n1 = Fr.rS (q ≠ 0) (Rat.divInt p q) := (Fr.Fz.ret zo hq0 rfl).1
  have e8 : n2 = Fr.rT (q ≠ 0) := (Fr.Fz.ret zo hq0 rfl).2.2.1
  exact V.ret [0] [(G4 2).ss 0, (G4 2).ss 1] [fun _ => {}, fun _ => {}] [] [0, 1] [] (.agg #[iv 0, iv exp, iv 0, iv 0, iv 0, iv 0, iv n1, ((G4 2).ss 0).v, iv n2, ((G4 2).ss 1).v]) (fun _ _ => by kernel_rfl) (fun _ _ => (Eq.trans (by kernel_rfl) (cong2 (fun (x6 : Int) (x8 : Int) => (.agg #[iv 0, iv exp, iv 0, iv 0, iv 0, iv 0, iv x6, ((G4 2).ss 0).v, iv x8, ((G4 2).ss 1).v] : Value)) e6 e8)).trans (by kernel_rfl)) (fun _ _ => trivial)
theorem uof1_ctv (exp p q : Int) (hp : -9223372036854775808 ≤ p ∧ p ≤ 9223372036854775807) (hq : -9223372036854775808 ≤ q ∧ q ≤ 9223372036854775807) (hq0 : q ≠ 0) (rv6 : Int) (erv6 : rv6 = Fr.rS (q ≠ 0) (Rat.divInt p q)) (rv7 : List Int) (erv7 : rv7 = Fr.rD (q ≠ 0) (Rat.divInt p q)) (rv8 : Int) (erv8 : rv8 = Fr.rT (q ≠ 0)) (rv9 : List Int) (erv9 : rv9 = Fr.rE (q ≠ 0) (Rat.divInt p q)) :
    Ct Try.prog 116 #[iv 1, iv exp, iv p, iv q] [] [] (fun g => .agg #[iv 0, iv exp, iv 0, iv 0, iv 0, iv 0, iv rv6, ((g.ss 0)).v, iv rv8, ((g.ss 1)).v]) (fun g => [fs true rv7 (g.ss 0), fs true rv9 (g.ss 1)]) (fun g => []) (fun g => []) := by
  subst erv6 erv7 erv8 erv9; exact uof1_ct exp p q hp hq hq0
set_option maxRecDepth 10000 in
theorem uof2_ct (exp p q : Int) (hp : -9223372036854775808 ≤ p ∧ p ≤ 9223372036854775807) (hq : -9223372036854775808 ≤ q ∧ q ≤ 9223372036854775807) (hq0 : q ≠ 0) :
    Ct Try.prog 116 #[iv 2, iv exp, iv p, iv q] [] [] (fun g => .agg #[iv 0, iv 0, iv exp, iv 0, iv 0, iv 0, iv (Fr.rS (q ≠ 0) (Rat.divInt p q)), ((g.ss 0)).v, iv (Fr.rT (q ≠ 0)), ((g.ss 1)).v]) (fun g => [fs true (Fr.rD (q ≠ 0) (Rat.divInt p q)) (g.ss 0), fs true (Fr.rE (q ≠ 0) (Rat.divInt p q)) (g.ss 1)]) (fun g => []) (fun g => []) := by
  refine V.fn mo Try.func116 22 2 (by kernel_rfl) fun w H ε k0 => ?_
  clear k0
  refine V.g [.nb 0 0 (fun b => pp b 0) 32 (fun _ => #[iv 0, iv 0, iv 0, iv 0, iv 0, iv 0, iv 0, .slice none 0 0, iv 0, .slice none 0 0])] fun _ _ G1 => ?_
  intro S_ s_
  refine V.g [.nb 0 1 (fun b => pp b 0) 32 (fun _ => #[iv 0, iv 0, iv 0, iv 0, iv 0, iv 0, iv 0, .slice none 0 0, iv 0, .slice none 0 0])] fun _ _ G2 => ?_
  intro S_ s_
  refine V.g [.k (iv 2),.k (iv exp),.k (pp ((G2 0).b) 0),.k (pp ((G2 0).b) 2),.st 1 (fun _ => .blk ((G2 0).b) #[iv 0, iv 0, iv exp, iv 0, iv 0, iv 0, iv 0, .slice none 0 0, iv 0, .slice none 0 0] 32)] fun _ _ G3 => ?_
  intro S_ s_
  refine nm (Fr.rS (q ≠ 0) (Rat.divInt p q) : Int) fun n1 hn1 => ?_
  refine nm (Fr.rD (q ≠ 0) (Rat.divInt p q) : List Int) fun l1 hl1 => ?_
  have hl1n := congrArg List.length hl1
  refine nm (Fr.rT (q ≠ 0) : Int) fun n2 hn2 => ?_
  refine nm (Fr.rE (q ≠ 0) (Rat.divInt p q) : List Int) fun l2 hl2 => ?_
  have hl2n := congrArg List.length hl2
  refine nm (if q = 0 then (15 : Int) else 0 : Int) fun n3 hn3 => ?_
  have zo := Fr.Fz.of hq0 hn1 hl1 hn2 hl2
  refine V.r [.k (iv p),.k (iv q),.ct g0 2 84 false [] [] [] (fun _ G => fof_ctv p q (by omega) (by omega) n1 hn1 l1 hl1 n2 hn2 l2 hl2 n3 hn3),.v fun G => .tuple #[ag (DFrac.mk (DBig.mk n1 ⟨l1, (G 2).ss 0⟩) (DBig.mk n2 ⟨l2, (G 2).ss 1⟩)), iv n3],.v fun G => ag (DFrac.mk (DBig.mk n1 ⟨l1, (G 2).ss 0⟩) (DBig.mk n2 ⟨l2, (G 2).ss 1⟩)),.k (iv n3),.k (pp ((G2 0).b) 6),.st 1 (fun G => .blk ((G2 0).b) #[iv 0, iv 0, iv exp, iv 0, iv 0, iv 0, iv n1, ((G 2).ss 0).v, iv n2, ((G 2).ss 1).v] 32)] fun _ _ G4 kw4 => ?_
  intro S_ s_
  obtain ⟨⟨kl1, -⟩, ⟨kl2, -⟩, -⟩ : Lq l1 (((G4 2).ss 0).v) ∧ Lq l2 (((G4 2).ss 1).v) ∧ True := kn kw4 (by kernel_rfl)
  clear kw4
  refine V.g [.ld 1 0 true (fun _ => [iv 0, iv 0, iv exp, iv 0, iv 0, iv 0, iv n1, ((G4 2).ss 0).v, iv n2, ((G4 2).ss 1).v]),.st 0 (fun _ => .blk ((G1 0).b) #[iv 0, iv 0, iv exp, iv 0, iv 0, iv 0, iv n1, ((G4 2).ss 0).v, iv n2, ((G4 2).ss 1).v] 32)] fun _ _ G5 => ?_
  intro S_ s_
  have e7 : l1 = Fr.rD (q ≠ 0) (Rat.divInt p q) := (Fr.Fz.ret zo hq0 rfl).2.1
  subst e7
  have e9 : l2 = Fr.rE (q ≠ 0) (Rat.divInt p q) := (Fr.Fz.ret zo hq0 rfl).2.2.2
  subst e9
  have e6 : n1 = Fr.rS (q ≠ 0) (Rat.divInt p q) := (Fr.Fz.ret zo hq0 rfl).1
  have e8 : n2 = Fr.rT (q ≠ 0) := (Fr.Fz.ret zo hq0 rfl).2.2.1
  exact V.ret [0] [(G4 2).ss 0, (G4 2).ss 1] [fun _ => {}, fun _ => {}] [] [0, 1] [] (.agg #[iv 0, iv 0, iv exp, iv 0, iv 0, iv 0, iv n1, ((G4 2).ss 0).v, iv n2, ((G4 2).ss 1).v]) (fun _ _ => by kernel_rfl) (fun _ _ => (Eq.trans (by kernel_rfl) (cong2 (fun (x6 : Int) (x8 : Int) => (.agg #[iv 0, iv 0, iv exp, iv 0, iv 0, iv 0, iv x6, ((G4 2).ss 0).v, iv x8, ((G4 2).ss 1).v] : Value)) e6 e8)).trans (by kernel_rfl)) (fun _ _ => trivial)
theorem uof2_ctv (exp p q : Int) (hp : -9223372036854775808 ≤ p ∧ p ≤ 9223372036854775807) (hq : -9223372036854775808 ≤ q ∧ q ≤ 9223372036854775807) (hq0 : q ≠ 0) (rv6 : Int) (erv6 : rv6 = Fr.rS (q ≠ 0) (Rat.divInt p q)) (rv7 : List Int) (erv7 : rv7 = Fr.rD (q ≠ 0) (Rat.divInt p q)) (rv8 : Int) (erv8 : rv8 = Fr.rT (q ≠ 0)) (rv9 : List Int) (erv9 : rv9 = Fr.rE (q ≠ 0) (Rat.divInt p q)) :
    Ct Try.prog 116 #[iv 2, iv exp, iv p, iv q] [] [] (fun g => .agg #[iv 0, iv 0, iv exp, iv 0, iv 0, iv 0, iv rv6, ((g.ss 0)).v, iv rv8, ((g.ss 1)).v]) (fun g => [fs true rv7 (g.ss 0), fs true rv9 (g.ss 1)]) (fun g => []) (fun g => []) := by
  subst erv6 erv7 erv8 erv9; exact uof2_ct exp p q hp hq hq0
set_option maxRecDepth 10000 in
theorem uof3_ct (exp p q : Int) (hp : -9223372036854775808 ≤ p ∧ p ≤ 9223372036854775807) (hq : -9223372036854775808 ≤ q ∧ q ≤ 9223372036854775807) (hq0 : q ≠ 0) :
    Ct Try.prog 116 #[iv 3, iv exp, iv p, iv q] [] [] (fun g => .agg #[iv 0, iv 0, iv 0, iv exp, iv 0, iv 0, iv (Fr.rS (q ≠ 0) (Rat.divInt p q)), ((g.ss 0)).v, iv (Fr.rT (q ≠ 0)), ((g.ss 1)).v]) (fun g => [fs true (Fr.rD (q ≠ 0) (Rat.divInt p q)) (g.ss 0), fs true (Fr.rE (q ≠ 0) (Rat.divInt p q)) (g.ss 1)]) (fun g => []) (fun g => []) := by
  refine V.fn mo Try.func116 22 2 (by kernel_rfl) fun w H ε k0 => ?_
  clear k0
  refine V.g [.nb 0 0 (fun b => pp b 0) 32 (fun _ => #[iv 0, iv 0, iv 0, iv 0, iv 0, iv 0, iv 0, .slice none 0 0, iv 0, .slice none 0 0])] fun _ _ G1 => ?_
  intro S_ s_
  refine V.g [.nb 0 1 (fun b => pp b 0) 32 (fun _ => #[iv 0, iv 0, iv 0, iv 0, iv 0, iv 0, iv 0, .slice none 0 0, iv 0, .slice none 0 0])] fun _ _ G2 => ?_
  intro S_ s_
  refine V.g [.k (iv 3),.k (iv exp),.k (pp ((G2 0).b) 0),.k (pp ((G2 0).b) 3),.st 1 (fun _ => .blk ((G2 0).b) #[iv 0, iv 0, iv 0, iv exp, iv 0, iv 0, iv 0, .slice none 0 0, iv 0, .slice none 0 0] 32)] fun _ _ G3 => ?_
  intro S_ s_
  refine nm (Fr.rS (q ≠ 0) (Rat.divInt p q) : Int) fun n1 hn1 => ?_
  refine nm (Fr.rD (q ≠ 0) (Rat.divInt p q) : List Int) fun l1 hl1 => ?_
  have hl1n := congrArg List.length hl1
  refine nm (Fr.rT (q ≠ 0) : Int) fun n2 hn2 => ?_
  refine nm (Fr.rE (q ≠ 0) (Rat.divInt p q) : List Int) fun l2 hl2 => ?_
  have hl2n := congrArg List.length hl2
  refine nm (if q = 0 then (15 : Int) else 0 : Int) fun n3 hn3 => ?_
  have zo := Fr.Fz.of hq0 hn1 hl1 hn2 hl2
  refine V.r [.k (iv p),.k (iv q),.ct g0 2 84 false [] [] [] (fun _ G => fof_ctv p q (by omega) (by omega) n1 hn1 l1 hl1 n2 hn2 l2 hl2 n3 hn3),.v fun G => .tuple #[ag (DFrac.mk (DBig.mk n1 ⟨l1, (G 2).ss 0⟩) (DBig.mk n2 ⟨l2, (G 2).ss 1⟩)), iv n3],.v fun G => ag (DFrac.mk (DBig.mk n1 ⟨l1, (G 2).ss 0⟩) (DBig.mk n2 ⟨l2, (G 2).ss 1⟩)),.k (iv n3),.k (pp ((G2 0).b) 6),.st 1 (fun G => .blk ((G2 0).b) #[iv 0, iv 0, iv 0, iv exp, iv 0, iv 0, iv n1, ((G 2).ss 0).v, iv n2, ((G 2).ss 1).v] 32)] fun _ _ G4 kw4 => ?_
  intro S_ s_
  obtain ⟨⟨kl1, -⟩, ⟨kl2, -⟩, -⟩ : Lq l1 (((G4 2).ss 0).v) ∧ Lq l2 (((G4 2).ss 1).v) ∧ True := kn kw4 (by kernel_rfl)
  clear kw4
  refine V.g [.ld 1 0 true (fun _ => [iv 0, iv 0, iv 0, iv exp, iv 0, iv 0, iv n1, ((G4 2).ss 0).v, iv n2, ((G4 2).ss 1).v]),.st 0 (fun _ => .blk ((G1 0).b) #[iv 0, iv 0, iv 0, iv exp, iv 0, iv 0, iv n1, ((G4 2).ss 0).v, iv n2, ((G4 2).ss 1).v] 32)] fun _ _ G5 => ?_
  intro S_ s_
  have e7 : l1 = Fr.rD (q ≠ 0) (Rat.divInt p q) := (Fr.Fz.ret zo hq0 rfl).2.1
  subst e7
  have e9 : l2 = Fr.rE (q ≠ 0) (Rat.divInt p q) := (Fr.Fz.ret zo hq0 rfl).2.2.2
  subst e9
  have e6 : n1 = Fr.rS (q ≠ 0) (Rat.divInt p q) := (Fr.Fz.ret zo hq0 rfl).1
  have e8 : n2 = Fr.rT (q ≠ 0) := (Fr.Fz.ret zo hq0 rfl).2.2.1
  exact V.ret [0] [(G4 2).ss 0, (G4 2).ss 1] [fun _ => {}, fun _ => {}] [] [0, 1] [] (.agg #[iv 0, iv 0, iv 0, iv exp, iv 0, iv 0, iv n1, ((G4 2).ss 0).v, iv n2, ((G4 2).ss 1).v]) (fun _ _ => by kernel_rfl) (fun _ _ => (Eq.trans (by kernel_rfl) (cong2 (fun (x6 : Int) (x8 : Int) => (.agg #[iv 0, iv 0, iv 0, iv exp, iv 0, iv 0, iv x6, ((G4 2).ss 0).v, iv x8, ((G4 2).ss 1).v] : Value)) e6 e8)).trans (by kernel_rfl)) (fun _ _ => trivial)
theorem uof3_ctv (exp p q : Int) (hp : -9223372036854775808 ≤ p ∧ p ≤ 9223372036854775807) (hq : -9223372036854775808 ≤ q ∧ q ≤ 9223372036854775807) (hq0 : q ≠ 0) (rv6 : Int) (erv6 : rv6 = Fr.rS (q ≠ 0) (Rat.divInt p q)) (rv7 : List Int) (erv7 : rv7 = Fr.rD (q ≠ 0) (Rat.divInt p q)) (rv8 : Int) (erv8 : rv8 = Fr.rT (q ≠ 0)) (rv9 : List Int) (erv9 : rv9 = Fr.rE (q ≠ 0) (Rat.divInt p q)) :
    Ct Try.prog 116 #[iv 3, iv exp, iv p, iv q] [] [] (fun g => .agg #[iv 0, iv 0, iv 0, iv exp, iv 0, iv 0, iv rv6, ((g.ss 0)).v, iv rv8, ((g.ss 1)).v]) (fun g => [fs true rv7 (g.ss 0), fs true rv9 (g.ss 1)]) (fun g => []) (fun g => []) := by
  subst erv6 erv7 erv8 erv9; exact uof3_ct exp p q hp hq hq0
set_option maxRecDepth 10000 in
theorem uof4_ct (exp p q : Int) (hp : -9223372036854775808 ≤ p ∧ p ≤ 9223372036854775807) (hq : -9223372036854775808 ≤ q ∧ q ≤ 9223372036854775807) (hq0 : q ≠ 0) :
    Ct Try.prog 116 #[iv 4, iv exp, iv p, iv q] [] [] (fun g => .agg #[iv 0, iv 0, iv 0, iv 0, iv exp, iv 0, iv (Fr.rS (q ≠ 0) (Rat.divInt p q)), ((g.ss 0)).v, iv (Fr.rT (q ≠ 0)), ((g.ss 1)).v]) (fun g => [fs true (Fr.rD (q ≠ 0) (Rat.divInt p q)) (g.ss 0), fs true (Fr.rE (q ≠ 0) (Rat.divInt p q)) (g.ss 1)]) (fun g => []) (fun g => []) := by
  refine V.fn mo Try.func116 22 2 (by kernel_rfl) fun w H ε k0 => ?_
  clear k0
  refine V.g [.nb 0 0 (fun b => pp b 0) 32 (fun _ => #[iv 0, iv 0, iv 0, iv 0, iv 0, iv 0, iv 0, .slice none 0 0, iv 0, .slice none 0 0])] fun _ _ G1 => ?_
  intro S_ s_
  refine V.g [.nb 0 1 (fun b => pp b 0) 32 (fun _ => #[iv 0, iv 0, iv 0, iv 0, iv 0, iv 0, iv 0, .slice none 0 0, iv 0, .slice none 0 0])] fun _ _ G2 => ?_
  intro S_ s_
  refine V.g [.k (iv 4),.k (iv exp),.k (pp ((G2 0).b) 0),.k (pp ((G2 0).b) 4),.st 1 (fun _ => .blk ((G2 0).b) #[iv 0, iv 0, iv 0, iv 0, iv exp, iv 0, iv 0, .slice none 0 0, iv 0, .slice none 0 0] 32)] fun _ _ G3 => ?_
  intro S_ s_
  refine nm (Fr.rS (q ≠ 0) (Rat.divInt p q) : Int) fun n1 hn1 => ?_
  refine nm (Fr.rD (q ≠ 0) (Rat.divInt p q) : List Int) fun l1 hl1 => ?_
  have hl1n := congrArg List.length hl1
  refine nm (Fr.rT (q ≠ 0) : Int) fun n2 hn2 => ?_
  refine nm (Fr.rE (q ≠ 0) (Rat.divInt p q) : List Int) fun l2 hl2 => ?_
  have hl2n := congrArg List.length hl2
  refine nm (if q = 0 then (15 : Int) else 0 : Int) fun n3 hn3 => ?_
  have zo := Fr.Fz.of hq0 hn1 hl1 hn2 hl2
  refine V.r [.k (iv p),.k (iv q),.ct g0 2 84 false [] [] [] (fun _ G => fof_ctv p q (by omega) (by omega) n1 hn1 l1 hl1 n2 hn2 l2 hl2 n3 hn3),.v fun G => .tuple #[ag (DFrac.mk (DBig.mk n1 ⟨l1, (G 2).ss 0⟩) (DBig.mk n2 ⟨l2, (G 2).ss 1⟩)), iv n3],.v fun G => ag (DFrac.mk (DBig.mk n1 ⟨l1, (G 2).ss 0⟩) (DBig.mk n2 ⟨l2, (G 2).ss 1⟩)),.k (iv n3),.k (pp ((G2 0).b) 6),.st 1 (fun G => .blk ((G2 0).b) #[iv 0, iv 0, iv 0, iv 0, iv exp, iv 0, iv n1, ((G 2).ss 0).v, iv n2, ((G 2).ss 1).v] 32)] fun _ _ G4 kw4 => ?_
  intro S_ s_
  obtain ⟨⟨kl1, -⟩, ⟨kl2, -⟩, -⟩ : Lq l1 (((G4 2).ss 0).v) ∧ Lq l2 (((G4 2).ss 1).v) ∧ True := kn kw4 (by kernel_rfl)
  clear kw4
  refine V.g [.ld 1 0 true (fun _ => [iv 0, iv 0, iv 0, iv 0, iv exp, iv 0, iv n1, ((G4 2).ss 0).v, iv n2, ((G4 2).ss 1).v]),.st 0 (fun _ => .blk ((G1 0).b) #[iv 0, iv 0, iv 0, iv 0, iv exp, iv 0, iv n1, ((G4 2).ss 0).v, iv n2, ((G4 2).ss 1).v] 32)] fun _ _ G5 => ?_
  intro S_ s_
  have e7 : l1 = Fr.rD (q ≠ 0) (Rat.divInt p q) := (Fr.Fz.ret zo hq0 rfl).2.1
  subst e7
  have e9 : l2 = Fr.rE (q ≠ 0) (Rat.divInt p q) := (Fr.Fz.ret zo hq0 rfl).2.2.2
  subst e9
  have e6 : n1 = Fr.rS (q ≠ 0) (Rat.divInt p q) := (Fr.Fz.ret zo hq0 rfl).1
  have e8 : n2 = Fr.rT (q ≠ 0) := (Fr.Fz.ret zo hq0 rfl).2.2.1
  exact V.ret [0] [(G4 2).ss 0, (G4 2).ss 1] [fun _ => {}, fun _ => {}] [] [0, 1] [] (.agg #[iv 0, iv 0, iv 0, iv 0, iv exp, iv 0, iv n1, ((G4 2).ss 0).v, iv n2, ((G4 2).ss 1).v]) (fun _ _ => by kernel_rfl) (fun _ _ => (Eq.trans (by kernel_rfl) (cong2 (fun (x6 : Int) (x8 : Int) => (.agg #[iv 0, iv 0, iv 0, iv 0, iv exp, iv 0, iv x6, ((G4 2).ss 0).v, iv x8, ((G4 2).ss 1).v] : Value)) e6 e8)).trans (by kernel_rfl)) (fun _ _ => trivial)
theorem uof4_ctv (exp p q : Int) (hp : -9223372036854775808 ≤ p ∧ p ≤ 9223372036854775807) (hq : -9223372036854775808 ≤ q ∧ q ≤ 9223372036854775807) (hq0 : q ≠ 0) (rv6 : Int) (erv6 : rv6 = Fr.rS (q ≠ 0) (Rat.divInt p q)) (rv7 : List Int) (erv7 : rv7 = Fr.rD (q ≠ 0) (Rat.divInt p q)) (rv8 : Int) (erv8 : rv8 = Fr.rT (q ≠ 0)) (rv9 : List Int) (erv9 : rv9 = Fr.rE (q ≠ 0) (Rat.divInt p q)) :
    Ct Try.prog 116 #[iv 4, iv exp, iv p, iv q] [] [] (fun g => .agg #[iv 0, iv 0, iv 0, iv 0, iv exp, iv 0, iv rv6, ((g.ss 0)).v, iv rv8, ((g.ss 1)).v]) (fun g => [fs true rv7 (g.ss 0), fs true rv9 (g.ss 1)]) (fun g => []) (fun g => []) := by
  subst erv6 erv7 erv8 erv9; exact uof4_ct exp p q hp hq hq0
set_option maxRecDepth 10000 in
theorem uof5_ct (exp p q : Int) (hp : -9223372036854775808 ≤ p ∧ p ≤ 9223372036854775807) (hq : -9223372036854775808 ≤ q ∧ q ≤ 9223372036854775807) (hq0 : q ≠ 0) :
    Ct Try.prog 116 #[iv 5, iv exp, iv p, iv q] [] [] (fun g => .agg #[iv 0, iv 0, iv 0, iv 0, iv 0, iv exp, iv (Fr.rS (q ≠ 0) (Rat.divInt p q)), ((g.ss 0)).v, iv (Fr.rT (q ≠ 0)), ((g.ss 1)).v]) (fun g => [fs true (Fr.rD (q ≠ 0) (Rat.divInt p q)) (g.ss 0), fs true (Fr.rE (q ≠ 0) (Rat.divInt p q)) (g.ss 1)]) (fun g => []) (fun g => []) := by
  refine V.fn mo Try.func116 22 2 (by kernel_rfl) fun w H ε k0 => ?_
  clear k0
  refine V.g [.nb 0 0 (fun b => pp b 0) 32 (fun _ => #[iv 0, iv 0, iv 0, iv 0, iv 0, iv 0, iv 0, .slice none 0 0, iv 0, .slice none 0 0])] fun _ _ G1 => ?_
  intro S_ s_
  refine V.g [.nb 0 1 (fun b => pp b 0) 32 (fun _ => #[iv 0, iv 0, iv 0, iv 0, iv 0, iv 0, iv 0, .slice none 0 0, iv 0, .slice none 0 0])] fun _ _ G2 => ?_
  intro S_ s_
  refine V.g [.k (iv 5),.k (iv exp),.k (pp ((G2 0).b) 0),.k (pp ((G2 0).b) 5),.st 1 (fun _ => .blk ((G2 0).b) #[iv 0, iv 0, iv 0, iv 0, iv 0, iv exp, iv 0, .slice none 0 0, iv 0, .slice none 0 0] 32)] fun _ _ G3 => ?_
  intro S_ s_
  refine nm (Fr.rS (q ≠ 0) (Rat.divInt p q) : Int) fun n1 hn1 => ?_
  refine nm (Fr.rD (q ≠ 0) (Rat.divInt p q) : List Int) fun l1 hl1 => ?_
  have hl1n := congrArg List.length hl1
  refine nm (Fr.rT (q ≠ 0) : Int) fun n2 hn2 => ?_
  refine nm (Fr.rE (q ≠ 0) (Rat.divInt p q) : List Int) fun l2 hl2 => ?_
  have hl2n := congrArg List.length hl2
  refine nm (if q = 0 then (15 : Int) else 0 : Int) fun n3 hn3 => ?_
  have zo := Fr.Fz.of hq0 hn1 hl1 hn2 hl2
  refine V.r [.k (iv p),.k (iv q),.ct g0 2 84 false [] [] [] (fun _ G => fof_ctv p q (by omega) (by omega) n1 hn1 l1 hl1 n2 hn2 l2 hl2 n3 hn3),.v fun G => .tuple #[ag (DFrac.mk (DBig.mk n1 ⟨l1, (G 2).ss 0⟩) (DBig.mk n2 ⟨l2, (G 2).ss 1⟩)), iv n3],.v fun G => ag (DFrac.mk (DBig.mk n1 ⟨l1, (G 2).ss 0⟩) (DBig.mk n2 ⟨l2, (G 2).ss 1⟩)),.k (iv n3),.k (pp ((G2 0).b) 6),.st 1 (fun G => .blk ((G2 0).b) #[iv 0, iv 0, iv 0, iv 0, iv 0, iv exp, iv n1, ((G 2).ss 0).v, iv n2, ((G 2).ss 1).v] 32)] fun _ _ G4 kw4 => ?_
  intro S_ s_
  obtain ⟨⟨kl1, -⟩, ⟨kl2, -⟩, -⟩ : Lq l1 (((G4 2).ss 0).v) ∧ Lq l2 (((G4 2).ss 1).v) ∧ True := kn kw4 (by kernel_rfl)
  clear kw4
  refine V.g [.ld 1 0 true (fun _ => [iv 0, iv 0, iv 0, iv 0, iv 0, iv exp, iv n1, ((G4 2).ss 0).v, iv n2, ((G4 2).ss 1).v]),.st 0 (fun _ => .blk ((G1 0).b) #[iv 0, iv 0, iv 0, iv 0, iv 0, iv exp, iv n1, ((G4 2).ss 0).v, iv n2, ((G4 2).ss 1).v] 32)] fun _ _ G5 => ?_
  intro S_ s_
  have e7 : l1 = Fr.rD (q ≠ 0) (Rat.divInt p q) := (Fr.Fz.ret zo hq0 rfl).2.1
  subst e7
  have e9 : l2 = Fr.rE (q ≠ 0) (Rat.divInt p q) := (Fr.Fz.ret zo hq0 rfl).2.2.2
  subst e9
  have e6 : n1 = Fr.rS (q ≠ 0) (Rat.divInt p q) := (Fr.Fz.ret zo hq0 rfl).1
  have e8 : n2 = Fr.rT (q ≠ 0) := (Fr.Fz.ret zo hq0 rfl).2.2.1
  exact V.ret [0] [(G4 2).ss 0, (G4 2).ss 1] [fun _ => {}, fun _ => {}] [] [0, 1] [] (.agg #[iv 0, iv 0, iv 0, iv 0, iv 0, iv exp, iv n1, ((G4 2).ss 0).v, iv n2, ((G4 2).ss 1).v]) (fun _ _ => by kernel_rfl) (fun _ _ => (Eq.trans (by kernel_rfl) (cong2 (fun (x6 : Int) (x8 : Int) => (.agg #[iv 0, iv 0, iv 0, iv 0, iv 0, iv exp, iv x6, ((G4 2).ss 0).v, iv x8, ((G4 2).ss 1).v] : Value)) e6 e8)).trans (by kernel_rfl)) (fun _ _ => trivial)
theorem uof5_ctv (exp p q : Int) (hp : -9223372036854775808 ≤ p ∧ p ≤ 9223372036854775807) (hq : -9223372036854775808 ≤ q ∧ q ≤ 9223372036854775807) (hq0 : q ≠ 0) (rv6 : Int) (erv6 : rv6 = Fr.rS (q ≠ 0) (Rat.divInt p q)) (rv7 : List Int) (erv7 : rv7 = Fr.rD (q ≠ 0) (Rat.divInt p q)) (rv8 : Int) (erv8 : rv8 = Fr.rT (q ≠ 0)) (rv9 : List Int) (erv9 : rv9 = Fr.rE (q ≠ 0) (Rat.divInt p q)) :
    Ct Try.prog 116 #[iv 5, iv exp, iv p, iv q] [] [] (fun g => .agg #[iv 0, iv 0, iv 0, iv 0, iv 0, iv exp, iv rv6, ((g.ss 0)).v, iv rv8, ((g.ss 1)).v]) (fun g => [fs true rv7 (g.ss 0), fs true rv9 (g.ss 1)]) (fun g => []) (fun g => []) := by
  subst erv6 erv7 erv8 erv9; exact uof5_ct exp p q hp hq hq0
set_option maxRecDepth 10000 in
theorem usym_ct (s : ByteArray) :
    Ct Try.prog 81 #[tv s] [] [] (fun g => .tuple #[.agg #[iv (Un.dv (Un.sym s) 0), iv (Un.dv (Un.sym s) 1), iv (Un.dv (Un.sym s) 2), iv (Un.dv (Un.sym s) 3), iv (Un.dv (Un.sym s) 4), iv (Un.dv (Un.sym s) 5), iv (Fr.rS ((Un.sym s).isSome = true) (Un.fv (Un.sym s))), ((g.ss 0)).v, iv (Fr.rT ((Un.sym s).isSome = true)), ((g.ss 1)).v], bv ((Un.sym s).isSome)]) (fun g => [fs true (Fr.rD ((Un.sym s).isSome = true) (Un.fv (Un.sym s))) (g.ss 0), fs true (Fr.rE ((Un.sym s).isSome = true) (Un.fv (Un.sym s))) (g.ss 1)]) (fun g => []) (fun g => []) := by
  refine V.fn mo Try.func81 42 1 (by kernel_rfl) fun w H ε k0 => ?_
  clear k0
  refine V.g [.nb 0 0 (fun b => pp b 0) 32 (fun _ => #[iv 0, iv 0, iv 0, iv 0, iv 0, iv 0, iv 0, .slice none 0 0, iv 0, .slice none 0 0]),.kb false] fun _ _ G1 => ?_
  intro S_ s_
  refine V.g [.k (tv s)] fun _ _ G2 => ?_
  intro S_ s_
  refine V.g [.seq s ⟨#[103]⟩,.k (bv (decide (s = ⟨#[103]⟩)))] fun _ _ G3 => ?_
  intro S_ s_
  refine V.cond (b := decide (s = ⟨#[103]⟩)) iDT iDF (by kernel_rfl) (fun q1 => ?_) (fun q2 => ?_)
  · have hsy : Un.sym s = some ([1, 0, 0, 0, 0, 0], Rat.divInt 1 1) := by rw [q1]; kernel_rfl
    refine nm (Fr.rS ((1 : Int) ≠ 0) (Rat.divInt (1 : Int) (1 : Int)) : Int) fun n1 hn1 => ?_
    refine nm (Fr.rD ((1 : Int) ≠ 0) (Rat.divInt (1 : Int) (1 : Int)) : List Int) fun l1 hl1 => ?_
    have hl1n := congrArg List.length hl1
    refine nm (Fr.rT ((1 : Int) ≠ 0) : Int) fun n2 hn2 => ?_
    refine nm (Fr.rE ((1 : Int) ≠ 0) (Rat.divInt (1 : Int) (1 : Int)) : List Int) fun l2 hl2 => ?_
    have hl2n := congrArg List.length hl2
    refine V.r [.ct g0 0 116 false [] [] [] (fun _ G => uof0_ctv (1 : Int) (1 : Int) (1 : Int) (by omega) (by omega) (by omega) n1 hn1 l1 hl1 n2 hn2 l2 hl2),.st 0 (fun G => .blk ((G1 0).b) #[iv (1 : Int), iv 0, iv 0, iv 0, iv 0, iv 0, iv n1, ((G 0).ss 0).v, iv n2, ((G 0).ss 1).v] 32),.kb true] fun _ _ G4 kw4 => ?_
    intro S_ s_
    obtain ⟨⟨kl1, -⟩, ⟨kl2, -⟩, -⟩ : Lq l1 (((G4 0).ss 0).v) ∧ Lq l2 (((G4 0).ss 1).v) ∧ True := kn kw4 (by kernel_rfl)
    clear kw4
    have e7 : l1 = Fr.rD ((Un.sym s).isSome = true) (Un.fv (Un.sym s)) := (Fr.Fz.ret (Fr.Fz.of (by decide) hn1 hl1 hn2 hl2) (Un.is_s hsy) (Un.fv_s hsy).symm).2.1
    subst e7
    have e9 : l2 = Fr.rE ((Un.sym s).isSome = true) (Un.fv (Un.sym s)) := (Fr.Fz.ret (Fr.Fz.of (by decide) hn1 hl1 hn2 hl2) (Un.is_s hsy) (Un.fv_s hsy).symm).2.2.2
    subst e9
    have e0 : (1 : Int) = Un.dv (Un.sym s) 0 := (Un.dv_s hsy 0).symm
    have e1 : (0 : Int) = Un.dv (Un.sym s) 1 := (Un.dv_s hsy 1).symm
    have e2 : (0 : Int) = Un.dv (Un.sym s) 2 := (Un.dv_s hsy 2).symm
    have e3 : (0 : Int) = Un.dv (Un.sym s) 3 := (Un.dv_s hsy 3).symm
    have e4 : (0 : Int) = Un.dv (Un.sym s) 4 := (Un.dv_s hsy 4).symm
    have e5 : (0 : Int) = Un.dv (Un.sym s) 5 := (Un.dv_s hsy 5).symm
    have e6 : n1 = Fr.rS ((Un.sym s).isSome = true) (Un.fv (Un.sym s)) := (Fr.Fz.ret (Fr.Fz.of (by decide) hn1 hl1 hn2 hl2) (Un.is_s hsy) (Un.fv_s hsy).symm).1
    have e8 : n2 = Fr.rT ((Un.sym s).isSome = true) := (Fr.Fz.ret (Fr.Fz.of (by decide) hn1 hl1 hn2 hl2) (Un.is_s hsy) (Un.fv_s hsy).symm).2.2.1
    have e10 : true = (Un.sym s).isSome := by rw [hsy]; rfl
    exact V.ret [0, 0] [(G4 0).ss 0, (G4 0).ss 1] [fun _ => {}, fun _ => {}] [] [0, 1] [] (.tuple #[.agg #[iv (1 : Int), iv 0, iv 0, iv 0, iv 0, iv 0, iv n1, ((G4 0).ss 0).v, iv n2, ((G4 0).ss 1).v], bv true]) (fun _ _ => by kernel_rfl) (fun _ _ => (Eq.trans (by kernel_rfl) (cong9 (fun (x0 : Int) (x1 : Int) (x2 : Int) (x3 : Int) (x4 : Int) (x5 : Int) (x6 : Int) (x8 : Int) (x10 : Bool) => (.tuple #[.agg #[iv x0, iv x1, iv x2, iv x3, iv x4, iv x5, iv x6, ((G4 0).ss 0).v, iv x8, ((G4 0).ss 1).v], bv x10] : Value)) e0 e1 e2 e3 e4 e5 e6 e8 e10)).trans (by kernel_rfl)) (fun _ _ => trivial)
  have hsn0 : ¬ s = ⟨#[103]⟩ := q2
  refine V.g [.seq s ⟨#[116]⟩,.k (bv (decide (s = ⟨#[116]⟩)))] fun _ _ G5 => ?_
  intro S_ s_
  refine V.cond (b := decide (s = ⟨#[116]⟩)) iDT iDF (by kernel_rfl) (fun q3 => ?_) (fun q4 => ?_)
  · have hsy : Un.sym s = some ([1, 0, 0, 0, 0, 0], Rat.divInt 1000000 1) := by rw [q3]; kernel_rfl
    refine nm (Fr.rS ((1 : Int) ≠ 0) (Rat.divInt (1000000 : Int) (1 : Int)) : Int) fun n3 hn3 => ?_
    refine nm (Fr.rD ((1 : Int) ≠ 0) (Rat.divInt (1000000 : Int) (1 : Int)) : List Int) fun l3 hl3 => ?_
    have hl3n := congrArg List.length hl3
    refine nm (Fr.rT ((1 : Int) ≠ 0) : Int) fun n4 hn4 => ?_
    refine nm (Fr.rE ((1 : Int) ≠ 0) (Rat.divInt (1000000 : Int) (1 : Int)) : List Int) fun l4 hl4 => ?_
    have hl4n := congrArg List.length hl4
    refine V.r [.ct g0 0 116 false [] [] [] (fun _ G => uof0_ctv (1 : Int) (1000000 : Int) (1 : Int) (by omega) (by omega) (by omega) n3 hn3 l3 hl3 n4 hn4 l4 hl4),.st 0 (fun G => .blk ((G1 0).b) #[iv (1 : Int), iv 0, iv 0, iv 0, iv 0, iv 0, iv n3, ((G 0).ss 0).v, iv n4, ((G 0).ss 1).v] 32),.kb true] fun _ _ G6 kw6 => ?_
    intro S_ s_
    obtain ⟨⟨kl3, -⟩, ⟨kl4, -⟩, -⟩ : Lq l3 (((G6 0).ss 0).v) ∧ Lq l4 (((G6 0).ss 1).v) ∧ True := kn kw6 (by kernel_rfl)
    clear kw6
    have e7 : l3 = Fr.rD ((Un.sym s).isSome = true) (Un.fv (Un.sym s)) := (Fr.Fz.ret (Fr.Fz.of (by decide) hn3 hl3 hn4 hl4) (Un.is_s hsy) (Un.fv_s hsy).symm).2.1
    subst e7
    have e9 : l4 = Fr.rE ((Un.sym s).isSome = true) (Un.fv (Un.sym s)) := (Fr.Fz.ret (Fr.Fz.of (by decide) hn3 hl3 hn4 hl4) (Un.is_s hsy) (Un.fv_s hsy).symm).2.2.2
    subst e9
    have e0 : (1 : Int) = Un.dv (Un.sym s) 0 := (Un.dv_s hsy 0).symm
    have e1 : (0 : Int) = Un.dv (Un.sym s) 1 := (Un.dv_s hsy 1).symm
    have e2 : (0 : Int) = Un.dv (Un.sym s) 2 := (Un.dv_s hsy 2).symm
    have e3 : (0 : Int) = Un.dv (Un.sym s) 3 := (Un.dv_s hsy 3).symm
    have e4 : (0 : Int) = Un.dv (Un.sym s) 4 := (Un.dv_s hsy 4).symm
    have e5 : (0 : Int) = Un.dv (Un.sym s) 5 := (Un.dv_s hsy 5).symm
    have e6 : n3 = Fr.rS ((Un.sym s).isSome = true) (Un.fv (Un.sym s)) := (Fr.Fz.ret (Fr.Fz.of (by decide) hn3 hl3 hn4 hl4) (Un.is_s hsy) (Un.fv_s hsy).symm).1
    have e8 : n4 = Fr.rT ((Un.sym s).isSome = true) := (Fr.Fz.ret (Fr.Fz.of (by decide) hn3 hl3 hn4 hl4) (Un.is_s hsy) (Un.fv_s hsy).symm).2.2.1
    have e10 : true = (Un.sym s).isSome := by rw [hsy]; rfl
    exact V.ret [0, 0] [(G6 0).ss 0, (G6 0).ss 1] [fun _ => {}, fun _ => {}] [] [0, 1] [] (.tuple #[.agg #[iv (1 : Int), iv 0, iv 0, iv 0, iv 0, iv 0, iv n3, ((G6 0).ss 0).v, iv n4, ((G6 0).ss 1).v], bv true]) (fun _ _ => by kernel_rfl) (fun _ _ => (Eq.trans (by kernel_rfl) (cong9 (fun (x0 : Int) (x1 : Int) (x2 : Int) (x3 : Int) (x4 : Int) (x5 : Int) (x6 : Int) (x8 : Int) (x10 : Bool) => (.tuple #[.agg #[iv x0, iv x1, iv x2, iv x3, iv x4, iv x5, iv x6, ((G6 0).ss 0).v, iv x8, ((G6 0).ss 1).v], bv x10] : Value)) e0 e1 e2 e3 e4 e5 e6 e8 e10)).trans (by kernel_rfl)) (fun _ _ => trivial)
  have hsn1 : ¬ s = ⟨#[116]⟩ := q4
  refine V.g [.seq s ⟨#[109]⟩,.k (bv (decide (s = ⟨#[109]⟩)))] fun _ _ G7 => ?_
  intro S_ s_
  refine V.cond (b := decide (s = ⟨#[109]⟩)) iDT iDF (by kernel_rfl) (fun q5 => ?_) (fun q6 => ?_)
  · have hsy : Un.sym s = some ([0, 1, 0, 0, 0, 0], Rat.divInt 1 1) := by rw [q5]; kernel_rfl
    refine nm (Fr.rS ((1 : Int) ≠ 0) (Rat.divInt (1 : Int) (1 : Int)) : Int) fun n5 hn5 => ?_
    refine nm (Fr.rD ((1 : Int) ≠ 0) (Rat.divInt (1 : Int) (1 : Int)) : List Int) fun l5 hl5 => ?_
    have hl5n := congrArg List.length hl5
    refine nm (Fr.rT ((1 : Int) ≠ 0) : Int) fun n6 hn6 => ?_
    refine nm (Fr.rE ((1 : Int) ≠ 0) (Rat.divInt (1 : Int) (1 : Int)) : List Int) fun l6 hl6 => ?_
    have hl6n := congrArg List.length hl6
    refine V.r [.ct g0 0 116 false [] [] [] (fun _ G => uof1_ctv (1 : Int) (1 : Int) (1 : Int) (by omega) (by omega) (by omega) n5 hn5 l5 hl5 n6 hn6 l6 hl6),.st 0 (fun G => .blk ((G1 0).b) #[iv 0, iv (1 : Int), iv 0, iv 0, iv 0, iv 0, iv n5, ((G 0).ss 0).v, iv n6, ((G 0).ss 1).v] 32),.kb true] fun _ _ G8 kw8 => ?_
    intro S_ s_
    obtain ⟨⟨kl5, -⟩, ⟨kl6, -⟩, -⟩ : Lq l5 (((G8 0).ss 0).v) ∧ Lq l6 (((G8 0).ss 1).v) ∧ True := kn kw8 (by kernel_rfl)
    clear kw8
    have e7 : l5 = Fr.rD ((Un.sym s).isSome = true) (Un.fv (Un.sym s)) := (Fr.Fz.ret (Fr.Fz.of (by decide) hn5 hl5 hn6 hl6) (Un.is_s hsy) (Un.fv_s hsy).symm).2.1
    subst e7
    have e9 : l6 = Fr.rE ((Un.sym s).isSome = true) (Un.fv (Un.sym s)) := (Fr.Fz.ret (Fr.Fz.of (by decide) hn5 hl5 hn6 hl6) (Un.is_s hsy) (Un.fv_s hsy).symm).2.2.2
    subst e9
    have e0 : (0 : Int) = Un.dv (Un.sym s) 0 := (Un.dv_s hsy 0).symm
    have e1 : (1 : Int) = Un.dv (Un.sym s) 1 := (Un.dv_s hsy 1).symm
    have e2 : (0 : Int) = Un.dv (Un.sym s) 2 := (Un.dv_s hsy 2).symm
    have e3 : (0 : Int) = Un.dv (Un.sym s) 3 := (Un.dv_s hsy 3).symm
    have e4 : (0 : Int) = Un.dv (Un.sym s) 4 := (Un.dv_s hsy 4).symm
    have e5 : (0 : Int) = Un.dv (Un.sym s) 5 := (Un.dv_s hsy 5).symm
    have e6 : n5 = Fr.rS ((Un.sym s).isSome = true) (Un.fv (Un.sym s)) := (Fr.Fz.ret (Fr.Fz.of (by decide) hn5 hl5 hn6 hl6) (Un.is_s hsy) (Un.fv_s hsy).symm).1
    have e8 : n6 = Fr.rT ((Un.sym s).isSome = true) := (Fr.Fz.ret (Fr.Fz.of (by decide) hn5 hl5 hn6 hl6) (Un.is_s hsy) (Un.fv_s hsy).symm).2.2.1
    have e10 : true = (Un.sym s).isSome := by rw [hsy]; rfl
    exact V.ret [0, 0] [(G8 0).ss 0, (G8 0).ss 1] [fun _ => {}, fun _ => {}] [] [0, 1] [] (.tuple #[.agg #[iv 0, iv (1 : Int), iv 0, iv 0, iv 0, iv 0, iv n5, ((G8 0).ss 0).v, iv n6, ((G8 0).ss 1).v], bv true]) (fun _ _ => by kernel_rfl) (fun _ _ => (Eq.trans (by kernel_rfl) (cong9 (fun (x0 : Int) (x1 : Int) (x2 : Int) (x3 : Int) (x4 : Int) (x5 : Int) (x6 : Int) (x8 : Int) (x10 : Bool) => (.tuple #[.agg #[iv x0, iv x1, iv x2, iv x3, iv x4, iv x5, iv x6, ((G8 0).ss 0).v, iv x8, ((G8 0).ss 1).v], bv x10] : Value)) e0 e1 e2 e3 e4 e5 e6 e8 e10)).trans (by kernel_rfl)) (fun _ _ => trivial)
  have hsn2 : ¬ s = ⟨#[109]⟩ := q6
  refine V.g [.seq s ⟨#[108]⟩,.k (bv (decide (s = ⟨#[108]⟩)))] fun _ _ G9 => ?_
  intro S_ s_
  refine V.cond (b := decide (s = ⟨#[108]⟩)) iDT iDF (by kernel_rfl) (fun q7 => ?_) (fun q8 => ?_)
  · have hsy : Un.sym s = some ([0, 3, 0, 0, 0, 0], Rat.divInt 1 1000) := by rw [q7]; kernel_rfl
    refine nm (Fr.rS ((1000 : Int) ≠ 0) (Rat.divInt (1 : Int) (1000 : Int)) : Int) fun n7 hn7 => ?_
    refine nm (Fr.rD ((1000 : Int) ≠ 0) (Rat.divInt (1 : Int) (1000 : Int)) : List Int) fun l7 hl7 => ?_
    have hl7n := congrArg List.length hl7
    refine nm (Fr.rT ((1000 : Int) ≠ 0) : Int) fun n8 hn8 => ?_
    refine nm (Fr.rE ((1000 : Int) ≠ 0) (Rat.divInt (1 : Int) (1000 : Int)) : List Int) fun l8 hl8 => ?_
    have hl8n := congrArg List.length hl8
    refine V.r [.ct g0 0 116 false [] [] [] (fun _ G => uof1_ctv (3 : Int) (1 : Int) (1000 : Int) (by omega) (by omega) (by omega) n7 hn7 l7 hl7 n8 hn8 l8 hl8),.st 0 (fun G => .blk ((G1 0).b) #[iv 0, iv (3 : Int), iv 0, iv 0, iv 0, iv 0, iv n7, ((G 0).ss 0).v, iv n8, ((G 0).ss 1).v] 32),.kb true] fun _ _ G10 kw10 => ?_
    intro S_ s_
    obtain ⟨⟨kl7, -⟩, ⟨kl8, -⟩, -⟩ : Lq l7 (((G10 0).ss 0).v) ∧ Lq l8 (((G10 0).ss 1).v) ∧ True := kn kw10 (by kernel_rfl)
    clear kw10
    have e7 : l7 = Fr.rD ((Un.sym s).isSome = true) (Un.fv (Un.sym s)) := (Fr.Fz.ret (Fr.Fz.of (by decide) hn7 hl7 hn8 hl8) (Un.is_s hsy) (Un.fv_s hsy).symm).2.1
    subst e7
    have e9 : l8 = Fr.rE ((Un.sym s).isSome = true) (Un.fv (Un.sym s)) := (Fr.Fz.ret (Fr.Fz.of (by decide) hn7 hl7 hn8 hl8) (Un.is_s hsy) (Un.fv_s hsy).symm).2.2.2
    subst e9
    have e0 : (0 : Int) = Un.dv (Un.sym s) 0 := (Un.dv_s hsy 0).symm
    have e1 : (3 : Int) = Un.dv (Un.sym s) 1 := (Un.dv_s hsy 1).symm
    have e2 : (0 : Int) = Un.dv (Un.sym s) 2 := (Un.dv_s hsy 2).symm
    have e3 : (0 : Int) = Un.dv (Un.sym s) 3 := (Un.dv_s hsy 3).symm
    have e4 : (0 : Int) = Un.dv (Un.sym s) 4 := (Un.dv_s hsy 4).symm
    have e5 : (0 : Int) = Un.dv (Un.sym s) 5 := (Un.dv_s hsy 5).symm
    have e6 : n7 = Fr.rS ((Un.sym s).isSome = true) (Un.fv (Un.sym s)) := (Fr.Fz.ret (Fr.Fz.of (by decide) hn7 hl7 hn8 hl8) (Un.is_s hsy) (Un.fv_s hsy).symm).1
    have e8 : n8 = Fr.rT ((Un.sym s).isSome = true) := (Fr.Fz.ret (Fr.Fz.of (by decide) hn7 hl7 hn8 hl8) (Un.is_s hsy) (Un.fv_s hsy).symm).2.2.1
    have e10 : true = (Un.sym s).isSome := by rw [hsy]; rfl
    exact V.ret [0, 0] [(G10 0).ss 0, (G10 0).ss 1] [fun _ => {}, fun _ => {}] [] [0, 1] [] (.tuple #[.agg #[iv 0, iv (3 : Int), iv 0, iv 0, iv 0, iv 0, iv n7, ((G10 0).ss 0).v, iv n8, ((G10 0).ss 1).v], bv true]) (fun _ _ => by kernel_rfl) (fun _ _ => (Eq.trans (by kernel_rfl) (cong9 (fun (x0 : Int) (x1 : Int) (x2 : Int) (x3 : Int) (x4 : Int) (x5 : Int) (x6 : Int) (x8 : Int) (x10 : Bool) => (.tuple #[.agg #[iv x0, iv x1, iv x2, iv x3, iv x4, iv x5, iv x6, ((G10 0).ss 0).v, iv x8, ((G10 0).ss 1).v], bv x10] : Value)) e0 e1 e2 e3 e4 e5 e6 e8 e10)).trans (by kernel_rfl)) (fun _ _ => trivial)
  have hsn3 : ¬ s = ⟨#[108]⟩ := q8
  refine V.g [.seq s ⟨#[115]⟩,.k (bv (decide (s = ⟨#[115]⟩)))] fun _ _ G11 => ?_
  intro S_ s_
  refine V.cond (b := decide (s = ⟨#[115]⟩)) iDT iDF (by kernel_rfl) (fun q9 => ?_) (fun q10 => ?_)
  · have hsy : Un.sym s = some ([0, 0, 1, 0, 0, 0], Rat.divInt 1 1) := by rw [q9]; kernel_rfl
    refine nm (Fr.rS ((1 : Int) ≠ 0) (Rat.divInt (1 : Int) (1 : Int)) : Int) fun n9 hn9 => ?_
    refine nm (Fr.rD ((1 : Int) ≠ 0) (Rat.divInt (1 : Int) (1 : Int)) : List Int) fun l9 hl9 => ?_
    have hl9n := congrArg List.length hl9
    refine nm (Fr.rT ((1 : Int) ≠ 0) : Int) fun n10 hn10 => ?_
    refine nm (Fr.rE ((1 : Int) ≠ 0) (Rat.divInt (1 : Int) (1 : Int)) : List Int) fun l10 hl10 => ?_
    have hl10n := congrArg List.length hl10
    refine V.r [.ct g0 0 116 false [] [] [] (fun _ G => uof2_ctv (1 : Int) (1 : Int) (1 : Int) (by omega) (by omega) (by omega) n9 hn9 l9 hl9 n10 hn10 l10 hl10),.st 0 (fun G => .blk ((G1 0).b) #[iv 0, iv 0, iv (1 : Int), iv 0, iv 0, iv 0, iv n9, ((G 0).ss 0).v, iv n10, ((G 0).ss 1).v] 32),.kb true] fun _ _ G12 kw12 => ?_
    intro S_ s_
    obtain ⟨⟨kl9, -⟩, ⟨kl10, -⟩, -⟩ : Lq l9 (((G12 0).ss 0).v) ∧ Lq l10 (((G12 0).ss 1).v) ∧ True := kn kw12 (by kernel_rfl)
    clear kw12
    have e7 : l9 = Fr.rD ((Un.sym s).isSome = true) (Un.fv (Un.sym s)) := (Fr.Fz.ret (Fr.Fz.of (by decide) hn9 hl9 hn10 hl10) (Un.is_s hsy) (Un.fv_s hsy).symm).2.1
    subst e7
    have e9 : l10 = Fr.rE ((Un.sym s).isSome = true) (Un.fv (Un.sym s)) := (Fr.Fz.ret (Fr.Fz.of (by decide) hn9 hl9 hn10 hl10) (Un.is_s hsy) (Un.fv_s hsy).symm).2.2.2
    subst e9
    have e0 : (0 : Int) = Un.dv (Un.sym s) 0 := (Un.dv_s hsy 0).symm
    have e1 : (0 : Int) = Un.dv (Un.sym s) 1 := (Un.dv_s hsy 1).symm
    have e2 : (1 : Int) = Un.dv (Un.sym s) 2 := (Un.dv_s hsy 2).symm
    have e3 : (0 : Int) = Un.dv (Un.sym s) 3 := (Un.dv_s hsy 3).symm
    have e4 : (0 : Int) = Un.dv (Un.sym s) 4 := (Un.dv_s hsy 4).symm
    have e5 : (0 : Int) = Un.dv (Un.sym s) 5 := (Un.dv_s hsy 5).symm
    have e6 : n9 = Fr.rS ((Un.sym s).isSome = true) (Un.fv (Un.sym s)) := (Fr.Fz.ret (Fr.Fz.of (by decide) hn9 hl9 hn10 hl10) (Un.is_s hsy) (Un.fv_s hsy).symm).1
    have e8 : n10 = Fr.rT ((Un.sym s).isSome = true) := (Fr.Fz.ret (Fr.Fz.of (by decide) hn9 hl9 hn10 hl10) (Un.is_s hsy) (Un.fv_s hsy).symm).2.2.1
    have e10 : true = (Un.sym s).isSome := by rw [hsy]; rfl
    exact V.ret [0, 0] [(G12 0).ss 0, (G12 0).ss 1] [fun _ => {}, fun _ => {}] [] [0, 1] [] (.tuple #[.agg #[iv 0, iv 0, iv (1 : Int), iv 0, iv 0, iv 0, iv n9, ((G12 0).ss 0).v, iv n10, ((G12 0).ss 1).v], bv true]) (fun _ _ => by kernel_rfl) (fun _ _ => (Eq.trans (by kernel_rfl) (cong9 (fun (x0 : Int) (x1 : Int) (x2 : Int) (x3 : Int) (x4 : Int) (x5 : Int) (x6 : Int) (x8 : Int) (x10 : Bool) => (.tuple #[.agg #[iv x0, iv x1, iv x2, iv x3, iv x4, iv x5, iv x6, ((G12 0).ss 0).v, iv x8, ((G12 0).ss 1).v], bv x10] : Value)) e0 e1 e2 e3 e4 e5 e6 e8 e10)).trans (by kernel_rfl)) (fun _ _ => trivial)
  have hsn4 : ¬ s = ⟨#[115]⟩ := q10
  refine V.g [.seq s ⟨#[104]⟩,.k (bv (decide (s = ⟨#[104]⟩)))] fun _ _ G13 => ?_
  intro S_ s_
  refine V.cond (b := decide (s = ⟨#[104]⟩)) iDT iDF (by kernel_rfl) (fun q11 => ?_) (fun q12 => ?_)
  · have hsy : Un.sym s = some ([0, 0, 1, 0, 0, 0], Rat.divInt 3600 1) := by rw [q11]; kernel_rfl
    refine nm (Fr.rS ((1 : Int) ≠ 0) (Rat.divInt (3600 : Int) (1 : Int)) : Int) fun n11 hn11 => ?_
    refine nm (Fr.rD ((1 : Int) ≠ 0) (Rat.divInt (3600 : Int) (1 : Int)) : List Int) fun l11 hl11 => ?_
    have hl11n := congrArg List.length hl11
    refine nm (Fr.rT ((1 : Int) ≠ 0) : Int) fun n12 hn12 => ?_
    refine nm (Fr.rE ((1 : Int) ≠ 0) (Rat.divInt (3600 : Int) (1 : Int)) : List Int) fun l12 hl12 => ?_
    have hl12n := congrArg List.length hl12
    refine V.r [.ct g0 0 116 false [] [] [] (fun _ G => uof2_ctv (1 : Int) (3600 : Int) (1 : Int) (by omega) (by omega) (by omega) n11 hn11 l11 hl11 n12 hn12 l12 hl12),.st 0 (fun G => .blk ((G1 0).b) #[iv 0, iv 0, iv (1 : Int), iv 0, iv 0, iv 0, iv n11, ((G 0).ss 0).v, iv n12, ((G 0).ss 1).v] 32),.kb true] fun _ _ G14 kw14 => ?_
    intro S_ s_
    obtain ⟨⟨kl11, -⟩, ⟨kl12, -⟩, -⟩ : Lq l11 (((G14 0).ss 0).v) ∧ Lq l12 (((G14 0).ss 1).v) ∧ True := kn kw14 (by kernel_rfl)
    clear kw14
    have e7 : l11 = Fr.rD ((Un.sym s).isSome = true) (Un.fv (Un.sym s)) := (Fr.Fz.ret (Fr.Fz.of (by decide) hn11 hl11 hn12 hl12) (Un.is_s hsy) (Un.fv_s hsy).symm).2.1
    subst e7
    have e9 : l12 = Fr.rE ((Un.sym s).isSome = true) (Un.fv (Un.sym s)) := (Fr.Fz.ret (Fr.Fz.of (by decide) hn11 hl11 hn12 hl12) (Un.is_s hsy) (Un.fv_s hsy).symm).2.2.2
    subst e9
    have e0 : (0 : Int) = Un.dv (Un.sym s) 0 := (Un.dv_s hsy 0).symm
    have e1 : (0 : Int) = Un.dv (Un.sym s) 1 := (Un.dv_s hsy 1).symm
    have e2 : (1 : Int) = Un.dv (Un.sym s) 2 := (Un.dv_s hsy 2).symm
    have e3 : (0 : Int) = Un.dv (Un.sym s) 3 := (Un.dv_s hsy 3).symm
    have e4 : (0 : Int) = Un.dv (Un.sym s) 4 := (Un.dv_s hsy 4).symm
    have e5 : (0 : Int) = Un.dv (Un.sym s) 5 := (Un.dv_s hsy 5).symm
    have e6 : n11 = Fr.rS ((Un.sym s).isSome = true) (Un.fv (Un.sym s)) := (Fr.Fz.ret (Fr.Fz.of (by decide) hn11 hl11 hn12 hl12) (Un.is_s hsy) (Un.fv_s hsy).symm).1
    have e8 : n12 = Fr.rT ((Un.sym s).isSome = true) := (Fr.Fz.ret (Fr.Fz.of (by decide) hn11 hl11 hn12 hl12) (Un.is_s hsy) (Un.fv_s hsy).symm).2.2.1
    have e10 : true = (Un.sym s).isSome := by rw [hsy]; rfl
    exact V.ret [0, 0] [(G14 0).ss 0, (G14 0).ss 1] [fun _ => {}, fun _ => {}] [] [0, 1] [] (.tuple #[.agg #[iv 0, iv 0, iv (1 : Int), iv 0, iv 0, iv 0, iv n11, ((G14 0).ss 0).v, iv n12, ((G14 0).ss 1).v], bv true]) (fun _ _ => by kernel_rfl) (fun _ _ => (Eq.trans (by kernel_rfl) (cong9 (fun (x0 : Int) (x1 : Int) (x2 : Int) (x3 : Int) (x4 : Int) (x5 : Int) (x6 : Int) (x8 : Int) (x10 : Bool) => (.tuple #[.agg #[iv x0, iv x1, iv x2, iv x3, iv x4, iv x5, iv x6, ((G14 0).ss 0).v, iv x8, ((G14 0).ss 1).v], bv x10] : Value)) e0 e1 e2 e3 e4 e5 e6 e8 e10)).trans (by kernel_rfl)) (fun _ _ => trivial)
  have hsn5 : ¬ s = ⟨#[104]⟩ := q12
  refine V.g [.seq s ⟨#[100]⟩,.k (bv (decide (s = ⟨#[100]⟩)))] fun _ _ G15 => ?_
  intro S_ s_
  refine V.cond (b := decide (s = ⟨#[100]⟩)) iDT iDF (by kernel_rfl) (fun q13 => ?_) (fun q14 => ?_)
  · have hsy : Un.sym s = some ([0, 0, 1, 0, 0, 0], Rat.divInt 86400 1) := by rw [q13]; kernel_rfl
    refine nm (Fr.rS ((1 : Int) ≠ 0) (Rat.divInt (86400 : Int) (1 : Int)) : Int) fun n13 hn13 => ?_
    refine nm (Fr.rD ((1 : Int) ≠ 0) (Rat.divInt (86400 : Int) (1 : Int)) : List Int) fun l13 hl13 => ?_
    have hl13n := congrArg List.length hl13
    refine nm (Fr.rT ((1 : Int) ≠ 0) : Int) fun n14 hn14 => ?_
    refine nm (Fr.rE ((1 : Int) ≠ 0) (Rat.divInt (86400 : Int) (1 : Int)) : List Int) fun l14 hl14 => ?_
    have hl14n := congrArg List.length hl14
    refine V.r [.ct g0 0 116 false [] [] [] (fun _ G => uof2_ctv (1 : Int) (86400 : Int) (1 : Int) (by omega) (by omega) (by omega) n13 hn13 l13 hl13 n14 hn14 l14 hl14),.st 0 (fun G => .blk ((G1 0).b) #[iv 0, iv 0, iv (1 : Int), iv 0, iv 0, iv 0, iv n13, ((G 0).ss 0).v, iv n14, ((G 0).ss 1).v] 32),.kb true] fun _ _ G16 kw16 => ?_
    intro S_ s_
    obtain ⟨⟨kl13, -⟩, ⟨kl14, -⟩, -⟩ : Lq l13 (((G16 0).ss 0).v) ∧ Lq l14 (((G16 0).ss 1).v) ∧ True := kn kw16 (by kernel_rfl)
    clear kw16
    have e7 : l13 = Fr.rD ((Un.sym s).isSome = true) (Un.fv (Un.sym s)) := (Fr.Fz.ret (Fr.Fz.of (by decide) hn13 hl13 hn14 hl14) (Un.is_s hsy) (Un.fv_s hsy).symm).2.1
    subst e7
    have e9 : l14 = Fr.rE ((Un.sym s).isSome = true) (Un.fv (Un.sym s)) := (Fr.Fz.ret (Fr.Fz.of (by decide) hn13 hl13 hn14 hl14) (Un.is_s hsy) (Un.fv_s hsy).symm).2.2.2
    subst e9
    have e0 : (0 : Int) = Un.dv (Un.sym s) 0 := (Un.dv_s hsy 0).symm
    have e1 : (0 : Int) = Un.dv (Un.sym s) 1 := (Un.dv_s hsy 1).symm
    have e2 : (1 : Int) = Un.dv (Un.sym s) 2 := (Un.dv_s hsy 2).symm
    have e3 : (0 : Int) = Un.dv (Un.sym s) 3 := (Un.dv_s hsy 3).symm
    have e4 : (0 : Int) = Un.dv (Un.sym s) 4 := (Un.dv_s hsy 4).symm
    have e5 : (0 : Int) = Un.dv (Un.sym s) 5 := (Un.dv_s hsy 5).symm
    have e6 : n13 = Fr.rS ((Un.sym s).isSome = true) (Un.fv (Un.sym s)) := (Fr.Fz.ret (Fr.Fz.of (by decide) hn13 hl13 hn14 hl14) (Un.is_s hsy) (Un.fv_s hsy).symm).1
    have e8 : n14 = Fr.rT ((Un.sym s).isSome = true) := (Fr.Fz.ret (Fr.Fz.of (by decide) hn13 hl13 hn14 hl14) (Un.is_s hsy) (Un.fv_s hsy).symm).2.2.1
    have e10 : true = (Un.sym s).isSome := by rw [hsy]; rfl
    exact V.ret [0, 0] [(G16 0).ss 0, (G16 0).ss 1] [fun _ => {}, fun _ => {}] [] [0, 1] [] (.tuple #[.agg #[iv 0, iv 0, iv (1 : Int), iv 0, iv 0, iv 0, iv n13, ((G16 0).ss 0).v, iv n14, ((G16 0).ss 1).v], bv true]) (fun _ _ => by kernel_rfl) (fun _ _ => (Eq.trans (by kernel_rfl) (cong9 (fun (x0 : Int) (x1 : Int) (x2 : Int) (x3 : Int) (x4 : Int) (x5 : Int) (x6 : Int) (x8 : Int) (x10 : Bool) => (.tuple #[.agg #[iv x0, iv x1, iv x2, iv x3, iv x4, iv x5, iv x6, ((G16 0).ss 0).v, iv x8, ((G16 0).ss 1).v], bv x10] : Value)) e0 e1 e2 e3 e4 e5 e6 e8 e10)).trans (by kernel_rfl)) (fun _ _ => trivial)
  have hsn6 : ¬ s = ⟨#[100]⟩ := q14
  refine V.g [.seq s ⟨#[74]⟩,.k (bv (decide (s = ⟨#[74]⟩)))] fun _ _ G17 => ?_
  intro S_ s_
  refine V.cond (b := decide (s = ⟨#[74]⟩)) iDT iDF (by kernel_rfl) (fun q15 => ?_) (fun q16 => ?_)
  · have hsy : Un.sym s = some ([0, 0, 0, 1, 0, 0], Rat.divInt 1 1) := by rw [q15]; kernel_rfl
    refine nm (Fr.rS ((1 : Int) ≠ 0) (Rat.divInt (1 : Int) (1 : Int)) : Int) fun n15 hn15 => ?_
    refine nm (Fr.rD ((1 : Int) ≠ 0) (Rat.divInt (1 : Int) (1 : Int)) : List Int) fun l15 hl15 => ?_
    have hl15n := congrArg List.length hl15
    refine nm (Fr.rT ((1 : Int) ≠ 0) : Int) fun n16 hn16 => ?_
    refine nm (Fr.rE ((1 : Int) ≠ 0) (Rat.divInt (1 : Int) (1 : Int)) : List Int) fun l16 hl16 => ?_
    have hl16n := congrArg List.length hl16
    refine V.r [.ct g0 0 116 false [] [] [] (fun _ G => uof3_ctv (1 : Int) (1 : Int) (1 : Int) (by omega) (by omega) (by omega) n15 hn15 l15 hl15 n16 hn16 l16 hl16),.st 0 (fun G => .blk ((G1 0).b) #[iv 0, iv 0, iv 0, iv (1 : Int), iv 0, iv 0, iv n15, ((G 0).ss 0).v, iv n16, ((G 0).ss 1).v] 32),.kb true] fun _ _ G18 kw18 => ?_
    intro S_ s_
    obtain ⟨⟨kl15, -⟩, ⟨kl16, -⟩, -⟩ : Lq l15 (((G18 0).ss 0).v) ∧ Lq l16 (((G18 0).ss 1).v) ∧ True := kn kw18 (by kernel_rfl)
    clear kw18
    have e7 : l15 = Fr.rD ((Un.sym s).isSome = true) (Un.fv (Un.sym s)) := (Fr.Fz.ret (Fr.Fz.of (by decide) hn15 hl15 hn16 hl16) (Un.is_s hsy) (Un.fv_s hsy).symm).2.1
    subst e7
    have e9 : l16 = Fr.rE ((Un.sym s).isSome = true) (Un.fv (Un.sym s)) := (Fr.Fz.ret (Fr.Fz.of (by decide) hn15 hl15 hn16 hl16) (Un.is_s hsy) (Un.fv_s hsy).symm).2.2.2
    subst e9
    have e0 : (0 : Int) = Un.dv (Un.sym s) 0 := (Un.dv_s hsy 0).symm
    have e1 : (0 : Int) = Un.dv (Un.sym s) 1 := (Un.dv_s hsy 1).symm
    have e2 : (0 : Int) = Un.dv (Un.sym s) 2 := (Un.dv_s hsy 2).symm
    have e3 : (1 : Int) = Un.dv (Un.sym s) 3 := (Un.dv_s hsy 3).symm
    have e4 : (0 : Int) = Un.dv (Un.sym s) 4 := (Un.dv_s hsy 4).symm
    have e5 : (0 : Int) = Un.dv (Un.sym s) 5 := (Un.dv_s hsy 5).symm
    have e6 : n15 = Fr.rS ((Un.sym s).isSome = true) (Un.fv (Un.sym s)) := (Fr.Fz.ret (Fr.Fz.of (by decide) hn15 hl15 hn16 hl16) (Un.is_s hsy) (Un.fv_s hsy).symm).1
    have e8 : n16 = Fr.rT ((Un.sym s).isSome = true) := (Fr.Fz.ret (Fr.Fz.of (by decide) hn15 hl15 hn16 hl16) (Un.is_s hsy) (Un.fv_s hsy).symm).2.2.1
    have e10 : true = (Un.sym s).isSome := by rw [hsy]; rfl
    exact V.ret [0, 0] [(G18 0).ss 0, (G18 0).ss 1] [fun _ => {}, fun _ => {}] [] [0, 1] [] (.tuple #[.agg #[iv 0, iv 0, iv 0, iv (1 : Int), iv 0, iv 0, iv n15, ((G18 0).ss 0).v, iv n16, ((G18 0).ss 1).v], bv true]) (fun _ _ => by kernel_rfl) (fun _ _ => (Eq.trans (by kernel_rfl) (cong9 (fun (x0 : Int) (x1 : Int) (x2 : Int) (x3 : Int) (x4 : Int) (x5 : Int) (x6 : Int) (x8 : Int) (x10 : Bool) => (.tuple #[.agg #[iv x0, iv x1, iv x2, iv x3, iv x4, iv x5, iv x6, ((G18 0).ss 0).v, iv x8, ((G18 0).ss 1).v], bv x10] : Value)) e0 e1 e2 e3 e4 e5 e6 e8 e10)).trans (by kernel_rfl)) (fun _ _ => trivial)
  have hsn7 : ¬ s = ⟨#[74]⟩ := q16
  refine V.g [.seq s ⟨#[87, 104]⟩,.k (bv (decide (s = ⟨#[87, 104]⟩)))] fun _ _ G19 => ?_
  intro S_ s_
  refine V.cond (b := decide (s = ⟨#[87, 104]⟩)) iDT iDF (by kernel_rfl) (fun q17 => ?_) (fun q18 => ?_)
  · have hsy : Un.sym s = some ([0, 0, 0, 1, 0, 0], Rat.divInt 3600 1) := by rw [q17]; kernel_rfl
    refine nm (Fr.rS ((1 : Int) ≠ 0) (Rat.divInt (3600 : Int) (1 : Int)) : Int) fun n17 hn17 => ?_
    refine nm (Fr.rD ((1 : Int) ≠ 0) (Rat.divInt (3600 : Int) (1 : Int)) : List Int) fun l17 hl17 => ?_
    have hl17n := congrArg List.length hl17
    refine nm (Fr.rT ((1 : Int) ≠ 0) : Int) fun n18 hn18 => ?_
    refine nm (Fr.rE ((1 : Int) ≠ 0) (Rat.divInt (3600 : Int) (1 : Int)) : List Int) fun l18 hl18 => ?_
    have hl18n := congrArg List.length hl18
    refine V.r [.ct g0 0 116 false [] [] [] (fun _ G => uof3_ctv (1 : Int) (3600 : Int) (1 : Int) (by omega) (by omega) (by omega) n17 hn17 l17 hl17 n18 hn18 l18 hl18),.st 0 (fun G => .blk ((G1 0).b) #[iv 0, iv 0, iv 0, iv (1 : Int), iv 0, iv 0, iv n17, ((G 0).ss 0).v, iv n18, ((G 0).ss 1).v] 32),.kb true] fun _ _ G20 kw20 => ?_
    intro S_ s_
    obtain ⟨⟨kl17, -⟩, ⟨kl18, -⟩, -⟩ : Lq l17 (((G20 0).ss 0).v) ∧ Lq l18 (((G20 0).ss 1).v) ∧ True := kn kw20 (by kernel_rfl)
    clear kw20
    have e7 : l17 = Fr.rD ((Un.sym s).isSome = true) (Un.fv (Un.sym s)) := (Fr.Fz.ret (Fr.Fz.of (by decide) hn17 hl17 hn18 hl18) (Un.is_s hsy) (Un.fv_s hsy).symm).2.1
    subst e7
    have e9 : l18 = Fr.rE ((Un.sym s).isSome = true) (Un.fv (Un.sym s)) := (Fr.Fz.ret (Fr.Fz.of (by decide) hn17 hl17 hn18 hl18) (Un.is_s hsy) (Un.fv_s hsy).symm).2.2.2
    subst e9
    have e0 : (0 : Int) = Un.dv (Un.sym s) 0 := (Un.dv_s hsy 0).symm
    have e1 : (0 : Int) = Un.dv (Un.sym s) 1 := (Un.dv_s hsy 1).symm
    have e2 : (0 : Int) = Un.dv (Un.sym s) 2 := (Un.dv_s hsy 2).symm
    have e3 : (1 : Int) = Un.dv (Un.sym s) 3 := (Un.dv_s hsy 3).symm
    have e4 : (0 : Int) = Un.dv (Un.sym s) 4 := (Un.dv_s hsy 4).symm
    have e5 : (0 : Int) = Un.dv (Un.sym s) 5 := (Un.dv_s hsy 5).symm
    have e6 : n17 = Fr.rS ((Un.sym s).isSome = true) (Un.fv (Un.sym s)) := (Fr.Fz.ret (Fr.Fz.of (by decide) hn17 hl17 hn18 hl18) (Un.is_s hsy) (Un.fv_s hsy).symm).1
    have e8 : n18 = Fr.rT ((Un.sym s).isSome = true) := (Fr.Fz.ret (Fr.Fz.of (by decide) hn17 hl17 hn18 hl18) (Un.is_s hsy) (Un.fv_s hsy).symm).2.2.1
    have e10 : true = (Un.sym s).isSome := by rw [hsy]; rfl
    exact V.ret [0, 0] [(G20 0).ss 0, (G20 0).ss 1] [fun _ => {}, fun _ => {}] [] [0, 1] [] (.tuple #[.agg #[iv 0, iv 0, iv 0, iv (1 : Int), iv 0, iv 0, iv n17, ((G20 0).ss 0).v, iv n18, ((G20 0).ss 1).v], bv true]) (fun _ _ => by kernel_rfl) (fun _ _ => (Eq.trans (by kernel_rfl) (cong9 (fun (x0 : Int) (x1 : Int) (x2 : Int) (x3 : Int) (x4 : Int) (x5 : Int) (x6 : Int) (x8 : Int) (x10 : Bool) => (.tuple #[.agg #[iv x0, iv x1, iv x2, iv x3, iv x4, iv x5, iv x6, ((G20 0).ss 0).v, iv x8, ((G20 0).ss 1).v], bv x10] : Value)) e0 e1 e2 e3 e4 e5 e6 e8 e10)).trans (by kernel_rfl)) (fun _ _ => trivial)
  have hsn8 : ¬ s = ⟨#[87, 104]⟩ := q18
  refine V.g [.seq s ⟨#[99, 101, 110, 116]⟩,.k (bv (decide (s = ⟨#[99, 101, 110, 116]⟩)))] fun _ _ G21 => ?_
  intro S_ s_
  refine V.cond (b := decide (s = ⟨#[99, 101, 110, 116]⟩)) iDT iDF (by kernel_rfl) (fun q19 => ?_) (fun q20 => ?_)
  · have hsy : Un.sym s = some ([0, 0, 0, 0, 1, 0], Rat.divInt 1 1) := by rw [q19]; kernel_rfl
    refine nm (Fr.rS ((1 : Int) ≠ 0) (Rat.divInt (1 : Int) (1 : Int)) : Int) fun n19 hn19 => ?_
    refine nm (Fr.rD ((1 : Int) ≠ 0) (Rat.divInt (1 : Int) (1 : Int)) : List Int) fun l19 hl19 => ?_
    have hl19n := congrArg List.length hl19
    refine nm (Fr.rT ((1 : Int) ≠ 0) : Int) fun n20 hn20 => ?_
    refine nm (Fr.rE ((1 : Int) ≠ 0) (Rat.divInt (1 : Int) (1 : Int)) : List Int) fun l20 hl20 => ?_
    have hl20n := congrArg List.length hl20
    refine V.r [.ct g0 0 116 false [] [] [] (fun _ G => uof4_ctv (1 : Int) (1 : Int) (1 : Int) (by omega) (by omega) (by omega) n19 hn19 l19 hl19 n20 hn20 l20 hl20),.st 0 (fun G => .blk ((G1 0).b) #[iv 0, iv 0, iv 0, iv 0, iv (1 : Int), iv 0, iv n19, ((G 0).ss 0).v, iv n20, ((G 0).ss 1).v] 32),.kb true] fun _ _ G22 kw22 => ?_
    intro S_ s_
    obtain ⟨⟨kl19, -⟩, ⟨kl20, -⟩, -⟩ : Lq l19 (((G22 0).ss 0).v) ∧ Lq l20 (((G22 0).ss 1).v) ∧ True := kn kw22 (by kernel_rfl)
    clear kw22
    have e7 : l19 = Fr.rD ((Un.sym s).isSome = true) (Un.fv (Un.sym s)) := (Fr.Fz.ret (Fr.Fz.of (by decide) hn19 hl19 hn20 hl20) (Un.is_s hsy) (Un.fv_s hsy).symm).2.1
    subst e7
    have e9 : l20 = Fr.rE ((Un.sym s).isSome = true) (Un.fv (Un.sym s)) := (Fr.Fz.ret (Fr.Fz.of (by decide) hn19 hl19 hn20 hl20) (Un.is_s hsy) (Un.fv_s hsy).symm).2.2.2
    subst e9
    have e0 : (0 : Int) = Un.dv (Un.sym s) 0 := (Un.dv_s hsy 0).symm
    have e1 : (0 : Int) = Un.dv (Un.sym s) 1 := (Un.dv_s hsy 1).symm
    have e2 : (0 : Int) = Un.dv (Un.sym s) 2 := (Un.dv_s hsy 2).symm
    have e3 : (0 : Int) = Un.dv (Un.sym s) 3 := (Un.dv_s hsy 3).symm
    have e4 : (1 : Int) = Un.dv (Un.sym s) 4 := (Un.dv_s hsy 4).symm
    have e5 : (0 : Int) = Un.dv (Un.sym s) 5 := (Un.dv_s hsy 5).symm
    have e6 : n19 = Fr.rS ((Un.sym s).isSome = true) (Un.fv (Un.sym s)) := (Fr.Fz.ret (Fr.Fz.of (by decide) hn19 hl19 hn20 hl20) (Un.is_s hsy) (Un.fv_s hsy).symm).1
    have e8 : n20 = Fr.rT ((Un.sym s).isSome = true) := (Fr.Fz.ret (Fr.Fz.of (by decide) hn19 hl19 hn20 hl20) (Un.is_s hsy) (Un.fv_s hsy).symm).2.2.1
    have e10 : true = (Un.sym s).isSome := by rw [hsy]; rfl
    exact V.ret [0, 0] [(G22 0).ss 0, (G22 0).ss 1] [fun _ => {}, fun _ => {}] [] [0, 1] [] (.tuple #[.agg #[iv 0, iv 0, iv 0, iv 0, iv (1 : Int), iv 0, iv n19, ((G22 0).ss 0).v, iv n20, ((G22 0).ss 1).v], bv true]) (fun _ _ => by kernel_rfl) (fun _ _ => (Eq.trans (by kernel_rfl) (cong9 (fun (x0 : Int) (x1 : Int) (x2 : Int) (x3 : Int) (x4 : Int) (x5 : Int) (x6 : Int) (x8 : Int) (x10 : Bool) => (.tuple #[.agg #[iv x0, iv x1, iv x2, iv x3, iv x4, iv x5, iv x6, ((G22 0).ss 0).v, iv x8, ((G22 0).ss 1).v], bv x10] : Value)) e0 e1 e2 e3 e4 e5 e6 e8 e10)).trans (by kernel_rfl)) (fun _ _ => trivial)
  have hsn9 : ¬ s = ⟨#[99, 101, 110, 116]⟩ := q20
  refine V.g [.seq s ⟨#[101, 117, 114]⟩,.k (bv (decide (s = ⟨#[101, 117, 114]⟩)))] fun _ _ G23 => ?_
  intro S_ s_
  refine V.cond (b := decide (s = ⟨#[101, 117, 114]⟩)) iDT iDF (by kernel_rfl) (fun q21 => ?_) (fun q22 => ?_)
  · have hsy : Un.sym s = some ([0, 0, 0, 0, 1, 0], Rat.divInt 100 1) := by rw [q21]; kernel_rfl
    refine nm (Fr.rS ((1 : Int) ≠ 0) (Rat.divInt (100 : Int) (1 : Int)) : Int) fun n21 hn21 => ?_
    refine nm (Fr.rD ((1 : Int) ≠ 0) (Rat.divInt (100 : Int) (1 : Int)) : List Int) fun l21 hl21 => ?_
    have hl21n := congrArg List.length hl21
    refine nm (Fr.rT ((1 : Int) ≠ 0) : Int) fun n22 hn22 => ?_
    refine nm (Fr.rE ((1 : Int) ≠ 0) (Rat.divInt (100 : Int) (1 : Int)) : List Int) fun l22 hl22 => ?_
    have hl22n := congrArg List.length hl22
    refine V.r [.ct g0 0 116 false [] [] [] (fun _ G => uof4_ctv (1 : Int) (100 : Int) (1 : Int) (by omega) (by omega) (by omega) n21 hn21 l21 hl21 n22 hn22 l22 hl22),.st 0 (fun G => .blk ((G1 0).b) #[iv 0, iv 0, iv 0, iv 0, iv (1 : Int), iv 0, iv n21, ((G 0).ss 0).v, iv n22, ((G 0).ss 1).v] 32),.kb true] fun _ _ G24 kw24 => ?_
    intro S_ s_
    obtain ⟨⟨kl21, -⟩, ⟨kl22, -⟩, -⟩ : Lq l21 (((G24 0).ss 0).v) ∧ Lq l22 (((G24 0).ss 1).v) ∧ True := kn kw24 (by kernel_rfl)
    clear kw24
    have e7 : l21 = Fr.rD ((Un.sym s).isSome = true) (Un.fv (Un.sym s)) := (Fr.Fz.ret (Fr.Fz.of (by decide) hn21 hl21 hn22 hl22) (Un.is_s hsy) (Un.fv_s hsy).symm).2.1
    subst e7
    have e9 : l22 = Fr.rE ((Un.sym s).isSome = true) (Un.fv (Un.sym s)) := (Fr.Fz.ret (Fr.Fz.of (by decide) hn21 hl21 hn22 hl22) (Un.is_s hsy) (Un.fv_s hsy).symm).2.2.2
    subst e9
    have e0 : (0 : Int) = Un.dv (Un.sym s) 0 := (Un.dv_s hsy 0).symm
    have e1 : (0 : Int) = Un.dv (Un.sym s) 1 := (Un.dv_s hsy 1).symm
    have e2 : (0 : Int) = Un.dv (Un.sym s) 2 := (Un.dv_s hsy 2).symm
    have e3 : (0 : Int) = Un.dv (Un.sym s) 3 := (Un.dv_s hsy 3).symm
    have e4 : (1 : Int) = Un.dv (Un.sym s) 4 := (Un.dv_s hsy 4).symm
    have e5 : (0 : Int) = Un.dv (Un.sym s) 5 := (Un.dv_s hsy 5).symm
    have e6 : n21 = Fr.rS ((Un.sym s).isSome = true) (Un.fv (Un.sym s)) := (Fr.Fz.ret (Fr.Fz.of (by decide) hn21 hl21 hn22 hl22) (Un.is_s hsy) (Un.fv_s hsy).symm).1
    have e8 : n22 = Fr.rT ((Un.sym s).isSome = true) := (Fr.Fz.ret (Fr.Fz.of (by decide) hn21 hl21 hn22 hl22) (Un.is_s hsy) (Un.fv_s hsy).symm).2.2.1
    have e10 : true = (Un.sym s).isSome := by rw [hsy]; rfl
    exact V.ret [0, 0] [(G24 0).ss 0, (G24 0).ss 1] [fun _ => {}, fun _ => {}] [] [0, 1] [] (.tuple #[.agg #[iv 0, iv 0, iv 0, iv 0, iv (1 : Int), iv 0, iv n21, ((G24 0).ss 0).v, iv n22, ((G24 0).ss 1).v], bv true]) (fun _ _ => by kernel_rfl) (fun _ _ => (Eq.trans (by kernel_rfl) (cong9 (fun (x0 : Int) (x1 : Int) (x2 : Int) (x3 : Int) (x4 : Int) (x5 : Int) (x6 : Int) (x8 : Int) (x10 : Bool) => (.tuple #[.agg #[iv x0, iv x1, iv x2, iv x3, iv x4, iv x5, iv x6, ((G24 0).ss 0).v, iv x8, ((G24 0).ss 1).v], bv x10] : Value)) e0 e1 e2 e3 e4 e5 e6 e8 e10)).trans (by kernel_rfl)) (fun _ _ => trivial)
  have hsn10 : ¬ s = ⟨#[101, 117, 114]⟩ := q22
  refine V.g [.seq s ⟨#[112, 99]⟩,.k (bv (decide (s = ⟨#[112, 99]⟩)))] fun _ _ G25 => ?_
  intro S_ s_
  refine V.cond (b := decide (s = ⟨#[112, 99]⟩)) iDT iDF (by kernel_rfl) (fun q23 => ?_) (fun q24 => ?_)
  · have hsy : Un.sym s = some ([0, 0, 0, 0, 0, 1], Rat.divInt 1 1) := by rw [q23]; kernel_rfl
    refine nm (Fr.rS ((1 : Int) ≠ 0) (Rat.divInt (1 : Int) (1 : Int)) : Int) fun n23 hn23 => ?_
    refine nm (Fr.rD ((1 : Int) ≠ 0) (Rat.divInt (1 : Int) (1 : Int)) : List Int) fun l23 hl23 => ?_
    have hl23n := congrArg List.length hl23
    refine nm (Fr.rT ((1 : Int) ≠ 0) : Int) fun n24 hn24 => ?_
    refine nm (Fr.rE ((1 : Int) ≠ 0) (Rat.divInt (1 : Int) (1 : Int)) : List Int) fun l24 hl24 => ?_
    have hl24n := congrArg List.length hl24
    refine V.r [.ct g0 0 116 false [] [] [] (fun _ G => uof5_ctv (1 : Int) (1 : Int) (1 : Int) (by omega) (by omega) (by omega) n23 hn23 l23 hl23 n24 hn24 l24 hl24),.st 0 (fun G => .blk ((G1 0).b) #[iv 0, iv 0, iv 0, iv 0, iv 0, iv (1 : Int), iv n23, ((G 0).ss 0).v, iv n24, ((G 0).ss 1).v] 32),.kb true] fun _ _ G26 kw26 => ?_
    intro S_ s_
    obtain ⟨⟨kl23, -⟩, ⟨kl24, -⟩, -⟩ : Lq l23 (((G26 0).ss 0).v) ∧ Lq l24 (((G26 0).ss 1).v) ∧ True := kn kw26 (by kernel_rfl)
    clear kw26
    have e7 : l23 = Fr.rD ((Un.sym s).isSome = true) (Un.fv (Un.sym s)) := (Fr.Fz.ret (Fr.Fz.of (by decide) hn23 hl23 hn24 hl24) (Un.is_s hsy) (Un.fv_s hsy).symm).2.1
    subst e7
    have e9 : l24 = Fr.rE ((Un.sym s).isSome = true) (Un.fv (Un.sym s)) := (Fr.Fz.ret (Fr.Fz.of (by decide) hn23 hl23 hn24 hl24) (Un.is_s hsy) (Un.fv_s hsy).symm).2.2.2
    subst e9
    have e0 : (0 : Int) = Un.dv (Un.sym s) 0 := (Un.dv_s hsy 0).symm
    have e1 : (0 : Int) = Un.dv (Un.sym s) 1 := (Un.dv_s hsy 1).symm
    have e2 : (0 : Int) = Un.dv (Un.sym s) 2 := (Un.dv_s hsy 2).symm
    have e3 : (0 : Int) = Un.dv (Un.sym s) 3 := (Un.dv_s hsy 3).symm
    have e4 : (0 : Int) = Un.dv (Un.sym s) 4 := (Un.dv_s hsy 4).symm
    have e5 : (1 : Int) = Un.dv (Un.sym s) 5 := (Un.dv_s hsy 5).symm
    have e6 : n23 = Fr.rS ((Un.sym s).isSome = true) (Un.fv (Un.sym s)) := (Fr.Fz.ret (Fr.Fz.of (by decide) hn23 hl23 hn24 hl24) (Un.is_s hsy) (Un.fv_s hsy).symm).1
    have e8 : n24 = Fr.rT ((Un.sym s).isSome = true) := (Fr.Fz.ret (Fr.Fz.of (by decide) hn23 hl23 hn24 hl24) (Un.is_s hsy) (Un.fv_s hsy).symm).2.2.1
    have e10 : true = (Un.sym s).isSome := by rw [hsy]; rfl
    exact V.ret [0, 0] [(G26 0).ss 0, (G26 0).ss 1] [fun _ => {}, fun _ => {}] [] [0, 1] [] (.tuple #[.agg #[iv 0, iv 0, iv 0, iv 0, iv 0, iv (1 : Int), iv n23, ((G26 0).ss 0).v, iv n24, ((G26 0).ss 1).v], bv true]) (fun _ _ => by kernel_rfl) (fun _ _ => (Eq.trans (by kernel_rfl) (cong9 (fun (x0 : Int) (x1 : Int) (x2 : Int) (x3 : Int) (x4 : Int) (x5 : Int) (x6 : Int) (x8 : Int) (x10 : Bool) => (.tuple #[.agg #[iv x0, iv x1, iv x2, iv x3, iv x4, iv x5, iv x6, ((G26 0).ss 0).v, iv x8, ((G26 0).ss 1).v], bv x10] : Value)) e0 e1 e2 e3 e4 e5 e6 e8 e10)).trans (by kernel_rfl)) (fun _ _ => trivial)
  have hsn11 : ¬ s = ⟨#[112, 99]⟩ := q24
  have hsy : Un.sym s = none := Un.sym_no hsn0 hsn1 hsn2 hsn3 hsn4 hsn5 hsn6 hsn7 hsn8 hsn9 hsn10 hsn11
  refine V.g [.k (.agg #[iv 0, iv 0, iv 0, iv 0, iv 0, iv 0, iv 0, .slice none 0 0, iv 0, .slice none 0 0]),.st 0 (fun _ => .blk ((G1 0).b) #[iv 0, iv 0, iv 0, iv 0, iv 0, iv 0, iv 0, .slice none 0 0, iv 0, .slice none 0 0] 32),.kb false] fun _ _ G27 => ?_
  intro S_ s_
  refine V.nilF (α := Int) ?_
  refine V.nilF (α := Int) ?_
  have e7 : ([] : List Int) = Fr.rD ((Un.sym s).isSome = true) (Un.fv (Un.sym s)) := (Fr.Fz.no (Un.is_n hsy) (Un.fv (Un.sym s))).2.1
  rw [← e7]
  have e9 : ([] : List Int) = Fr.rE ((Un.sym s).isSome = true) (Un.fv (Un.sym s)) := (Fr.Fz.no (Un.is_n hsy) (Un.fv (Un.sym s))).2.2.2
  rw [← e9]
  have e0 : (0 : Int) = Un.dv (Un.sym s) 0 := (Un.dv_n hsy 0).symm
  have e1 : (0 : Int) = Un.dv (Un.sym s) 1 := (Un.dv_n hsy 1).symm
  have e2 : (0 : Int) = Un.dv (Un.sym s) 2 := (Un.dv_n hsy 2).symm
  have e3 : (0 : Int) = Un.dv (Un.sym s) 3 := (Un.dv_n hsy 3).symm
  have e4 : (0 : Int) = Un.dv (Un.sym s) 4 := (Un.dv_n hsy 4).symm
  have e5 : (0 : Int) = Un.dv (Un.sym s) 5 := (Un.dv_n hsy 5).symm
  have e6 : (0 : Int) = Fr.rS ((Un.sym s).isSome = true) (Un.fv (Un.sym s)) := (Fr.Fz.no (Un.is_n hsy) (Un.fv (Un.sym s))).1
  have e8 : (0 : Int) = Fr.rT ((Un.sym s).isSome = true) := (Fr.Fz.no (Un.is_n hsy) (Un.fv (Un.sym s))).2.2.1
  have e10 : false = (Un.sym s).isSome := by rw [hsy]; rfl
  exact V.ret [0, 0] [{}, {}] [fun _ => {}, fun _ => {}] [] [0, 1] [] (.tuple #[.agg #[iv 0, iv 0, iv 0, iv 0, iv 0, iv 0, iv 0, SV.v ({}), iv 0, SV.v ({})], bv false]) (fun _ _ => by kernel_rfl) (fun _ _ => (Eq.trans (by kernel_rfl) (cong9 (fun (x0 : Int) (x1 : Int) (x2 : Int) (x3 : Int) (x4 : Int) (x5 : Int) (x6 : Int) (x8 : Int) (x10 : Bool) => (.tuple #[.agg #[iv x0, iv x1, iv x2, iv x3, iv x4, iv x5, iv x6, SV.v ({}), iv x8, SV.v ({})], bv x10] : Value)) e0 e1 e2 e3 e4 e5 e6 e8 e10)).trans (by kernel_rfl)) (fun _ _ => trivial)
theorem usym_ctv (s : ByteArray) (rv0 : Int) (erv0 : rv0 = Un.dv (Un.sym s) 0) (rv1 : Int) (erv1 : rv1 = Un.dv (Un.sym s) 1) (rv2 : Int) (erv2 : rv2 = Un.dv (Un.sym s) 2) (rv3 : Int) (erv3 : rv3 = Un.dv (Un.sym s) 3) (rv4 : Int) (erv4 : rv4 = Un.dv (Un.sym s) 4) (rv5 : Int) (erv5 : rv5 = Un.dv (Un.sym s) 5) (rv6 : Int) (erv6 : rv6 = Fr.rS ((Un.sym s).isSome = true) (Un.fv (Un.sym s))) (rv7 : List Int) (erv7 : rv7 = Fr.rD ((Un.sym s).isSome = true) (Un.fv (Un.sym s))) (rv8 : Int) (erv8 : rv8 = Fr.rT ((Un.sym s).isSome = true)) (rv9 : List Int) (erv9 : rv9 = Fr.rE ((Un.sym s).isSome = true) (Un.fv (Un.sym s))) :
    Ct Try.prog 81 #[tv s] [] [] (fun g => .tuple #[.agg #[iv rv0, iv rv1, iv rv2, iv rv3, iv rv4, iv rv5, iv rv6, ((g.ss 0)).v, iv rv8, ((g.ss 1)).v], bv ((Un.sym s).isSome)]) (fun g => [fs true rv7 (g.ss 0), fs true rv9 (g.ss 1)]) (fun g => []) (fun g => []) := by
  subst erv0 erv1 erv2 erv3 erv4 erv5 erv6 erv7 erv8 erv9; exact usym_ct s 

open Go Go.Proofs
set_option maxRecDepth 10000 in
theorem upre_ct (c : Int) :
    Cp Try.prog 82 #[.int .u8 c] [] (.tuple #[iv (Un.pp (Un.pre c)), iv (Un.pq (Un.pre c)), bv ((Un.pre c).isSome)]) := by
  refine V.fn mo Try.func82 14 0 (by kernel_rfl) fun w H ε k0 => ?_
  clear k0
  refine V.g [.k (iv 0),.k (iv 0),.kb false] fun _ _ G1 => ?_
  intro S_ s_
  refine V.g [.k (.int .u8 c)] fun _ _ G2 => ?_
  intro S_ s_
  refine V.g [.k (bv (decide (c = 107))),.k (bv (decide (c = 107)))] fun _ _ G3 => ?_
  intro S_ s_
  refine V.cond (b := decide (c = 107)) iDT iDF (by kernel_rfl) (fun q1 => ?_) (fun q2 => ?_)
  · have hpx : Un.pre c = some (1000, 1) := by unfold Un.pre; rw [if_pos q1]
    refine V.g [.k (iv 1000),.k (iv 1),.kb true] fun _ _ G4 => ?_
    intro S_ s_
    have e0 : (1000 : Int) = Un.pp (Un.pre c) := by rw [hpx]; rfl
    have e1 : (1 : Int) = Un.pq (Un.pre c) := by rw [hpx]; rfl
    have e2 : true = (Un.pre c).isSome := by rw [hpx]; rfl
    exact V.ret [0, 0, 0] [] [] [] [] [] (.tuple #[iv 1000, iv 1, bv true]) (fun _ _ => by kernel_rfl) (fun _ _ => (Eq.trans (by kernel_rfl) (cong3 (fun (x0 : Int) (x1 : Int) (x2 : Bool) => (.tuple #[iv x0, iv x1, bv x2] : Value)) e0 e1 e2)).trans (by kernel_rfl)) (fun _ _ => trivial)
  have hpn0 := q2
  refine V.g [.k (bv (decide (c = 77))),.k (bv (decide (c = 77)))] fun _ _ G5 => ?_
  intro S_ s_
  refine V.cond (b := decide (c = 77)) iDT iDF (by kernel_rfl) (fun q3 => ?_) (fun q4 => ?_)
  · have hpx : Un.pre c = some (1000000, 1) := by unfold Un.pre; rw [if_neg hpn0, if_pos q3]
    refine V.g [.k (iv 1000000),.k (iv 1),.kb true] fun _ _ G6 => ?_
    intro S_ s_
    have e0 : (1000000 : Int) = Un.pp (Un.pre c) := by rw [hpx]; rfl
    have e1 : (1 : Int) = Un.pq (Un.pre c) := by rw [hpx]; rfl
    have e2 : true = (Un.pre c).isSome := by rw [hpx]; rfl
    exact V.ret [0, 0, 0] [] [] [] [] [] (.tuple #[iv 1000000, iv 1, bv true]) (fun _ _ => by kernel_rfl) (fun _ _ => (Eq.trans (by kernel_rfl) (cong3 (fun (x0 : Int) (x1 : Int) (x2 : Bool) => (.tuple #[iv x0, iv x1, bv x2] : Value)) e0 e1 e2)).trans (by kernel_rfl)) (fun _ _ => trivial)
  have hpn1 := q4
  refine V.g [.k (bv (decide (c = 71))),.k (bv (decide (c = 71)))] fun _ _ G7 => ?_
  intro S_ s_
  refine V.cond (b := decide (c = 71)) iDT iDF (by kernel_rfl) (fun q5 => ?_) (fun q6 => ?_)
  · have hpx : Un.pre c = some (1000000000, 1) := by unfold Un.pre; rw [if_neg hpn0, if_neg hpn1, if_pos q5]
    refine V.g [.k (iv 1000000000),.k (iv 1),.kb true] fun _ _ G8 => ?_
    intro S_ s_
    have e0 : (1000000000 : Int) = Un.pp (Un.pre c) := by rw [hpx]; rfl
    have e1 : (1 : Int) = Un.pq (Un.pre c) := by rw [hpx]; rfl
    have e2 : true = (Un.pre c).isSome := by rw [hpx]; rfl
    exact V.ret [0, 0, 0] [] [] [] [] [] (.tuple #[iv 1000000000, iv 1, bv true]) (fun _ _ => by kernel_rfl) (fun _ _ => (Eq.trans (by kernel_rfl) (cong3 (fun (x0 : Int) (x1 : Int) (x2 : Bool) => (.tuple #[iv x0, iv x1, bv x2] : Value)) e0 e1 e2)).trans (by kernel_rfl)) (fun _ _ => trivial)
  have hpn2 := q6
  refine V.g [.k (bv (decide (c = 109))),.k (bv (decide (c = 109)))] fun _ _ G9 => ?_
  intro S_ s_
  refine V.cond (b := decide (c = 109)) iDT iDF (by kernel_rfl) (fun q7 => ?_) (fun q8 => ?_)
  · have hpx : Un.pre c = some (1, 1000) := by unfold Un.pre; rw [if_neg hpn0, if_neg hpn1, if_neg hpn2, if_pos q7]
    refine V.g [.k (iv 1),.k (iv 1000),.kb true] fun _ _ G10 => ?_
    intro S_ s_
    have e0 : (1 : Int) = Un.pp (Un.pre c) := by rw [hpx]; rfl
    have e1 : (1000 : Int) = Un.pq (Un.pre c) := by rw [hpx]; rfl
    have e2 : true = (Un.pre c).isSome := by rw [hpx]; rfl
    exact V.ret [0, 0, 0] [] [] [] [] [] (.tuple #[iv 1, iv 1000, bv true]) (fun _ _ => by kernel_rfl) (fun _ _ => (Eq.trans (by kernel_rfl) (cong3 (fun (x0 : Int) (x1 : Int) (x2 : Bool) => (.tuple #[iv x0, iv x1, bv x2] : Value)) e0 e1 e2)).trans (by kernel_rfl)) (fun _ _ => trivial)
  have hpn3 := q8
  have hpx : Un.pre c = none := by unfold Un.pre; rw [if_neg hpn0, if_neg hpn1, if_neg hpn2, if_neg hpn3]
  refine V.g [.k (iv 0),.k (iv 0),.kb false] fun _ _ G11 => ?_
  intro S_ s_
  have e0 : (0 : Int) = Un.pp (Un.pre c) := by rw [hpx]; rfl
  have e1 : (0 : Int) = Un.pq (Un.pre c) := by rw [hpx]; rfl
  have e2 : false = (Un.pre c).isSome := by rw [hpx]; rfl
  exact V.ret [0, 0, 0] [] [] [] [] [] (.tuple #[iv 0, iv 0, bv false]) (fun _ _ => by kernel_rfl) (fun _ _ => (Eq.trans (by kernel_rfl) (cong3 (fun (x0 : Int) (x1 : Int) (x2 : Bool) => (.tuple #[iv x0, iv x1, bv x2] : Value)) e0 e1 e2)).trans (by kernel_rfl)) (fun _ _ => trivial)
theorem upre_ctv (c : Int) (rv0 : Int) (erv0 : rv0 = Un.pp (Un.pre c)) (rv1 : Int) (erv1 : rv1 = Un.pq (Un.pre c)) :
    Cp Try.prog 82 #[.int .u8 c] [] (.tuple #[iv rv0, iv rv1, bv ((Un.pre c).isSome)]) := by
  subst erv0 erv1; exact upre_ct c 
set_option maxRecDepth 10000 in
theorem upfx_ct (s : ByteArray) :
    Cp Try.prog 83 #[tv s] [] (bv (decide (Un.pf s))) := by
  refine V.fn mo Try.func83 11 0 (by kernel_rfl) fun w H ε k0 => ?_
  clear k0
  refine V.g [.kb false] fun _ _ G1 => ?_
  intro S_ s_
  refine V.g [.k (tv s)] fun _ _ G2 => ?_
  intro S_ s_
  refine V.g [.seq s ⟨#[103]⟩,.k (bv (decide (s = ⟨#[103]⟩)))] fun _ _ G3 => ?_
  intro S_ s_
  refine V.cond (b := decide (s = ⟨#[103]⟩)) iDT iDF (by kernel_rfl) (fun q1 => ?_) (fun q2 => ?_)
  · have hpe : s = ⟨#[103]⟩ := q1
    have hpf : Un.pf s := by rw [q1]; decide
    refine V.cond (b := decide (s = ⟨#[103]⟩)) iDT iDF (by kernel_rfl) (fun q3 => ?_) (fun q4 => ?_)
    · have hpe : s = ⟨#[103]⟩ := q3
      have hpf : Un.pf s := by rw [q3]; decide
      refine V.g [.kb true] fun _ _ G4 => ?_
      intro S_ s_
      have e0 : true = decide (Un.pf s) := by refine (decide_eq_true ?_).symm; have hqq := q3; first | exact hpf | exact hqq | (rw [hqq]; decide)
      exact V.ret [0] [] [] [] [] [] (bv true) (fun _ _ => by kernel_rfl) (fun _ _ => (Eq.trans (by kernel_rfl) (cong1 (fun (x0 : Bool) => (bv x0 : Value)) e0)).trans (by kernel_rfl)) (fun _ _ => trivial)
    have hfn0 : ¬ s = ⟨#[103]⟩ := q4
    refine V.g [.kb false] fun _ _ G5 => ?_
    intro S_ s_
    have e0 : false = decide (Un.pf s) := by refine (decide_eq_false ?_).symm; have hqq := q4; first | exact absurd hpe hqq | (unfold Un.pf; rintro (((((h | h) | h) | h) | h) | h) <;> first | exact hfn0 h | exact hfn1 h | exact hfn2 h | exact hfn3 h | exact hfn4 h | exact hqq h)
    exact V.ret [0] [] [] [] [] [] (bv false) (fun _ _ => by kernel_rfl) (fun _ _ => (Eq.trans (by kernel_rfl) (cong1 (fun (x0 : Bool) => (bv x0 : Value)) e0)).trans (by kernel_rfl)) (fun _ _ => trivial)
  have hfn0 : ¬ s = ⟨#[103]⟩ := q2
  refine V.g [.seq s ⟨#[109]⟩,.k (bv (decide (s = ⟨#[109]⟩)))] fun _ _ G6 => ?_
  intro S_ s_
  refine V.cond (b := decide (s = ⟨#[109]⟩)) iDT iDF (by kernel_rfl) (fun q5 => ?_) (fun q6 => ?_)
  · have hpe : s = ⟨#[109]⟩ := q5
    have hpf : Un.pf s := by rw [q5]; decide
    refine V.cond (b := decide (s = ⟨#[109]⟩)) iDT iDF (by kernel_rfl) (fun q7 => ?_) (fun q8 => ?_)
    · have hpe : s = ⟨#[109]⟩ := q7
      have hpf : Un.pf s := by rw [q7]; decide
      refine V.g [.kb true] fun _ _ G7 => ?_
      intro S_ s_
      have e0 : true = decide (Un.pf s) := by refine (decide_eq_true ?_).symm; have hqq := q7; first | exact hpf | exact hqq | (rw [hqq]; decide)
      exact V.ret [0] [] [] [] [] [] (bv true) (fun _ _ => by kernel_rfl) (fun _ _ => (Eq.trans (by kernel_rfl) (cong1 (fun (x0 : Bool) => (bv x0 : Value)) e0)).trans (by kernel_rfl)) (fun _ _ => trivial)
    have hfn1 : ¬ s = ⟨#[109]⟩ := q8
    refine V.g [.kb false] fun _ _ G8 => ?_
    intro S_ s_
    have e0 : false = decide (Un.pf s) := by refine (decide_eq_false ?_).symm; have hqq := q8; first | exact absurd hpe hqq | (unfold Un.pf; rintro (((((h | h) | h) | h) | h) | h) <;> first | exact hfn0 h | exact hfn1 h | exact hfn2 h | exact hfn3 h | exact hfn4 h | exact hqq h)
    exact V.ret [0] [] [] [] [] [] (bv false) (fun _ _ => by kernel_rfl) (fun _ _ => (Eq.trans (by kernel_rfl) (cong1 (fun (x0 : Bool) => (bv x0 : Value)) e0)).trans (by kernel_rfl)) (fun _ _ => trivial)
  have hfn1 : ¬ s = ⟨#[109]⟩ := q6
  refine V.g [.seq s ⟨#[108]⟩,.k (bv (decide (s = ⟨#[108]⟩)))] fun _ _ G9 => ?_
  intro S_ s_
  refine V.cond (b := decide (s = ⟨#[108]⟩)) iDT iDF (by kernel_rfl) (fun q9 => ?_) (fun q10 => ?_)
  · have hpe : s = ⟨#[108]⟩ := q9
    have hpf : Un.pf s := by rw [q9]; decide
    refine V.cond (b := decide (s = ⟨#[108]⟩)) iDT iDF (by kernel_rfl) (fun q11 => ?_) (fun q12 => ?_)
    · have hpe : s = ⟨#[108]⟩ := q11
      have hpf : Un.pf s := by rw [q11]; decide
      refine V.g [.kb true] fun _ _ G10 => ?_
      intro S_ s_
      have e0 : true = decide (Un.pf s) := by refine (decide_eq_true ?_).symm; have hqq := q11; first | exact hpf | exact hqq | (rw [hqq]; decide)
      exact V.ret [0] [] [] [] [] [] (bv true) (fun _ _ => by kernel_rfl) (fun _ _ => (Eq.trans (by kernel_rfl) (cong1 (fun (x0 : Bool) => (bv x0 : Value)) e0)).trans (by kernel_rfl)) (fun _ _ => trivial)
    have hfn2 : ¬ s = ⟨#[108]⟩ := q12
    refine V.g [.kb false] fun _ _ G11 => ?_
    intro S_ s_
    have e0 : false = decide (Un.pf s) := by refine (decide_eq_false ?_).symm; have hqq := q12; first | exact absurd hpe hqq | (unfold Un.pf; rintro (((((h | h) | h) | h) | h) | h) <;> first | exact hfn0 h | exact hfn1 h | exact hfn2 h | exact hfn3 h | exact hfn4 h | exact hqq h)
    exact V.ret [0] [] [] [] [] [] (bv false) (fun _ _ => by kernel_rfl) (fun _ _ => (Eq.trans (by kernel_rfl) (cong1 (fun (x0 : Bool) => (bv x0 : Value)) e0)).trans (by kernel_rfl)) (fun _ _ => trivial)
  have hfn2 : ¬ s = ⟨#[108]⟩ := q10
  refine V.g [.seq s ⟨#[115]⟩,.k (bv (decide (s = ⟨#[115]⟩)))] fun _ _ G12 => ?_
  intro S_ s_
  refine V.cond (b := decide (s = ⟨#[115]⟩)) iDT iDF (by kernel_rfl) (fun q13 => ?_) (fun q14 => ?_)
  · have hpe : s = ⟨#[115]⟩ := q13
    have hpf : Un.pf s := by rw [q13]; decide
    refine V.cond (b := decide (s = ⟨#[115]⟩)) iDT iDF (by kernel_rfl) (fun q15 => ?_) (fun q16 => ?_)
    · have hpe : s = ⟨#[115]⟩ := q15
      have hpf : Un.pf s := by rw [q15]; decide
      refine V.g [.kb true] fun _ _ G13 => ?_
      intro S_ s_
      have e0 : true = decide (Un.pf s) := by refine (decide_eq_true ?_).symm; have hqq := q15; first | exact hpf | exact hqq | (rw [hqq]; decide)
      exact V.ret [0] [] [] [] [] [] (bv true) (fun _ _ => by kernel_rfl) (fun _ _ => (Eq.trans (by kernel_rfl) (cong1 (fun (x0 : Bool) => (bv x0 : Value)) e0)).trans (by kernel_rfl)) (fun _ _ => trivial)
    have hfn3 : ¬ s = ⟨#[115]⟩ := q16
    refine V.g [.kb false] fun _ _ G14 => ?_
    intro S_ s_
    have e0 : false = decide (Un.pf s) := by refine (decide_eq_false ?_).symm; have hqq := q16; first | exact absurd hpe hqq | (unfold Un.pf; rintro (((((h | h) | h) | h) | h) | h) <;> first | exact hfn0 h | exact hfn1 h | exact hfn2 h | exact hfn3 h | exact hfn4 h | exact hqq h)
    exact V.ret [0] [] [] [] [] [] (bv false) (fun _ _ => by kernel_rfl) (fun _ _ => (Eq.trans (by kernel_rfl) (cong1 (fun (x0 : Bool) => (bv x0 : Value)) e0)).trans (by kernel_rfl)) (fun _ _ => trivial)
  have hfn3 : ¬ s = ⟨#[115]⟩ := q14
  refine V.g [.seq s ⟨#[74]⟩,.k (bv (decide (s = ⟨#[74]⟩)))] fun _ _ G15 => ?_
  intro S_ s_
  refine V.cond (b := decide (s = ⟨#[74]⟩)) iDT iDF (by kernel_rfl) (fun q17 => ?_) (fun q18 => ?_)
  · have hpe : s = ⟨#[74]⟩ := q17
    have hpf : Un.pf s := by rw [q17]; decide
    refine V.cond (b := decide (s = ⟨#[74]⟩)) iDT iDF (by kernel_rfl) (fun q19 => ?_) (fun q20 => ?_)
    · have hpe : s = ⟨#[74]⟩ := q19
      have hpf : Un.pf s := by rw [q19]; decide
      refine V.g [.kb true] fun _ _ G16 => ?_
      intro S_ s_
      have e0 : true = decide (Un.pf s) := by refine (decide_eq_true ?_).symm; have hqq := q19; first | exact hpf | exact hqq | (rw [hqq]; decide)
      exact V.ret [0] [] [] [] [] [] (bv true) (fun _ _ => by kernel_rfl) (fun _ _ => (Eq.trans (by kernel_rfl) (cong1 (fun (x0 : Bool) => (bv x0 : Value)) e0)).trans (by kernel_rfl)) (fun _ _ => trivial)
    have hfn4 : ¬ s = ⟨#[74]⟩ := q20
    refine V.g [.kb false] fun _ _ G17 => ?_
    intro S_ s_
    have e0 : false = decide (Un.pf s) := by refine (decide_eq_false ?_).symm; have hqq := q20; first | exact absurd hpe hqq | (unfold Un.pf; rintro (((((h | h) | h) | h) | h) | h) <;> first | exact hfn0 h | exact hfn1 h | exact hfn2 h | exact hfn3 h | exact hfn4 h | exact hqq h)
    exact V.ret [0] [] [] [] [] [] (bv false) (fun _ _ => by kernel_rfl) (fun _ _ => (Eq.trans (by kernel_rfl) (cong1 (fun (x0 : Bool) => (bv x0 : Value)) e0)).trans (by kernel_rfl)) (fun _ _ => trivial)
  have hfn4 : ¬ s = ⟨#[74]⟩ := q18
  refine V.g [.seq s ⟨#[87, 104]⟩,.k (bv (decide (s = ⟨#[87, 104]⟩)))] fun _ _ G18 => ?_
  intro S_ s_
  refine V.cond (b := decide (s = ⟨#[87, 104]⟩)) iDT iDF (by kernel_rfl) (fun q21 => ?_) (fun q22 => ?_)
  · refine V.g [.kb true] fun _ _ G19 => ?_
    intro S_ s_
    have e0 : true = decide (Un.pf s) := by refine (decide_eq_true ?_).symm; have hqq := q21; first | exact hpf | exact hqq | (rw [hqq]; decide)
    exact V.ret [0] [] [] [] [] [] (bv true) (fun _ _ => by kernel_rfl) (fun _ _ => (Eq.trans (by kernel_rfl) (cong1 (fun (x0 : Bool) => (bv x0 : Value)) e0)).trans (by kernel_rfl)) (fun _ _ => trivial)
  refine V.g [.kb false] fun _ _ G20 => ?_
  intro S_ s_
  have e0 : false = decide (Un.pf s) := by refine (decide_eq_false ?_).symm; have hqq := q22; first | exact absurd hpe hqq | (unfold Un.pf; rintro (((((h | h) | h) | h) | h) | h) <;> first | exact hfn0 h | exact hfn1 h | exact hfn2 h | exact hfn3 h | exact hfn4 h | exact hqq h)
  exact V.ret [0] [] [] [] [] [] (bv false) (fun _ _ => by kernel_rfl) (fun _ _ => (Eq.trans (by kernel_rfl) (cong1 (fun (x0 : Bool) => (bv x0 : Value)) e0)).trans (by kernel_rfl)) (fun _ _ => trivial)
set_option maxRecDepth 10000 in
theorem ultr_ct (c : Int) :
    Cp Try.prog 115 #[.int .u8 c] [] (bv (decide (Un.ltr c))) := by
  refine V.fn mo Try.func115 17 0 (by kernel_rfl) fun w H ε k0 => ?_
  clear k0
  refine V.g [.kb false] fun _ _ G1 => ?_
  intro S_ s_
  refine nm (((decide (97 ≤ c)) && (decide (c ≤ 122))) || ((decide (65 ≤ c)) && (decide (c ≤ 90))) : Bool) fun p1 hp1 => ?_
  refine V.g [.k (.int .u8 c),.k (bv (decide (97 ≤ c))),.k (bv (decide (97 ≤ c))),.k (.int .u8 c),.k (bv (decide (c ≤ 122))),.and g0 false (decide (97 ≤ c)) (decide (c ≤ 122)),.k (bv ((decide (97 ≤ c)) && (decide (c ≤ 122)))),.k (.int .u8 c),.k (bv (decide (65 ≤ c))),.k (bv (decide (65 ≤ c))),.k (.int .u8 c),.k (bv (decide (c ≤ 90))),.and (gF (b := (decide (97 ≤ c)) && (decide (c ≤ 122))) (iAF iDF iDF)) false (decide (65 ≤ c)) (decide (c ≤ 90)),.orn g0 false ((decide (97 ≤ c)) && (decide (c ≤ 122))) ((decide (65 ≤ c)) && (decide (c ≤ 90))) p1 hp1,.k (bv p1)] fun _ _ G2 => ?_
  intro S_ s_
  have e0 : p1 = decide (Un.ltr c) := by
    refine Bool.eq_iff_iff.2 (Iff.trans (iN hp1 (iOT (iAT iDT iDT) (iAT iDT iDT))) (Iff.trans ?_ decide_eq_true_iff.symm))
    exact Iff.rfl
  exact V.ret [0] [] [] [] [] [] (bv p1) (fun _ _ => by kernel_rfl) (fun _ _ => (Eq.trans (by kernel_rfl) (cong1 (fun (x0 : Bool) => (bv x0 : Value)) e0)).trans (by kernel_rfl)) (fun _ _ => trivial)

open Go Go.Proofs
set_option maxRecDepth 10000 in
theorem uword_ct (s : ByteArray) (hs0 : 0 < s.size) :
    Ct Try.prog 47 #[tv s] [] [] (fun g => .tuple #[.agg #[iv (Un.dv (Un.word s) 0), iv (Un.dv (Un.word s) 1), iv (Un.dv (Un.word s) 2), iv (Un.dv (Un.word s) 3), iv (Un.dv (Un.word s) 4), iv (Un.dv (Un.word s) 5), iv (Fr.rS ((Un.word s).isSome = true) (Un.fv (Un.word s))), ((g.ss 0)).v, iv (Fr.rT ((Un.word s).isSome = true)), ((g.ss 1)).v], bv ((Un.word s).isSome)]) (fun g => [fs true (Fr.rD ((Un.word s).isSome = true) (Un.fv (Un.word s))) (g.ss 0), fs true (Fr.rE ((Un.word s).isSome = true) (Un.fv (Un.word s))) (g.ss 1)]) (fun g => []) (fun g => []) := by
  refine V.fn mo Try.func47 61 4 (by kernel_rfl) fun w H ε k0 => ?_
  clear k0
  refine V.g [.nb 0 0 (fun b => pp b 0) 32 (fun _ => #[iv 0, iv 0, iv 0, iv 0, iv 0, iv 0, iv 0, .slice none 0 0, iv 0, .slice none 0 0]),.kb false] fun _ _ G1 => ?_
  intro S_ s_
  refine nm (Un.dv (Un.sym s) 0 : Int) fun n1 hn1 => ?_
  refine nm (Un.dv (Un.sym s) 1 : Int) fun n2 hn2 => ?_
  refine nm (Un.dv (Un.sym s) 2 : Int) fun n3 hn3 => ?_
  refine nm (Un.dv (Un.sym s) 3 : Int) fun n4 hn4 => ?_
  refine nm (Un.dv (Un.sym s) 4 : Int) fun n5 hn5 => ?_
  refine nm (Un.dv (Un.sym s) 5 : Int) fun n6 hn6 => ?_
  refine nm (Fr.rS ((Un.sym s).isSome = true) (Un.fv (Un.sym s)) : Int) fun n7 hn7 => ?_
  refine nm (Fr.rD ((Un.sym s).isSome = true) (Un.fv (Un.sym s)) : List Int) fun l1 hl1 => ?_
  have hl1n := congrArg List.length hl1
  refine nm (Fr.rT ((Un.sym s).isSome = true) : Int) fun n8 hn8 => ?_
  refine nm (Fr.rE ((Un.sym s).isSome = true) (Un.fv (Un.sym s)) : List Int) fun l2 hl2 => ?_
  have hl2n := congrArg List.length hl2
  refine V.r [.k (tv s),.ct g0 1 81 false [] [] [] (fun _ G => usym_ctv s n1 hn1 n2 hn2 n3 hn3 n4 hn4 n5 hn5 n6 hn6 n7 hn7 l1 hl1 n8 hn8 l2 hl2),.v fun G => .tuple #[.agg #[iv n1, iv n2, iv n3, iv n4, iv n5, iv n6, iv n7, ((G 1).ss 0).v, iv n8, ((G 1).ss 1).v], bv ((Un.sym s).isSome)],.v fun G => .agg #[iv n1, iv n2, iv n3, iv n4, iv n5, iv n6, iv n7, ((G 1).ss 0).v, iv n8, ((G 1).ss 1).v],.k (bv ((Un.sym s).isSome)),.nb 5 1 (fun b => pp b 0) 32 (fun _ => #[iv 0, iv 0, iv 0, iv 0, iv 0, iv 0, iv 0, .slice none 0 0, iv 0, .slice none 0 0]),.st 1 (fun G => .blk ((G 5).b) #[iv n1, iv n2, iv n3, iv n4, iv n5, iv n6, iv n7, ((G 1).ss 0).v, iv n8, ((G 1).ss 1).v] 32),.k (bv ((Un.sym s).isSome))] fun _ _ G2 kw2 => ?_
  intro S_ s_
  obtain ⟨⟨kl1, -⟩, ⟨kl2, -⟩, -⟩ : Lq l1 (((G2 1).ss 0).v) ∧ Lq l2 (((G2 1).ss 1).v) ∧ True := kn kw2 (by kernel_rfl)
  clear kw2
  refine V.g [.k (bv ((Un.sym s).isSome))] fun _ _ G3 => ?_
  intro S_ s_
  refine V.cond (b := (Un.sym s).isSome) Iff.rfl Iff.rfl (by kernel_rfl) (fun q1 => ?_) (fun q2 => ?_)
  · have hsy : (Un.sym s).isSome = true := by have hqq := q1; simpa using hqq
    refine V.g [.ld 1 0 true (fun _ => [iv n1, iv n2, iv n3, iv n4, iv n5, iv n6, iv n7, ((G2 1).ss 0).v, iv n8, ((G2 1).ss 1).v]),.st 0 (fun _ => .blk ((G1 0).b) #[iv n1, iv n2, iv n3, iv n4, iv n5, iv n6, iv n7, ((G2 1).ss 0).v, iv n8, ((G2 1).ss 1).v] 32),.kb true] fun _ _ G4 => ?_
    intro S_ s_
    have e7 : l1 = Fr.rD ((Un.word s).isSome = true) (Un.fv (Un.word s)) := by
      rw [hl1]
      rw [Un.word_y hsy]
    subst e7
    have e9 : l2 = Fr.rE ((Un.word s).isSome = true) (Un.fv (Un.word s)) := by
      rw [hl2]
      rw [Un.word_y hsy]
    subst e9
    have e0 : n1 = Un.dv (Un.word s) 0 := by
      rw [hn1]
      rw [Un.word_y hsy]
    have e1 : n2 = Un.dv (Un.word s) 1 := by
      rw [hn2]
      rw [Un.word_y hsy]
    have e2 : n3 = Un.dv (Un.word s) 2 := by
      rw [hn3]
      rw [Un.word_y hsy]
    have e3 : n4 = Un.dv (Un.word s) 3 := by
      rw [hn4]
      rw [Un.word_y hsy]
    have e4 : n5 = Un.dv (Un.word s) 4 := by
      rw [hn5]
      rw [Un.word_y hsy]
    have e5 : n6 = Un.dv (Un.word s) 5 := by
      rw [hn6]
      rw [Un.word_y hsy]
    have e6 : n7 = Fr.rS ((Un.word s).isSome = true) (Un.fv (Un.word s)) := by
      rw [hn7]
      rw [Un.word_y hsy]
    have e8 : n8 = Fr.rT ((Un.word s).isSome = true) := by
      rw [hn8]
      rw [Un.word_y hsy]
    have e10 : true = (Un.word s).isSome := by rw [Un.word_y hsy, hsy]
    exact V.ret [0, 0] [(G2 1).ss 0, (G2 1).ss 1] [fun _ => {}, fun _ => {}] [] [0, 1] [] (.tuple #[.agg #[iv n1, iv n2, iv n3, iv n4, iv n5, iv n6, iv n7, ((G2 1).ss 0).v, iv n8, ((G2 1).ss 1).v], bv true]) (fun _ _ => by kernel_rfl) (fun _ _ => (Eq.trans (by kernel_rfl) (cong9 (fun (x0 : Int) (x1 : Int) (x2 : Int) (x3 : Int) (x4 : Int) (x5 : Int) (x6 : Int) (x8 : Int) (x10 : Bool) => (.tuple #[.agg #[iv x0, iv x1, iv x2, iv x3, iv x4, iv x5, iv x6, ((G2 1).ss 0).v, iv x8, ((G2 1).ss 1).v], bv x10] : Value)) e0 e1 e2 e3 e4 e5 e6 e8 e10)).trans (by kernel_rfl)) (fun _ _ => trivial)
  have hsn : ¬ (Un.sym s).isSome = true := by have hqq := q2; simpa using hqq
  refine nm ((bl s).getD (0 : Int).toNat default : UInt8) fun c1 hc1 => ?_
  refine nm (Un.pp (Un.pre (c1.toNat : Int)) : Int) fun n9 hn9 => ?_
  refine nm (Un.pq (Un.pre (c1.toNat : Int)) : Int) fun n10 hn10 => ?_
  refine V.g [.k (tv s),.sid g0 s (0 : Int) c1 hc1 (fun _ => ⟨by omega, by omega⟩),.cp g0 2 82 [] (fun _ G => upre_ctv (c1.toNat : Int) n9 hn9 n10 hn10),.k (.tuple #[iv n9, iv n10, bv ((Un.pre (c1.toNat : Int)).isSome)]),.k (iv n9),.k (iv n10),.k (bv ((Un.pre (c1.toNat : Int)).isSome)),.k (iv n9),.k (iv n10),.k (bv ((Un.pre (c1.toNat : Int)).isSome))] fun _ _ G5 => ?_
  intro S_ s_
  refine nm (s.extract (1 : Int).toNat (s.size : Int).toNat : ByteArray) fun t1 ht1 => ?_
  have ht1n : t1.size = min (s.size : Int).toNat s.size - (1 : Int).toNat := by rw [ht1, ByteArray.size_extract]
  refine nm (Un.dv (Un.sym t1) 0 : Int) fun n11 hn11 => ?_
  refine nm (Un.dv (Un.sym t1) 1 : Int) fun n12 hn12 => ?_
  refine nm (Un.dv (Un.sym t1) 2 : Int) fun n13 hn13 => ?_
  refine nm (Un.dv (Un.sym t1) 3 : Int) fun n14 hn14 => ?_
  refine nm (Un.dv (Un.sym t1) 4 : Int) fun n15 hn15 => ?_
  refine nm (Un.dv (Un.sym t1) 5 : Int) fun n16 hn16 => ?_
  refine nm (Fr.rS ((Un.sym t1).isSome = true) (Un.fv (Un.sym t1)) : Int) fun n17 hn17 => ?_
  refine nm (Fr.rD ((Un.sym t1).isSome = true) (Un.fv (Un.sym t1)) : List Int) fun l3 hl3 => ?_
  have hl3n := congrArg List.length hl3
  refine nm (Fr.rT ((Un.sym t1).isSome = true) : Int) fun n18 hn18 => ?_
  refine nm (Fr.rE ((Un.sym t1).isSome = true) (Un.fv (Un.sym t1)) : List Int) fun l4 hl4 => ?_
  have hl4n := congrArg List.length hl4
  refine V.r [.k (tv s),.ssl g0 s (some (1 : Int)) none 1 (s.size : Int) rfl rfl t1 ht1 (fun _ => ⟨by omega, by omega, by omega⟩),.ct g0 2 81 false [] [] [] (fun _ G => usym_ctv t1 n11 hn11 n12 hn12 n13 hn13 n14 hn14 n15 hn15 n16 hn16 n17 hn17 l3 hl3 n18 hn18 l4 hl4),.v fun G => .tuple #[.agg #[iv n11, iv n12, iv n13, iv n14, iv n15, iv n16, iv n17, ((G 2).ss 0).v, iv n18, ((G 2).ss 1).v], bv ((Un.sym t1).isSome)],.v fun G => .agg #[iv n11, iv n12, iv n13, iv n14, iv n15, iv n16, iv n17, ((G 2).ss 0).v, iv n18, ((G 2).ss 1).v],.k (bv ((Un.sym t1).isSome)),.nb 6 2 (fun b => pp b 0) 32 (fun _ => #[iv 0, iv 0, iv 0, iv 0, iv 0, iv 0, iv 0, .slice none 0 0, iv 0, .slice none 0 0]),.st 2 (fun G => .blk ((G 6).b) #[iv n11, iv n12, iv n13, iv n14, iv n15, iv n16, iv n17, ((G 2).ss 0).v, iv n18, ((G 2).ss 1).v] 32),.k (bv ((Un.sym t1).isSome))] fun _ _ G6 kw6 => ?_
  intro S_ s_
  obtain ⟨⟨kl3, -⟩, ⟨kl4, -⟩, -⟩ : Lq l3 (((G6 2).ss 0).v) ∧ Lq l4 (((G6 2).ss 1).v) ∧ True := kn kw6 (by kernel_rfl)
  clear kw6
  refine nm ((!((Un.pre (c1.toNat : Int)).isSome)) || (!((Un.sym t1).isSome)) : Bool) fun p1 hp1 => ?_
  refine V.g [.k (bv ((Un.pre (c1.toNat : Int)).isSome)),.k (bv (!((Un.pre (c1.toNat : Int)).isSome))),.k (bv (!((Un.pre (c1.toNat : Int)).isSome))),.k (bv ((Un.sym t1).isSome)),.k (bv (!((Un.sym t1).isSome))),.orn g0 false (!((Un.pre (c1.toNat : Int)).isSome)) (!((Un.sym t1).isSome)) p1 hp1,.k (bv p1),.k (tv s),.ssl (gF (b := p1) (iN hp1 (iOF (iNF Iff.rfl) (iNF Iff.rfl)))) s (some (1 : Int)) none 1 (s.size : Int) rfl rfl t1 ht1 (fun hg => ⟨by omega, by omega, by omega⟩),.cp (gF (b := p1) (iN hp1 (iOF (iNF Iff.rfl) (iNF Iff.rfl)))) 9 83 [] (fun hg G => upfx_ct t1),.k (bv (!(decide (Un.pf t1)))),.or g0 false p1 (!(decide (Un.pf t1)))] fun _ _ G7 => ?_
  intro S_ s_
  refine V.cond (b := p1 || (!(decide (Un.pf t1)))) (iOT (iN hp1 (iOT (iNT Iff.rfl) (iNT Iff.rfl))) (iNT iDF)) (iOF (iN hp1 (iOF (iNF Iff.rfl) (iNF Iff.rfl))) (iNF iDT)) (by kernel_rfl) (fun q3 => ?_) (fun q4 => ?_)
  · have hwe : Un.wdB s = ((Un.pre (c1.toNat : Int)).isSome = true ∧ (Un.sym t1).isSome = true ∧ Un.pf t1) := by rw [ht1, hc1]; rfl
    have hwk : ¬ Un.wdB s := by rw [hwe]; rintro ⟨h1, h2, h3⟩; have hqq := q3; simp [h1, h2, h3] at hqq
    have hwn := Un.word_n hsn hwk
    refine V.g [.k (.agg #[iv 0, iv 0, iv 0, iv 0, iv 0, iv 0, iv 0, .slice none 0 0, iv 0, .slice none 0 0]),.st 0 (fun _ => .blk ((G1 0).b) #[iv 0, iv 0, iv 0, iv 0, iv 0, iv 0, iv 0, .slice none 0 0, iv 0, .slice none 0 0] 32),.kb false] fun _ _ G8 => ?_
    intro S_ s_
    refine V.nilF (α := Int) ?_
    refine V.nilF (α := Int) ?_
    have e7 : ([] : List Int) = Fr.rD ((Un.word s).isSome = true) (Un.fv (Un.word s)) := (Fr.Fz.no (Un.is_n hwn) (Un.fv (Un.word s))).2.1
    rw [← e7]
    have e9 : ([] : List Int) = Fr.rE ((Un.word s).isSome = true) (Un.fv (Un.word s)) := (Fr.Fz.no (Un.is_n hwn) (Un.fv (Un.word s))).2.2.2
    rw [← e9]
    have e0 : (0 : Int) = Un.dv (Un.word s) 0 := (Un.dv_n hwn 0).symm
    have e1 : (0 : Int) = Un.dv (Un.word s) 1 := (Un.dv_n hwn 1).symm
    have e2 : (0 : Int) = Un.dv (Un.word s) 2 := (Un.dv_n hwn 2).symm
    have e3 : (0 : Int) = Un.dv (Un.word s) 3 := (Un.dv_n hwn 3).symm
    have e4 : (0 : Int) = Un.dv (Un.word s) 4 := (Un.dv_n hwn 4).symm
    have e5 : (0 : Int) = Un.dv (Un.word s) 5 := (Un.dv_n hwn 5).symm
    have e6 : (0 : Int) = Fr.rS ((Un.word s).isSome = true) (Un.fv (Un.word s)) := (Fr.Fz.no (Un.is_n hwn) (Un.fv (Un.word s))).1
    have e8 : (0 : Int) = Fr.rT ((Un.word s).isSome = true) := (Fr.Fz.no (Un.is_n hwn) (Un.fv (Un.word s))).2.2.1
    have e10 : false = (Un.word s).isSome := by rw [hwn]; rfl
    exact V.ret [0, 0] [{}, {}] [fun _ => {}, fun _ => {}] [] [4, 5] [] (.tuple #[.agg #[iv 0, iv 0, iv 0, iv 0, iv 0, iv 0, iv 0, SV.v ({}), iv 0, SV.v ({})], bv false]) (fun _ _ => by kernel_rfl) (fun _ _ => (Eq.trans (by kernel_rfl) (cong9 (fun (x0 : Int) (x1 : Int) (x2 : Int) (x3 : Int) (x4 : Int) (x5 : Int) (x6 : Int) (x8 : Int) (x10 : Bool) => (.tuple #[.agg #[iv x0, iv x1, iv x2, iv x3, iv x4, iv x5, iv x6, SV.v ({}), iv x8, SV.v ({})], bv x10] : Value)) e0 e1 e2 e3 e4 e5 e6 e8 e10)).trans (by kernel_rfl)) (fun _ _ => trivial)
  have hwe : Un.wdB s = ((Un.pre (c1.toNat : Int)).isSome = true ∧ (Un.sym t1).isSome = true ∧ Un.pf t1) := by rw [ht1, hc1]; rfl
  have hwk : Un.wdB s := by rw [hwe]; have hqq := q4; simpa [and_assoc] using hqq
  have hwk2 := hwe.mp hwk
  have hpr := Un.pre_ok hwk2.1
  rw [← hn9, ← hn10] at hpr
  have hwp : Un.word s = some (((Un.sym t1).getD ([], 0)).1, Un.fv (Un.sym t1) * Rat.divInt n9 n10) := by rw [hn9, hn10, ht1, hc1]; exact Un.word_p hsn hwk
  have zs := Fr.Fz.of hwk2.2.1 hn17 hl3 hn18 hl4
  have hzs := zs.len (Un.sym_ok (Un.some_of hwk2.2.1)).2.2.2
  have hzs1 := hzs.1; have hzs2 := hzs.2
  refine nm (Fr.rS (n10 ≠ 0) (Rat.divInt n9 n10) : Int) fun n19 hn19 => ?_
  refine nm (Fr.rD (n10 ≠ 0) (Rat.divInt n9 n10) : List Int) fun l5 hl5 => ?_
  have hl5n := congrArg List.length hl5
  refine nm (Fr.rT (n10 ≠ 0) : Int) fun n20 hn20 => ?_
  refine nm (Fr.rE (n10 ≠ 0) (Rat.divInt n9 n10) : List Int) fun l6 hl6 => ?_
  have hl6n := congrArg List.length hl6
  refine nm (if n10 = 0 then (15 : Int) else 0 : Int) fun n21 hn21 => ?_
  refine V.r [.k (iv n9),.k (iv n10),.ct g0 2 84 false [] [] [] (fun _ G => fof_ctv n9 n10 (by omega) (by omega) n19 hn19 l5 hl5 n20 hn20 l6 hl6 n21 hn21),.v fun G => .tuple #[ag (DFrac.mk (DBig.mk n19 ⟨l5, (G 2).ss 0⟩) (DBig.mk n20 ⟨l6, (G 2).ss 1⟩)), iv n21],.v fun G => ag (DFrac.mk (DBig.mk n19 ⟨l5, (G 2).ss 0⟩) (DBig.mk n20 ⟨l6, (G 2).ss 1⟩)),.k (iv n21),.nb 6 3 (fun b => pp b 0) 30 (fun _ => ca (DFrac.mk (DBig.mk 0 ⟨[], {}⟩) (DBig.mk 0 ⟨[], {}⟩))),.st 3 (fun G => .blk ((G 6).b) (ca (DFrac.mk (DBig.mk n19 ⟨l5, (G 2).ss 0⟩) (DBig.mk n20 ⟨l6, (G 2).ss 1⟩))) 30),.k (iv n21)] fun _ _ G9 kw9 => ?_
  intro S_ s_
  obtain ⟨⟨kl5, -⟩, ⟨kl6, -⟩, -⟩ : Lq l5 (((G9 2).ss 0).v) ∧ Lq l6 (((G9 2).ss 1).v) ∧ True := kn kw9 (by kernel_rfl)
  clear kw9
  refine nm (Fr.rS (Fr.FrB n17 l3 n18 l4 ∧ Fr.FrB n19 l5 n20 l6) ((Fr.fq n17 l3 l4) * (Fr.fq n19 l5 l6)) : Int) fun n22 hn22 => ?_
  refine nm (Fr.rD (Fr.FrB n17 l3 n18 l4 ∧ Fr.FrB n19 l5 n20 l6) ((Fr.fq n17 l3 l4) * (Fr.fq n19 l5 l6)) : List Int) fun l7 hl7 => ?_
  have hl7n := congrArg List.length hl7
  refine nm (Fr.rT (Fr.FrB n17 l3 n18 l4 ∧ Fr.FrB n19 l5 n20 l6) : Int) fun n23 hn23 => ?_
  refine nm (Fr.rE (Fr.FrB n17 l3 n18 l4 ∧ Fr.FrB n19 l5 n20 l6) ((Fr.fq n17 l3 l4) * (Fr.fq n19 l5 l6)) : List Int) fun l8 hl8 => ?_
  have hl8n := congrArg List.length hl8
  refine nm (if ¬ (Fr.FrB n17 l3 n18 l4 ∧ Fr.FrB n19 l5 n20 l6) then (1 : Int) else 0 : Int) fun n24 hn24 => ?_
  have zf := Fr.Fz.of (show n10 ≠ 0 by omega) hn19 hl5 hn20 hl6
  have hzf := zf.len (Fr.Hb.divI (k := 3) (by omega) (by omega) (by omega))
  have hzf1 := hzf.1; have hzf2 := hzf.2
  have zw := Fr.Fz.of ⟨zs.rt, zf.rt⟩ hn22 hl7 hn23 hl8
  rw [zs.v, zf.v] at zw
  refine V.r [.k (pp ((G6 6).b) 6),.ld 2 6 true (fun _ => Dat.cells (DFrac.mk (DBig.mk n17 ⟨l3, (G6 2).ss 0⟩) (DBig.mk n18 ⟨l4, (G6 2).ss 1⟩))),.ld 3 0 true (fun _ => Dat.cells (DFrac.mk (DBig.mk n19 ⟨l5, (G9 2).ss 0⟩) (DBig.mk n20 ⟨l6, (G9 2).ss 1⟩))),.ct g0 3 20 false [] [] [(kf true (.f 2) l3 (fun _ => (G6 2).ss 0)).a, (kf true (.f 3) l4 (fun _ => (G6 2).ss 1)).a, (kf true (.f 4) l5 (fun _ => (G9 2).ss 0)).a, (kf true (.f 5) l6 (fun _ => (G9 2).ss 1)).a] (fun _ G => fmul_ctv n17 l3 ((G6 2).ss 0) n18 l4 ((G6 2).ss 1) n19 l5 ((G9 2).ss 0) n20 l6 ((G9 2).ss 1) (by omega) (by omega) (by omega) (by omega) n22 hn22 l7 hl7 n23 hn23 l8 hl8 n24 hn24),.v fun G => .tuple #[ag (DFrac.mk (DBig.mk n22 ⟨l7, (G 3).ss 0⟩) (DBig.mk n23 ⟨l8, (G 3).ss 1⟩)), iv n24],.v fun G => ag (DFrac.mk (DBig.mk n22 ⟨l7, (G 3).ss 0⟩) (DBig.mk n23 ⟨l8, (G 3).ss 1⟩)),.k (iv n24),.k (pp ((G6 6).b) 6),.st 2 (fun G => .blk ((G6 6).b) #[iv n11, iv n12, iv n13, iv n14, iv n15, iv n16, iv n22, ((G 3).ss 0).v, iv n23, ((G 3).ss 1).v] 32)] fun _ _ G10 kw10 => ?_
  intro S_ s_
  obtain ⟨⟨kl7, -⟩, ⟨kl8, -⟩, -⟩ : Lq l7 (((G10 3).ss 0).v) ∧ Lq l8 (((G10 3).ss 1).v) ∧ True := kn kw10 (by kernel_rfl)
  clear kw10
  refine V.g [.ld 2 0 true (fun _ => [iv n11, iv n12, iv n13, iv n14, iv n15, iv n16, iv n22, ((G10 3).ss 0).v, iv n23, ((G10 3).ss 1).v]),.st 0 (fun _ => .blk ((G1 0).b) #[iv n11, iv n12, iv n13, iv n14, iv n15, iv n16, iv n22, ((G10 3).ss 0).v, iv n23, ((G10 3).ss 1).v] 32),.kb true] fun _ _ G11 => ?_
  intro S_ s_
  have e7 : l7 = Fr.rD ((Un.word s).isSome = true) (Un.fv (Un.word s)) := (Fr.Fz.ret zw (Un.is_s hwp) (Un.fv_s hwp).symm).2.1
  subst e7
  have e9 : l8 = Fr.rE ((Un.word s).isSome = true) (Un.fv (Un.word s)) := (Fr.Fz.ret zw (Un.is_s hwp) (Un.fv_s hwp).symm).2.2.2
  subst e9
  have e0 : n11 = Un.dv (Un.word s) 0 := by
    rw [hn11, ht1]
    rw [Un.dv_s hwp, ht1]; rfl
  have e1 : n12 = Un.dv (Un.word s) 1 := by
    rw [hn12, ht1]
    rw [Un.dv_s hwp, ht1]; rfl
  have e2 : n13 = Un.dv (Un.word s) 2 := by
    rw [hn13, ht1]
    rw [Un.dv_s hwp, ht1]; rfl
  have e3 : n14 = Un.dv (Un.word s) 3 := by
    rw [hn14, ht1]
    rw [Un.dv_s hwp, ht1]; rfl
  have e4 : n15 = Un.dv (Un.word s) 4 := by
    rw [hn15, ht1]
    rw [Un.dv_s hwp, ht1]; rfl
  have e5 : n16 = Un.dv (Un.word s) 5 := by
    rw [hn16, ht1]
    rw [Un.dv_s hwp, ht1]; rfl
  have e6 : n22 = Fr.rS ((Un.word s).isSome = true) (Un.fv (Un.word s)) := (Fr.Fz.ret zw (Un.is_s hwp) (Un.fv_s hwp).symm).1
  have e8 : n23 = Fr.rT ((Un.word s).isSome = true) := (Fr.Fz.ret zw (Un.is_s hwp) (Un.fv_s hwp).symm).2.2.1
  have e10 : true = (Un.word s).isSome := by rw [hwp]; rfl
  exact V.ret [0, 0] [(G10 3).ss 0, (G10 3).ss 1] [fun _ => {}, fun _ => {}] [] [6, 7] [] (.tuple #[.agg #[iv n11, iv n12, iv n13, iv n14, iv n15, iv n16, iv n22, ((G10 3).ss 0).v, iv n23, ((G10 3).ss 1).v], bv true]) (fun _ _ => by kernel_rfl) (fun _ _ => (Eq.trans (by kernel_rfl) (cong9 (fun (x0 : Int) (x1 : Int) (x2 : Int) (x3 : Int) (x4 : Int) (x5 : Int) (x6 : Int) (x8 : Int) (x10 : Bool) => (.tuple #[.agg #[iv x0, iv x1, iv x2, iv x3, iv x4, iv x5, iv x6, ((G10 3).ss 0).v, iv x8, ((G10 3).ss 1).v], bv x10] : Value)) e0 e1 e2 e3 e4 e5 e6 e8 e10)).trans (by kernel_rfl)) (fun _ _ => trivial)
theorem uword_ctv (s : ByteArray) (hs0 : 0 < s.size) (rv0 : Int) (erv0 : rv0 = Un.dv (Un.word s) 0) (rv1 : Int) (erv1 : rv1 = Un.dv (Un.word s) 1) (rv2 : Int) (erv2 : rv2 = Un.dv (Un.word s) 2) (rv3 : Int) (erv3 : rv3 = Un.dv (Un.word s) 3) (rv4 : Int) (erv4 : rv4 = Un.dv (Un.word s) 4) (rv5 : Int) (erv5 : rv5 = Un.dv (Un.word s) 5) (rv6 : Int) (erv6 : rv6 = Fr.rS ((Un.word s).isSome = true) (Un.fv (Un.word s))) (rv7 : List Int) (erv7 : rv7 = Fr.rD ((Un.word s).isSome = true) (Un.fv (Un.word s))) (rv8 : Int) (erv8 : rv8 = Fr.rT ((Un.word s).isSome = true)) (rv9 : List Int) (erv9 : rv9 = Fr.rE ((Un.word s).isSome = true) (Un.fv (Un.word s))) :
    Ct Try.prog 47 #[tv s] [] [] (fun g => .tuple #[.agg #[iv rv0, iv rv1, iv rv2, iv rv3, iv rv4, iv rv5, iv rv6, ((g.ss 0)).v, iv rv8, ((g.ss 1)).v], bv ((Un.word s).isSome)]) (fun g => [fs true rv7 (g.ss 0), fs true rv9 (g.ss 1)]) (fun g => []) (fun g => []) := by
  subst erv0 erv1 erv2 erv3 erv4 erv5 erv6 erv7 erv8 erv9; exact uword_ct s hs0
set_option maxRecDepth 10000 in
theorem ucut_ct (s : ByteArray) (hs : s.size ≤ 1000000) :
    Cp Try.prog 79 #[tv s] [] (.tuple #[ag (Ditem.mk (Un.cuW s) (Un.cuE s)), tv (Un.cuR s), bv (decide (0 < Un.nl s))]) := by
  refine V.fn mo Try.func79 49 2 (by kernel_rfl) fun w H ε k0 => ?_
  clear k0
  refine V.g [.nb 0 0 (fun b => pp b 0) 80 (fun _ => ca (Ditem.mk ByteArray.empty 0)),.k (tv ByteArray.empty),.kb false] fun _ _ G1 => ?_
  intro S_ s_
  refine V.g [.k (iv 0)] fun _ _ G2 => ?_
  intro S_ s_
  refine V.loop (γ := Int) (fun n => ⟨[(0, tv s), (2, pp ((G1 0).b) 0), (5, iv n)], [], [.blk ((G1 0).b) (ca (Ditem.mk ByteArray.empty 0)) 80, .no]⟩) (fun n => (0 ≤ n) ∧ (n ≤ (s.size : Int)) ∧ (∀ j, j < n.toNat → Un.ltr (((bl s).getD j default).toNat : Int))) (fun n => ((s.size : Int) - n).toNat) 0 (by kernel_rfl) [] (by kernel_rfl) ?_ ?_
  · refine ⟨?_, ?_, ?_⟩
    · show 0 ≤ (0 : Int)
      omega
    · show (0 : Int) ≤ (s.size : Int)
      omega
    show ∀ j, j < (0 : Int).toNat → Un.ltr (((bl s).getD j default).toNat : Int)
    intro j hj; simp at hj
  rintro n hF1 kw3 Z1 hZ1
  have hF1 : (0 ≤ n) ∧ (n ≤ (s.size : Int)) ∧ (∀ j, j < n.toNat → Un.ltr (((bl s).getD j default).toNat : Int)) := hF1
  obtain ⟨hf1, hf2, hf3⟩ := hF1
  clear kw3
  refine nm ((bl s).getD n.toNat default : UInt8) fun c1 hc1 => ?_
  refine nm ((decide (n < (s.size : Int))) && (decide (Un.ltr (c1.toNat : Int))) : Bool) fun p1 hp1 => ?_
  refine V.g [.k (iv n),.k (tv s),.k (iv (s.size : Int)),.k (bv (decide (n < (s.size : Int)))),.k (bv (decide (n < (s.size : Int)))),.k (tv s),.k (iv n),.sid (gT (b := decide (n < (s.size : Int))) iDT) s n c1 hc1 (fun hg => ⟨by omega, by omega⟩),.cp (gT (b := decide (n < (s.size : Int))) iDT) 8 115 [] (fun hg G => ultr_ct (c1.toNat : Int)),.andn g0 false (decide (n < (s.size : Int))) (decide (Un.ltr (c1.toNat : Int))) p1 hp1] fun _ _ G3 => ?_
  intro S_ s_
  refine V.cond (b := p1) (iN hp1 (iAT iDT iDT)) (iN hp1 (iAF iDF iDF)) (by kernel_rfl) (fun q1 => ?_) (fun q2 => ?_)
  · refine V.g [.k (iv n),.a (n + 1) (by omega) (by omega),.k (iv (n + 1))] fun _ _ G4 => ?_
    intro S_ s_
    refine V.rnd hZ1 (n + 1) [] (by kernel_rfl) ?_ ?_
    · refine ⟨?_, ?_, ?_⟩
      · show 0 ≤ (n + 1)
        omega
      · show (n + 1) ≤ (s.size : Int)
        omega
      show ∀ j, j < (n + 1).toNat → Un.ltr (((bl s).getD j default).toNat : Int)
      intro j hj; by_cases e : j < n.toNat
      · exact hf3 j e
      rw [show j = n.toNat by omega, ← hc1]; exact (q1).2
    show ((s.size : Int) - (n + 1)).toNat < ((s.size : Int) - n).toNat
    omega
  have hnl : Un.nl s = n.toNat := Un.nl_at (by omega) hf3 (by have hqq := q2; rcases hqq with h | h; exact .inl (by omega); right; rw [hc1] at h; exact h)
  refine nm (s.extract (0 : Int).toNat n.toNat : ByteArray) fun t1 ht1 => ?_
  have ht1n : t1.size = min n.toNat s.size - (0 : Int).toNat := by rw [ht1, ByteArray.size_extract]
  refine V.g [.k (tv s),.k (iv n),.ssl g0 s none (some n) 0 n rfl rfl t1 ht1 (fun _ => ⟨by omega, by omega, by omega⟩),.k (ag (Ditem.mk t1 1)),.nb 4 1 (fun b => pp b 0) 80 (fun _ => ca (Ditem.mk ByteArray.empty 0)),.st 1 (fun G => .blk ((G 4).b) (ca (Ditem.mk t1 1)) 80)] fun _ _ G5 => ?_
  intro S_ s_
  refine nm (s.extract n.toNat (s.size : Int).toNat : ByteArray) fun t2 ht2 => ?_
  have ht2n : t2.size = min (s.size : Int).toNat s.size - n.toNat := by rw [ht2, ByteArray.size_extract]
  refine V.g [.k (tv s),.k (iv n),.ssl g0 s (some n) none n (s.size : Int) rfl rfl t2 ht2 (fun _ => ⟨by omega, by omega, by omega⟩),.k (tv t2)] fun _ _ G6 => ?_
  intro S_ s_
  have hrest : Un.rest s = t2 := by unfold Un.rest; rw [hnl, ht2]; rfl
  have hcw : Un.cuW s = t1 := by unfold Un.cuW; rw [hnl, ht1]; rfl
  refine nm ((bl t2).getD (0 : Int).toNat default : UInt8) fun c2 hc2 => ?_
  refine nm ((!(decide (t2 = ByteArray.empty))) && (decide (50 ≤ (c2.toNat : Int))) : Bool) fun p2 hp2 => ?_
  refine V.g [.k (tv t2),.sne t2 ByteArray.empty,.k (bv (!(decide (t2 = ByteArray.empty)))),.k (tv t2),.sid (gT (b := !(decide (t2 = ByteArray.empty))) (iNT iDF)) t2 (0 : Int) c2 hc2 (fun hg => ⟨by omega, by have := Dm.size_ne hg; omega⟩),.k (bv (decide (50 ≤ (c2.toNat : Int)))),.andn g0 false (!(decide (t2 = ByteArray.empty))) (decide (50 ≤ (c2.toNat : Int))) p2 hp2,.k (bv p2),.k (tv t2),.sid (gT (b := p2) (iN hp2 (iAT (iNT iDF) iDT))) t2 (0 : Int) c2 hc2 (fun hg => ⟨by omega, by have := Dm.size_ne hg.1; omega⟩),.k (bv (decide ((c2.toNat : Int) ≤ 57))),.and g0 false p2 (decide ((c2.toNat : Int) ≤ 57))] fun _ _ G7 => ?_
  intro S_ s_
  refine V.cond (b := p2 && (decide ((c2.toNat : Int) ≤ 57))) (iAT (iN hp2 (iAT (iNT iDF) iDT)) iDT) (iAF (iN hp2 (iAF (iNF iDT) iDF)) iDF) (by kernel_rfl) (fun q3 => ?_) (fun q4 => ?_)
  · obtain ⟨⟨hne, hlo⟩, hup⟩ := q3
    have hsz := Dm.size_ne hne
    have hcd : (bl t2).getD 0 default = c2 := hc2.symm
    have hnum : Un.num t2 := by unfold Un.num; rw [hcd]; exact ⟨⟨hne, hlo⟩, hup⟩
    refine nm ((c2.toNat : Int) - 48 : Int) fun n1 hn1 => ?_
    refine nm (t2.extract (1 : Int).toNat (t2.size : Int).toNat : ByteArray) fun t3 ht3 => ?_
    have ht3n : t3.size = min (t2.size : Int).toNat t2.size - (1 : Int).toNat := by rw [ht3, ByteArray.size_extract]
    refine V.g [.k (tv t2),.sid g0 t2 (0 : Int) c2 hc2 (fun _ => ⟨by omega, by omega⟩),.ek g0 .u8 ((c2.toNat : Int) - 48) n1 (fun _ => by rw [wrapU8]; omega),.arg g0 n1 n1 rfl (fun _ => by omega),.k (tv t2),.ssl g0 t2 (some (1 : Int)) none 1 (t2.size : Int) rfl rfl t3 ht3 (fun _ => ⟨by omega, by omega, by omega⟩),.k (pp ((G5 4).b) 1),.st 1 (fun _ => .blk ((G5 4).b) (ca (Ditem.mk t1 n1)) 80),.k (tv t3)] fun _ _ G8 => ?_
    intro S_ s_
    have hce : Un.cuE s = n1 := by unfold Un.cuE; rw [hrest, if_pos hnum, hcd, hn1]
    have hcr : Un.cuR s = t3 := by unfold Un.cuR; rw [hrest, if_pos hnum, ht3]; rfl
    refine V.g [.ld 1 0 true (fun _ => Dat.cells (Ditem.mk t1 n1)),.k (tv t3),.k (iv n),.k (bv (decide (0 < n))),.st 0 (fun _ => .blk ((G1 0).b) (ca (Ditem.mk t1 n1)) 80),.k (tv t3),.k (bv (decide (0 < n)))] fun _ _ G9 => ?_
    intro S_ s_
    have e0 : t1 = Un.cuW s := hcw.symm
    have e1 : n1 = Un.cuE s := hce.symm
    have e2 : t3 = Un.cuR s := hcr.symm
    have e3 : (decide (0 < n)) = decide (0 < Un.nl s) := by
      refine Bool.eq_iff_iff.2 (Iff.trans iDT (Iff.trans ?_ decide_eq_true_iff.symm))
      rw [hnl]; omega
    exact V.ret [0, 0, 0] [] [] [] [] [] (.tuple #[ag (Ditem.mk t1 n1), tv t3, bv (decide (0 < n))]) (fun _ _ => by kernel_rfl) (fun _ _ => (Eq.trans (by kernel_rfl) (cong4 (fun (x0 : ByteArray) (x1 : Int) (x2 : ByteArray) (x3 : Bool) => (.tuple #[.agg #[tv x0, iv x1], tv x2, bv x3] : Value)) e0 e1 e2 e3)).trans (by kernel_rfl)) (fun _ _ => trivial)
  have hcd : (bl t2).getD 0 default = c2 := hc2.symm
  have hnum : ¬ Un.num t2 := by unfold Un.num; rw [hcd]; rintro ⟨⟨h1, h2⟩, h3⟩; have hqq := q4; rcases hqq with (h | h) | h; exact h1 h; exact h h2; exact h h3
  have hce : Un.cuE s = 1 := by unfold Un.cuE; rw [hrest, if_neg hnum]
  have hcr : Un.cuR s = t2 := by unfold Un.cuR; rw [hrest, if_neg hnum]
  refine V.g [.ld 1 0 true (fun _ => Dat.cells (Ditem.mk t1 1)),.k (tv t2),.k (iv n),.k (bv (decide (0 < n))),.st 0 (fun _ => .blk ((G1 0).b) (ca (Ditem.mk t1 1)) 80),.k (tv t2),.k (bv (decide (0 < n)))] fun _ _ G10 => ?_
  intro S_ s_
  have e0 : t1 = Un.cuW s := hcw.symm
  have e1 : (1 : Int) = Un.cuE s := hce.symm
  have e2 : t2 = Un.cuR s := hcr.symm
  have e3 : (decide (0 < n)) = decide (0 < Un.nl s) := by
    refine Bool.eq_iff_iff.2 (Iff.trans iDT (Iff.trans ?_ decide_eq_true_iff.symm))
    rw [hnl]; omega
  exact V.ret [0, 0, 0] [] [] [] [] [] (.tuple #[ag (Ditem.mk t1 1), tv t2, bv (decide (0 < n))]) (fun _ _ => by kernel_rfl) (fun _ _ => (Eq.trans (by kernel_rfl) (cong4 (fun (x0 : ByteArray) (x1 : Int) (x2 : ByteArray) (x3 : Bool) => (.tuple #[.agg #[tv x0, iv x1], tv x2, bv x3] : Value)) e0 e1 e2 e3)).trans (by kernel_rfl)) (fun _ _ => trivial)
theorem ucut_ctv (s : ByteArray) (hs : s.size ≤ 1000000) (rv0 : ByteArray) (erv0 : rv0 = Un.cuW s) (rv1 : Int) (erv1 : rv1 = Un.cuE s) (rv2 : ByteArray) (erv2 : rv2 = Un.cuR s) :
    Cp Try.prog 79 #[tv s] [] (.tuple #[ag (Ditem.mk rv0 rv1), tv rv2, bv (decide (0 < Un.nl s))]) := by
  subst erv0 erv1 erv2; exact ucut_ct s hs
end Kb
