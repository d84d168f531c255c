/- Texts for the claim, put together: the calculus of regions, its rules, and contracts of the functions that the law reaches. -/
import Derived.Test.YtpnbgdgjgndicaaZuwf
import Derived.Test.YtpnbgdgjgndicaaZu013a
import Derived.Test.YtpnbgdgjgndicaaZu123a
import Derived.Lib.Join
set_option linter.unusedVariables false
set_option linter.unusedSectionVars false
set_option linter.unusedSimpArgs false
namespace Kb
open Go
theorem cong7 {α0 α1 α2 α3 α4 α5 α6 β : Type} (f : α0 → α1 → α2 → α3 → α4 → α5 → α6 → β) {a0 a0' : α0} (h0 : a0 = a0') {a1 a1' : α1} (h1 : a1 = a1') {a2 a2' : α2} (h2 : a2 = a2') {a3 a3' : α3} (h3 : a3 = a3') {a4 a4' : α4} (h4 : a4 = a4') {a5 a5' : α5} (h5 : a5 = a5') {a6 a6' : α6} (h6 : a6 = a6') : f a0 a1 a2 a3 a4 a5 a6 = f a0' a1' a2' a3' a4' a5' a6' := by subst h0 h1 h2 h3 h4 h5 h6; rfl

open Go
namespace Dm
def mkE (l : List Int) : Int := if Rt l then 0 else 3
def opV (p : Prop) [Decidable p] (l : List Int) (i : Nat) : Int := if p then mk l i else 0
def opE (p : Prop) [Decidable p] (l : List Int) : Int := if p then mkE l else 1
theorem mk_y {l : List Int} (h : Rt l) (i : Nat) : mk l i = l.getD i 0 := if_pos h
theorem mk_n {l : List Int} (h : ¬ Rt l) (i : Nat) : mk l i = 0 := if_neg h
theorem mkE_y {l : List Int} (h : Rt l) : mkE l = 0 := if_pos h
theorem mkE_n {l : List Int} (h : ¬ Rt l) : mkE l = 3 := if_neg h
theorem opV_y {p : Prop} [Decidable p] (h : p) (l : List Int) (i : Nat) : opV p l i = mk l i := if_pos h
theorem opV_n {p : Prop} [Decidable p] (h : ¬ p) (l : List Int) (i : Nat) : opV p l i = 0 := if_neg h
theorem opE_y {p : Prop} [Decidable p] (h : p) (l : List Int) : opE p l = mkE l := if_pos h
theorem opE_n {p : Prop} [Decidable p] (h : ¬ p) (l : List Int) : opE p l = 1 := if_neg h
end Dm

open Go Go.Proofs
set_option maxRecDepth 10000 in
theorem mulc_ct0 (ab : Nat) (a0 a1 a2 a3 a4 a5 : Int) (bb : Nat) (b0 b1 b2 b3 b4 b5 : Int) (ha : Dm.Rt [a0, a1, a2, a3, a4, a5]) (hb2 : Dm.Rt [b0, b1, b2, b3, b4, b5]) :
    Ct Try.prog 76 #[iv 0, pp ab 0, pp bb 0] [] [.blk ab #[iv a0, iv a1, iv a2, iv a3, iv a4, iv a5] 23, .blk bb #[iv b0, iv b1, iv b2, iv b3, iv b4, iv b5] 23] (fun g => iv (a0 + b0)) (fun g => []) (fun g => [.blk ab #[iv a0, iv a1, iv a2, iv a3, iv a4, iv a5] 23, .blk bb #[iv b0, iv b1, iv b2, iv b3, iv b4, iv b5] 23]) (fun g => []) := by
  refine V.fn mo Try.func76 12 0 (by kernel_rfl) fun w H ε k0 => ?_
  clear k0
  have ha6 := Dm.Rt6.1 ha; have hb6 := Dm.Rt6.1 hb2
  refine V.g [.k (iv 0)] fun _ _ G1 => ?_
  intro S_ s_
  refine V.g [.k (iv 0),.k (pp ab 0),.ld 0 0 false (fun _ => [iv a0]),.k (iv 0),.k (pp bb 0),.ld 1 0 false (fun _ => [iv b0]),.a (a0 + b0) (by omega) (by omega),.k (iv (a0 + b0))] fun _ _ G2 => ?_
  intro S_ s_
  exact V.ret [0] [] [] [] [] [0, 1] (iv (a0 + b0)) (fun _ _ => by kernel_rfl) (fun _ _ => by kernel_rfl) (fun _ _ => trivial)
theorem mulc_ct0v (ab : Nat) (a0 a1 a2 a3 a4 a5 : Int) (bb : Nat) (b0 b1 b2 b3 b4 b5 : Int) (ha : Dm.Rt [a0, a1, a2, a3, a4, a5]) (hb2 : Dm.Rt [b0, b1, b2, b3, b4, b5]) (rv0 : Int) (erv0 : rv0 = a0 + b0) :
    Ct Try.prog 76 #[iv 0, pp ab 0, pp bb 0] [] [.blk ab #[iv a0, iv a1, iv a2, iv a3, iv a4, iv a5] 23, .blk bb #[iv b0, iv b1, iv b2, iv b3, iv b4, iv b5] 23] (fun g => iv rv0) (fun g => []) (fun g => [.blk ab #[iv a0, iv a1, iv a2, iv a3, iv a4, iv a5] 23, .blk bb #[iv b0, iv b1, iv b2, iv b3, iv b4, iv b5] 23]) (fun g => []) := by
  subst erv0; exact mulc_ct0 ab a0 a1 a2 a3 a4 a5 bb b0 b1 b2 b3 b4 b5 ha hb2
set_option maxRecDepth 10000 in
theorem mulc_ct1 (ab : Nat) (a0 a1 a2 a3 a4 a5 : Int) (bb : Nat) (b0 b1 b2 b3 b4 b5 : Int) (ha : Dm.Rt [a0, a1, a2, a3, a4, a5]) (hb2 : Dm.Rt [b0, b1, b2, b3, b4, b5]) :
    Ct Try.prog 76 #[iv 1, pp ab 0, pp bb 0] [] [.blk ab #[iv a0, iv a1, iv a2, iv a3, iv a4, iv a5] 23, .blk bb #[iv b0, iv b1, iv b2, iv b3, iv b4, iv b5] 23] (fun g => iv (a1 + b1)) (fun g => []) (fun g => [.blk ab #[iv a0, iv a1, iv a2, iv a3, iv a4, iv a5] 23, .blk bb #[iv b0, iv b1, iv b2, iv b3, iv b4, iv b5] 23]) (fun g => []) := by
  refine V.fn mo Try.func76 12 0 (by kernel_rfl) fun w H ε k0 => ?_
  clear k0
  have ha6 := Dm.Rt6.1 ha; have hb6 := Dm.Rt6.1 hb2
  refine V.g [.k (iv 0)] fun _ _ G1 => ?_
  intro S_ s_
  refine V.g [.k (iv 1),.k (pp ab 1),.ld 0 1 false (fun _ => [iv a1]),.k (iv 1),.k (pp bb 1),.ld 1 1 false (fun _ => [iv b1]),.a (a1 + b1) (by omega) (by omega),.k (iv (a1 + b1))] fun _ _ G2 => ?_
  intro S_ s_
  exact V.ret [0] [] [] [] [] [0, 1] (iv (a1 + b1)) (fun _ _ => by kernel_rfl) (fun _ _ => by kernel_rfl) (fun _ _ => trivial)
theorem mulc_ct1v (ab : Nat) (a0 a1 a2 a3 a4 a5 : Int) (bb : Nat) (b0 b1 b2 b3 b4 b5 : Int) (ha : Dm.Rt [a0, a1, a2, a3, a4, a5]) (hb2 : Dm.Rt [b0, b1, b2, b3, b4, b5]) (rv0 : Int) (erv0 : rv0 = a1 + b1) :
    Ct Try.prog 76 #[iv 1, pp ab 0, pp bb 0] [] [.blk ab #[iv a0, iv a1, iv a2, iv a3, iv a4, iv a5] 23, .blk bb #[iv b0, iv b1, iv b2, iv b3, iv b4, iv b5] 23] (fun g => iv rv0) (fun g => []) (fun g => [.blk ab #[iv a0, iv a1, iv a2, iv a3, iv a4, iv a5] 23, .blk bb #[iv b0, iv b1, iv b2, iv b3, iv b4, iv b5] 23]) (fun g => []) := by
  subst erv0; exact mulc_ct1 ab a0 a1 a2 a3 a4 a5 bb b0 b1 b2 b3 b4 b5 ha hb2
set_option maxRecDepth 10000 in
theorem mulc_ct2 (ab : Nat) (a0 a1 a2 a3 a4 a5 : Int) (bb : Nat) (b0 b1 b2 b3 b4 b5 : Int) (ha : Dm.Rt [a0, a1, a2, a3, a4, a5]) (hb2 : Dm.Rt [b0, b1, b2, b3, b4, b5]) :
    Ct Try.prog 76 #[iv 2, pp ab 0, pp bb 0] [] [.blk ab #[iv a0, iv a1, iv a2, iv a3, iv a4, iv a5] 23, .blk bb #[iv b0, iv b1, iv b2, iv b3, iv b4, iv b5] 23] (fun g => iv (a2 + b2)) (fun g => []) (fun g => [.blk ab #[iv a0, iv a1, iv a2, iv a3, iv a4, iv a5] 23, .blk bb #[iv b0, iv b1, iv b2, iv b3, iv b4, iv b5] 23]) (fun g => []) := by
  refine V.fn mo Try.func76 12 0 (by kernel_rfl) fun w H ε k0 => ?_
  clear k0
  have ha6 := Dm.Rt6.1 ha; have hb6 := Dm.Rt6.1 hb2
  refine V.g [.k (iv 0)] fun _ _ G1 => ?_
  intro S_ s_
  refine V.g [.k (iv 2),.k (pp ab 2),.ld 0 2 false (fun _ => [iv a2]),.k (iv 2),.k (pp bb 2),.ld 1 2 false (fun _ => [iv b2]),.a (a2 + b2) (by omega) (by omega),.k (iv (a2 + b2))] fun _ _ G2 => ?_
  intro S_ s_
  exact V.ret [0] [] [] [] [] [0, 1] (iv (a2 + b2)) (fun _ _ => by kernel_rfl) (fun _ _ => by kernel_rfl) (fun _ _ => trivial)
theorem mulc_ct2v (ab : Nat) (a0 a1 a2 a3 a4 a5 : Int) (bb : Nat) (b0 b1 b2 b3 b4 b5 : Int) (ha : Dm.Rt [a0, a1, a2, a3, a4, a5]) (hb2 : Dm.Rt [b0, b1, b2, b3, b4, b5]) (rv0 : Int) (erv0 : rv0 = a2 + b2) :
    Ct Try.prog 76 #[iv 2, pp ab 0, pp bb 0] [] [.blk ab #[iv a0, iv a1, iv a2, iv a3, iv a4, iv a5] 23, .blk bb #[iv b0, iv b1, iv b2, iv b3, iv b4, iv b5] 23] (fun g => iv rv0) (fun g => []) (fun g => [.blk ab #[iv a0, iv a1, iv a2, iv a3, iv a4, iv a5] 23, .blk bb #[iv b0, iv b1, iv b2, iv b3, iv b4, iv b5] 23]) (fun g => []) := by
  subst erv0; exact mulc_ct2 ab a0 a1 a2 a3 a4 a5 bb b0 b1 b2 b3 b4 b5 ha hb2
set_option maxRecDepth 10000 in
theorem mulc_ct3 (ab : Nat) (a0 a1 a2 a3 a4 a5 : Int) (bb : Nat) (b0 b1 b2 b3 b4 b5 : Int) (ha : Dm.Rt [a0, a1, a2, a3, a4, a5]) (hb2 : Dm.Rt [b0, b1, b2, b3, b4, b5]) :
    Ct Try.prog 76 #[iv 3, pp ab 0, pp bb 0] [] [.blk ab #[iv a0, iv a1, iv a2, iv a3, iv a4, iv a5] 23, .blk bb #[iv b0, iv b1, iv b2, iv b3, iv b4, iv b5] 23] (fun g => iv (a3 + b3)) (fun g => []) (fun g => [.blk ab #[iv a0, iv a1, iv a2, iv a3, iv a4, iv a5] 23, .blk bb #[iv b0, iv b1, iv b2, iv b3, iv b4, iv b5] 23]) (fun g => []) := by
  refine V.fn mo Try.func76 12 0 (by kernel_rfl) fun w H ε k0 => ?_
  clear k0
  have ha6 := Dm.Rt6.1 ha; have hb6 := Dm.Rt6.1 hb2
  refine V.g [.k (iv 0)] fun _ _ G1 => ?_
  intro S_ s_
  refine V.g [.k (iv 3),.k (pp ab 3),.ld 0 3 false (fun _ => [iv a3]),.k (iv 3),.k (pp bb 3),.ld 1 3 false (fun _ => [iv b3]),.a (a3 + b3) (by omega) (by omega),.k (iv (a3 + b3))] fun _ _ G2 => ?_
  intro S_ s_
  exact V.ret [0] [] [] [] [] [0, 1] (iv (a3 + b3)) (fun _ _ => by kernel_rfl) (fun _ _ => by kernel_rfl) (fun _ _ => trivial)
theorem mulc_ct3v (ab : Nat) (a0 a1 a2 a3 a4 a5 : Int) (bb : Nat) (b0 b1 b2 b3 b4 b5 : Int) (ha : Dm.Rt [a0, a1, a2, a3, a4, a5]) (hb2 : Dm.Rt [b0, b1, b2, b3, b4, b5]) (rv0 : Int) (erv0 : rv0 = a3 + b3) :
    Ct Try.prog 76 #[iv 3, pp ab 0, pp bb 0] [] [.blk ab #[iv a0, iv a1, iv a2, iv a3, iv a4, iv a5] 23, .blk bb #[iv b0, iv b1, iv b2, iv b3, iv b4, iv b5] 23] (fun g => iv rv0) (fun g => []) (fun g => [.blk ab #[iv a0, iv a1, iv a2, iv a3, iv a4, iv a5] 23, .blk bb #[iv b0, iv b1, iv b2, iv b3, iv b4, iv b5] 23]) (fun g => []) := by
  subst erv0; exact mulc_ct3 ab a0 a1 a2 a3 a4 a5 bb b0 b1 b2 b3 b4 b5 ha hb2
set_option maxRecDepth 10000 in
theorem mulc_ct4 (ab : Nat) (a0 a1 a2 a3 a4 a5 : Int) (bb : Nat) (b0 b1 b2 b3 b4 b5 : Int) (ha : Dm.Rt [a0, a1, a2, a3, a4, a5]) (hb2 : Dm.Rt [b0, b1, b2, b3, b4, b5]) :
    Ct Try.prog 76 #[iv 4, pp ab 0, pp bb 0] [] [.blk ab #[iv a0, iv a1, iv a2, iv a3, iv a4, iv a5] 23, .blk bb #[iv b0, iv b1, iv b2, iv b3, iv b4, iv b5] 23] (fun g => iv (a4 + b4)) (fun g => []) (fun g => [.blk ab #[iv a0, iv a1, iv a2, iv a3, iv a4, iv a5] 23, .blk bb #[iv b0, iv b1, iv b2, iv b3, iv b4, iv b5] 23]) (fun g => []) := by
  refine V.fn mo Try.func76 12 0 (by kernel_rfl) fun w H ε k0 => ?_
  clear k0
  have ha6 := Dm.Rt6.1 ha; have hb6 := Dm.Rt6.1 hb2
  refine V.g [.k (iv 0)] fun _ _ G1 => ?_
  intro S_ s_
  refine V.g [.k (iv 4),.k (pp ab 4),.ld 0 4 false (fun _ => [iv a4]),.k (iv 4),.k (pp bb 4),.ld 1 4 false (fun _ => [iv b4]),.a (a4 + b4) (by omega) (by omega),.k (iv (a4 + b4))] fun _ _ G2 => ?_
  intro S_ s_
  exact V.ret [0] [] [] [] [] [0, 1] (iv (a4 + b4)) (fun _ _ => by kernel_rfl) (fun _ _ => by kernel_rfl) (fun _ _ => trivial)
theorem mulc_ct4v (ab : Nat) (a0 a1 a2 a3 a4 a5 : Int) (bb : Nat) (b0 b1 b2 b3 b4 b5 : Int) (ha : Dm.Rt [a0, a1, a2, a3, a4, a5]) (hb2 : Dm.Rt [b0, b1, b2, b3, b4, b5]) (rv0 : Int) (erv0 : rv0 = a4 + b4) :
    Ct Try.prog 76 #[iv 4, pp ab 0, pp bb 0] [] [.blk ab #[iv a0, iv a1, iv a2, iv a3, iv a4, iv a5] 23, .blk bb #[iv b0, iv b1, iv b2, iv b3, iv b4, iv b5] 23] (fun g => iv rv0) (fun g => []) (fun g => [.blk ab #[iv a0, iv a1, iv a2, iv a3, iv a4, iv a5] 23, .blk bb #[iv b0, iv b1, iv b2, iv b3, iv b4, iv b5] 23]) (fun g => []) := by
  subst erv0; exact mulc_ct4 ab a0 a1 a2 a3 a4 a5 bb b0 b1 b2 b3 b4 b5 ha hb2
set_option maxRecDepth 10000 in
theorem mulc_ct5 (ab : Nat) (a0 a1 a2 a3 a4 a5 : Int) (bb : Nat) (b0 b1 b2 b3 b4 b5 : Int) (ha : Dm.Rt [a0, a1, a2, a3, a4, a5]) (hb2 : Dm.Rt [b0, b1, b2, b3, b4, b5]) :
    Ct Try.prog 76 #[iv 5, pp ab 0, pp bb 0] [] [.blk ab #[iv a0, iv a1, iv a2, iv a3, iv a4, iv a5] 23, .blk bb #[iv b0, iv b1, iv b2, iv b3, iv b4, iv b5] 23] (fun g => iv (a5 + b5)) (fun g => []) (fun g => [.blk ab #[iv a0, iv a1, iv a2, iv a3, iv a4, iv a5] 23, .blk bb #[iv b0, iv b1, iv b2, iv b3, iv b4, iv b5] 23]) (fun g => []) := by
  refine V.fn mo Try.func76 12 0 (by kernel_rfl) fun w H ε k0 => ?_
  clear k0
  have ha6 := Dm.Rt6.1 ha; have hb6 := Dm.Rt6.1 hb2
  refine V.g [.k (iv 0)] fun _ _ G1 => ?_
  intro S_ s_
  refine V.g [.k (iv 5),.k (pp ab 5),.ld 0 5 false (fun _ => [iv a5]),.k (iv 5),.k (pp bb 5),.ld 1 5 false (fun _ => [iv b5]),.a (a5 + b5) (by omega) (by omega),.k (iv (a5 + b5))] fun _ _ G2 => ?_
  intro S_ s_
  exact V.ret [0] [] [] [] [] [0, 1] (iv (a5 + b5)) (fun _ _ => by kernel_rfl) (fun _ _ => by kernel_rfl) (fun _ _ => trivial)
theorem mulc_ct5v (ab : Nat) (a0 a1 a2 a3 a4 a5 : Int) (bb : Nat) (b0 b1 b2 b3 b4 b5 : Int) (ha : Dm.Rt [a0, a1, a2, a3, a4, a5]) (hb2 : Dm.Rt [b0, b1, b2, b3, b4, b5]) (rv0 : Int) (erv0 : rv0 = a5 + b5) :
    Ct Try.prog 76 #[iv 5, pp ab 0, pp bb 0] [] [.blk ab #[iv a0, iv a1, iv a2, iv a3, iv a4, iv a5] 23, .blk bb #[iv b0, iv b1, iv b2, iv b3, iv b4, iv b5] 23] (fun g => iv rv0) (fun g => []) (fun g => [.blk ab #[iv a0, iv a1, iv a2, iv a3, iv a4, iv a5] 23, .blk bb #[iv b0, iv b1, iv b2, iv b3, iv b4, iv b5] 23]) (fun g => []) := by
  subst erv0; exact mulc_ct5 ab a0 a1 a2 a3 a4 a5 bb b0 b1 b2 b3 b4 b5 ha hb2
set_option maxRecDepth 10000 in
theorem divc_ct0 (ab : Nat) (a0 a1 a2 a3 a4 a5 : Int) (bb : Nat) (b0 b1 b2 b3 b4 b5 : Int) (ha : Dm.Rt [a0, a1, a2, a3, a4, a5]) (hb2 : Dm.Rt [b0, b1, b2, b3, b4, b5]) :
    Ct Try.prog 112 #[iv 0, pp ab 0, pp bb 0] [] [.blk ab #[iv a0, iv a1, iv a2, iv a3, iv a4, iv a5] 23, .blk bb #[iv b0, iv b1, iv b2, iv b3, iv b4, iv b5] 23] (fun g => iv (a0 - b0)) (fun g => []) (fun g => [.blk ab #[iv a0, iv a1, iv a2, iv a3, iv a4, iv a5] 23, .blk bb #[iv b0, iv b1, iv b2, iv b3, iv b4, iv b5] 23]) (fun g => []) := by
  refine V.fn mo Try.func112 12 0 (by kernel_rfl) fun w H ε k0 => ?_
  clear k0
  have ha6 := Dm.Rt6.1 ha; have hb6 := Dm.Rt6.1 hb2
  refine V.g [.k (iv 0)] fun _ _ G1 => ?_
  intro S_ s_
  refine V.g [.k (iv 0),.k (pp ab 0),.ld 0 0 false (fun _ => [iv a0]),.k (iv 0),.k (pp bb 0),.ld 1 0 false (fun _ => [iv b0]),.a (a0 - b0) (by omega) (by omega),.k (iv (a0 - b0))] fun _ _ G2 => ?_
  intro S_ s_
  exact V.ret [0] [] [] [] [] [0, 1] (iv (a0 - b0)) (fun _ _ => by kernel_rfl) (fun _ _ => by kernel_rfl) (fun _ _ => trivial)
theorem divc_ct0v (ab : Nat) (a0 a1 a2 a3 a4 a5 : Int) (bb : Nat) (b0 b1 b2 b3 b4 b5 : Int) (ha : Dm.Rt [a0, a1, a2, a3, a4, a5]) (hb2 : Dm.Rt [b0, b1, b2, b3, b4, b5]) (rv0 : Int) (erv0 : rv0 = a0 - b0) :
    Ct Try.prog 112 #[iv 0, pp ab 0, pp bb 0] [] [.blk ab #[iv a0, iv a1, iv a2, iv a3, iv a4, iv a5] 23, .blk bb #[iv b0, iv b1, iv b2, iv b3, iv b4, iv b5] 23] (fun g => iv rv0) (fun g => []) (fun g => [.blk ab #[iv a0, iv a1, iv a2, iv a3, iv a4, iv a5] 23, .blk bb #[iv b0, iv b1, iv b2, iv b3, iv b4, iv b5] 23]) (fun g => []) := by
  subst erv0; exact divc_ct0 ab a0 a1 a2 a3 a4 a5 bb b0 b1 b2 b3 b4 b5 ha hb2
set_option maxRecDepth 10000 in
theorem divc_ct1 (ab : Nat) (a0 a1 a2 a3 a4 a5 : Int) (bb : Nat) (b0 b1 b2 b3 b4 b5 : Int) (ha : Dm.Rt [a0, a1, a2, a3, a4, a5]) (hb2 : Dm.Rt [b0, b1, b2, b3, b4, b5]) :
    Ct Try.prog 112 #[iv 1, pp ab 0, pp bb 0] [] [.blk ab #[iv a0, iv a1, iv a2, iv a3, iv a4, iv a5] 23, .blk bb #[iv b0, iv b1, iv b2, iv b3, iv b4, iv b5] 23] (fun g => iv (a1 - b1)) (fun g => []) (fun g => [.blk ab #[iv a0, iv a1, iv a2, iv a3, iv a4, iv a5] 23, .blk bb #[iv b0, iv b1, iv b2, iv b3, iv b4, iv b5] 23]) (fun g => []) := by
  refine V.fn mo Try.func112 12 0 (by kernel_rfl) fun w H ε k0 => ?_
  clear k0
  have ha6 := Dm.Rt6.1 ha; have hb6 := Dm.Rt6.1 hb2
  refine V.g [.k (iv 0)] fun _ _ G1 => ?_
  intro S_ s_
  refine V.g [.k (iv 1),.k (pp ab 1),.ld 0 1 false (fun _ => [iv a1]),.k (iv 1),.k (pp bb 1),.ld 1 1 false (fun _ => [iv b1]),.a (a1 - b1) (by omega) (by omega),.k (iv (a1 - b1))] fun _ _ G2 => ?_
  intro S_ s_
  exact V.ret [0] [] [] [] [] [0, 1] (iv (a1 - b1)) (fun _ _ => by kernel_rfl) (fun _ _ => by kernel_rfl) (fun _ _ => trivial)
theorem divc_ct1v (ab : Nat) (a0 a1 a2 a3 a4 a5 : Int) (bb : Nat) (b0 b1 b2 b3 b4 b5 : Int) (ha : Dm.Rt [a0, a1, a2, a3, a4, a5]) (hb2 : Dm.Rt [b0, b1, b2, b3, b4, b5]) (rv0 : Int) (erv0 : rv0 = a1 - b1) :
    Ct Try.prog 112 #[iv 1, pp ab 0, pp bb 0] [] [.blk ab #[iv a0, iv a1, iv a2, iv a3, iv a4, iv a5] 23, .blk bb #[iv b0, iv b1, iv b2, iv b3, iv b4, iv b5] 23] (fun g => iv rv0) (fun g => []) (fun g => [.blk ab #[iv a0, iv a1, iv a2, iv a3, iv a4, iv a5] 23, .blk bb #[iv b0, iv b1, iv b2, iv b3, iv b4, iv b5] 23]) (fun g => []) := by
  subst erv0; exact divc_ct1 ab a0 a1 a2 a3 a4 a5 bb b0 b1 b2 b3 b4 b5 ha hb2
set_option maxRecDepth 10000 in
theorem divc_ct2 (ab : Nat) (a0 a1 a2 a3 a4 a5 : Int) (bb : Nat) (b0 b1 b2 b3 b4 b5 : Int) (ha : Dm.Rt [a0, a1, a2, a3, a4, a5]) (hb2 : Dm.Rt [b0, b1, b2, b3, b4, b5]) :
    Ct Try.prog 112 #[iv 2, pp ab 0, pp bb 0] [] [.blk ab #[iv a0, iv a1, iv a2, iv a3, iv a4, iv a5] 23, .blk bb #[iv b0, iv b1, iv b2, iv b3, iv b4, iv b5] 23] (fun g => iv (a2 - b2)) (fun g => []) (fun g => [.blk ab #[iv a0, iv a1, iv a2, iv a3, iv a4, iv a5] 23, .blk bb #[iv b0, iv b1, iv b2, iv b3, iv b4, iv b5] 23]) (fun g => []) := by
  refine V.fn mo Try.func112 12 0 (by kernel_rfl) fun w H ε k0 => ?_
  clear k0
  have ha6 := Dm.Rt6.1 ha; have hb6 := Dm.Rt6.1 hb2
  refine V.g [.k (iv 0)] fun _ _ G1 => ?_
  intro S_ s_
  refine V.g [.k (iv 2),.k (pp ab 2),.ld 0 2 false (fun _ => [iv a2]),.k (iv 2),.k (pp bb 2),.ld 1 2 false (fun _ => [iv b2]),.a (a2 - b2) (by omega) (by omega),.k (iv (a2 - b2))] fun _ _ G2 => ?_
  intro S_ s_
  exact V.ret [0] [] [] [] [] [0, 1] (iv (a2 - b2)) (fun _ _ => by kernel_rfl) (fun _ _ => by kernel_rfl) (fun _ _ => trivial)
theorem divc_ct2v (ab : Nat) (a0 a1 a2 a3 a4 a5 : Int) (bb : Nat) (b0 b1 b2 b3 b4 b5 : Int) (ha : Dm.Rt [a0, a1, a2, a3, a4, a5]) (hb2 : Dm.Rt [b0, b1, b2, b3, b4, b5]) (rv0 : Int) (erv0 : rv0 = a2 - b2) :
    Ct Try.prog 112 #[iv 2, pp ab 0, pp bb 0] [] [.blk ab #[iv a0, iv a1, iv a2, iv a3, iv a4, iv a5] 23, .blk bb #[iv b0, iv b1, iv b2, iv b3, iv b4, iv b5] 23] (fun g => iv rv0) (fun g => []) (fun g => [.blk ab #[iv a0, iv a1, iv a2, iv a3, iv a4, iv a5] 23, .blk bb #[iv b0, iv b1, iv b2, iv b3, iv b4, iv b5] 23]) (fun g => []) := by
  subst erv0; exact divc_ct2 ab a0 a1 a2 a3 a4 a5 bb b0 b1 b2 b3 b4 b5 ha hb2
set_option maxRecDepth 10000 in
theorem divc_ct3 (ab : Nat) (a0 a1 a2 a3 a4 a5 : Int) (bb : Nat) (b0 b1 b2 b3 b4 b5 : Int) (ha : Dm.Rt [a0, a1, a2, a3, a4, a5]) (hb2 : Dm.Rt [b0, b1, b2, b3, b4, b5]) :
    Ct Try.prog 112 #[iv 3, pp ab 0, pp bb 0] [] [.blk ab #[iv a0, iv a1, iv a2, iv a3, iv a4, iv a5] 23, .blk bb #[iv b0, iv b1, iv b2, iv b3, iv b4, iv b5] 23] (fun g => iv (a3 - b3)) (fun g => []) (fun g => [.blk ab #[iv a0, iv a1, iv a2, iv a3, iv a4, iv a5] 23, .blk bb #[iv b0, iv b1, iv b2, iv b3, iv b4, iv b5] 23]) (fun g => []) := by
  refine V.fn mo Try.func112 12 0 (by kernel_rfl) fun w H ε k0 => ?_
  clear k0
  have ha6 := Dm.Rt6.1 ha; have hb6 := Dm.Rt6.1 hb2
  refine V.g [.k (iv 0)] fun _ _ G1 => ?_
  intro S_ s_
  refine V.g [.k (iv 3),.k (pp ab 3),.ld 0 3 false (fun _ => [iv a3]),.k (iv 3),.k (pp bb 3),.ld 1 3 false (fun _ => [iv b3]),.a (a3 - b3) (by omega) (by omega),.k (iv (a3 - b3))] fun _ _ G2 => ?_
  intro S_ s_
  exact V.ret [0] [] [] [] [] [0, 1] (iv (a3 - b3)) (fun _ _ => by kernel_rfl) (fun _ _ => by kernel_rfl) (fun _ _ => trivial)
theorem divc_ct3v (ab : Nat) (a0 a1 a2 a3 a4 a5 : Int) (bb : Nat) (b0 b1 b2 b3 b4 b5 : Int) (ha : Dm.Rt [a0, a1, a2, a3, a4, a5]) (hb2 : Dm.Rt [b0, b1, b2, b3, b4, b5]) (rv0 : Int) (erv0 : rv0 = a3 - b3) :
    Ct Try.prog 112 #[iv 3, pp ab 0, pp bb 0] [] [.blk ab #[iv a0, iv a1, iv a2, iv a3, iv a4, iv a5] 23, .blk bb #[iv b0, iv b1, iv b2, iv b3, iv b4, iv b5] 23] (fun g => iv rv0) (fun g => []) (fun g => [.blk ab #[iv a0, iv a1, iv a2, iv a3, iv a4, iv a5] 23, .blk bb #[iv b0, iv b1, iv b2, iv b3, iv b4, iv b5] 23]) (fun g => []) := by
  subst erv0; exact divc_ct3 ab a0 a1 a2 a3 a4 a5 bb b0 b1 b2 b3 b4 b5 ha hb2
set_option maxRecDepth 10000 in
theorem divc_ct4 (ab : Nat) (a0 a1 a2 a3 a4 a5 : Int) (bb : Nat) (b0 b1 b2 b3 b4 b5 : Int) (ha : Dm.Rt [a0, a1, a2, a3, a4, a5]) (hb2 : Dm.Rt [b0, b1, b2, b3, b4, b5]) :
    Ct Try.prog 112 #[iv 4, pp ab 0, pp bb 0] [] [.blk ab #[iv a0, iv a1, iv a2, iv a3, iv a4, iv a5] 23, .blk bb #[iv b0, iv b1, iv b2, iv b3, iv b4, iv b5] 23] (fun g => iv (a4 - b4)) (fun g => []) (fun g => [.blk ab #[iv a0, iv a1, iv a2, iv a3, iv a4, iv a5] 23, .blk bb #[iv b0, iv b1, iv b2, iv b3, iv b4, iv b5] 23]) (fun g => []) := by
  refine V.fn mo Try.func112 12 0 (by kernel_rfl) fun w H ε k0 => ?_
  clear k0
  have ha6 := Dm.Rt6.1 ha; have hb6 := Dm.Rt6.1 hb2
  refine V.g [.k (iv 0)] fun _ _ G1 => ?_
  intro S_ s_
  refine V.g [.k (iv 4),.k (pp ab 4),.ld 0 4 false (fun _ => [iv a4]),.k (iv 4),.k (pp bb 4),.ld 1 4 false (fun _ => [iv b4]),.a (a4 - b4) (by omega) (by omega),.k (iv (a4 - b4))] fun _ _ G2 => ?_
  intro S_ s_
  exact V.ret [0] [] [] [] [] [0, 1] (iv (a4 - b4)) (fun _ _ => by kernel_rfl) (fun _ _ => by kernel_rfl) (fun _ _ => trivial)
theorem divc_ct4v (ab : Nat) (a0 a1 a2 a3 a4 a5 : Int) (bb : Nat) (b0 b1 b2 b3 b4 b5 : Int) (ha : Dm.Rt [a0, a1, a2, a3, a4, a5]) (hb2 : Dm.Rt [b0, b1, b2, b3, b4, b5]) (rv0 : Int) (erv0 : rv0 = a4 - b4) :
    Ct Try.prog 112 #[iv 4, pp ab 0, pp bb 0] [] [.blk ab #[iv a0, iv a1, iv a2, iv a3, iv a4, iv a5] 23, .blk bb #[iv b0, iv b1, iv b2, iv b3, iv b4, iv b5] 23] (fun g => iv rv0) (fun g => []) (fun g => [.blk ab #[iv a0, iv a1, iv a2, iv a3, iv a4, iv a5] 23, .blk bb #[iv b0, iv b1, iv b2, iv b3, iv b4, iv b5] 23]) (fun g => []) := by
  subst erv0; exact divc_ct4 ab a0 a1 a2 a3 a4 a5 bb b0 b1 b2 b3 b4 b5 ha hb2
set_option maxRecDepth 10000 in
theorem divc_ct5 (ab : Nat) (a0 a1 a2 a3 a4 a5 : Int) (bb : Nat) (b0 b1 b2 b3 b4 b5 : Int) (ha : Dm.Rt [a0, a1, a2, a3, a4, a5]) (hb2 : Dm.Rt [b0, b1, b2, b3, b4, b5]) :
    Ct Try.prog 112 #[iv 5, pp ab 0, pp bb 0] [] [.blk ab #[iv a0, iv a1, iv a2, iv a3, iv a4, iv a5] 23, .blk bb #[iv b0, iv b1, iv b2, iv b3, iv b4, iv b5] 23] (fun g => iv (a5 - b5)) (fun g => []) (fun g => [.blk ab #[iv a0, iv a1, iv a2, iv a3, iv a4, iv a5] 23, .blk bb #[iv b0, iv b1, iv b2, iv b3, iv b4, iv b5] 23]) (fun g => []) := by
  refine V.fn mo Try.func112 12 0 (by kernel_rfl) fun w H ε k0 => ?_
  clear k0
  have ha6 := Dm.Rt6.1 ha; have hb6 := Dm.Rt6.1 hb2
  refine V.g [.k (iv 0)] fun _ _ G1 => ?_
  intro S_ s_
  refine V.g [.k (iv 5),.k (pp ab 5),.ld 0 5 false (fun _ => [iv a5]),.k (iv 5),.k (pp bb 5),.ld 1 5 false (fun _ => [iv b5]),.a (a5 - b5) (by omega) (by omega),.k (iv (a5 - b5))] fun _ _ G2 => ?_
  intro S_ s_
  exact V.ret [0] [] [] [] [] [0, 1] (iv (a5 - b5)) (fun _ _ => by kernel_rfl) (fun _ _ => by kernel_rfl) (fun _ _ => trivial)
theorem divc_ct5v (ab : Nat) (a0 a1 a2 a3 a4 a5 : Int) (bb : Nat) (b0 b1 b2 b3 b4 b5 : Int) (ha : Dm.Rt [a0, a1, a2, a3, a4, a5]) (hb2 : Dm.Rt [b0, b1, b2, b3, b4, b5]) (rv0 : Int) (erv0 : rv0 = a5 - b5) :
    Ct Try.prog 112 #[iv 5, pp ab 0, pp bb 0] [] [.blk ab #[iv a0, iv a1, iv a2, iv a3, iv a4, iv a5] 23, .blk bb #[iv b0, iv b1, iv b2, iv b3, iv b4, iv b5] 23] (fun g => iv rv0) (fun g => []) (fun g => [.blk ab #[iv a0, iv a1, iv a2, iv a3, iv a4, iv a5] 23, .blk bb #[iv b0, iv b1, iv b2, iv b3, iv b4, iv b5] 23]) (fun g => []) := by
  subst erv0; exact divc_ct5 ab a0 a1 a2 a3 a4 a5 bb b0 b1 b2 b3 b4 b5 ha hb2
set_option maxRecDepth 10000 in
set_option maxHeartbeats 4000000 in
theorem madem_ct (ab : Nat) (a0 a1 a2 a3 a4 a5 : Int) (bb : Nat) (b0 b1 b2 b3 b4 b5 : Int) (ha : Dm.Rt [a0, a1, a2, a3, a4, a5]) (hb2 : Dm.Rt [b0, b1, b2, b3, b4, b5]) :
    Ct Try.prog 75 #[.func (.func 76) #[] #[pp ab 0, pp bb 0]] [] [.blk ab #[iv a0, iv a1, iv a2, iv a3, iv a4, iv a5] 23, .blk bb #[iv b0, iv b1, iv b2, iv b3, iv b4, iv b5] 23] (fun g => .tuple #[.agg #[iv (Dm.mk [a0 + b0, a1 + b1, a2 + b2, a3 + b3, a4 + b4, a5 + b5] 0), iv (Dm.mk [a0 + b0, a1 + b1, a2 + b2, a3 + b3, a4 + b4, a5 + b5] 1), iv (Dm.mk [a0 + b0, a1 + b1, a2 + b2, a3 + b3, a4 + b4, a5 + b5] 2), iv (Dm.mk [a0 + b0, a1 + b1, a2 + b2, a3 + b3, a4 + b4, a5 + b5] 3), iv (Dm.mk [a0 + b0, a1 + b1, a2 + b2, a3 + b3, a4 + b4, a5 + b5] 4), iv (Dm.mk [a0 + b0, a1 + b1, a2 + b2, a3 + b3, a4 + b4, a5 + b5] 5)], iv (Dm.mkE [a0 + b0, a1 + b1, a2 + b2, a3 + b3, a4 + b4, a5 + b5])]) (fun g => []) (fun g => [.blk ab #[iv a0, iv a1, iv a2, iv a3, iv a4, iv a5] 23, .blk bb #[iv b0, iv b1, iv b2, iv b3, iv b4, iv b5] 23]) (fun g => []) := by
  refine V.fn mo Try.func75 20 2 (by kernel_rfl) fun w H ε k0 => ?_
  clear k0
  refine V.g [.nb 0 2 (fun b => pp b 0) 23 (fun _ => #[iv 0, iv 0, iv 0, iv 0, iv 0, iv 0]),.k (iv 0)] fun _ _ G1 => ?_
  intro S_ s_
  refine V.g [.nb 0 3 (fun b => pp b 0) 23 (fun _ => #[iv 0, iv 0, iv 0, iv 0, iv 0, iv 0])] fun _ _ G2 => ?_
  intro S_ s_
  refine V.g [.k (iv 0)] fun _ _ G3 => ?_
  intro S_ s_
  refine V.unroll 99 (by kernel_rfl) ?_
  refine V.g [.kb true] fun _ _ G4 => ?_
  intro S_ s_
  refine V.condT (by kernel_rfl) ?_
  refine V.g [.k (iv 0),.k (iv 0)] fun _ _ G5 => ?_
  intro S_ s_
  refine nm (a0 + b0 : Int) fun n1 hn1 => ?_
  refine V.g [.k (iv 0),.k (.func (.func 76) #[] #[pp ab 0, pp bb 0]),.k (iv 0),.ct g0 3 76 false [0, 1] [] [] (fun _ G => mulc_ct0v ab a0 a1 a2 a3 a4 a5 bb b0 b1 b2 b3 b4 b5 (by assumption) (by assumption) n1 hn1),.k (pp ((G2 0).b) 0),.st 3 (fun _ => .blk ((G2 0).b) #[iv n1, iv 0, iv 0, iv 0, iv 0, iv 0] 23)] fun _ _ G6 => ?_
  intro S_ s_
  refine V.g [.k (iv 1),.k (iv 1)] fun _ _ G7 => ?_
  intro S_ s_
  refine V.again 98 (by kernel_rfl) ?_
  refine V.g [.kb true] fun _ _ G8 => ?_
  intro S_ s_
  refine V.condT (by kernel_rfl) ?_
  refine V.g [.k (iv 1),.k (iv 1)] fun _ _ G9 => ?_
  intro S_ s_
  refine nm (a1 + b1 : Int) fun n2 hn2 => ?_
  refine V.g [.k (iv 1),.k (.func (.func 76) #[] #[pp ab 0, pp bb 0]),.k (iv 1),.ct g0 3 76 false [0, 1] [] [] (fun _ G => mulc_ct1v ab a0 a1 a2 a3 a4 a5 bb b0 b1 b2 b3 b4 b5 (by assumption) (by assumption) n2 hn2),.k (pp ((G2 0).b) 1),.st 3 (fun _ => .blk ((G2 0).b) #[iv n1, iv n2, iv 0, iv 0, iv 0, iv 0] 23)] fun _ _ G10 => ?_
  intro S_ s_
  refine V.g [.k (iv 2),.k (iv 2)] fun _ _ G11 => ?_
  intro S_ s_
  refine V.again 97 (by kernel_rfl) ?_
  refine V.g [.kb true] fun _ _ G12 => ?_
  intro S_ s_
  refine V.condT (by kernel_rfl) ?_
  refine V.g [.k (iv 2),.k (iv 2)] fun _ _ G13 => ?_
  intro S_ s_
  refine nm (a2 + b2 : Int) fun n3 hn3 => ?_
  refine V.g [.k (iv 2),.k (.func (.func 76) #[] #[pp ab 0, pp bb 0]),.k (iv 2),.ct g0 3 76 false [0, 1] [] [] (fun _ G => mulc_ct2v ab a0 a1 a2 a3 a4 a5 bb b0 b1 b2 b3 b4 b5 (by assumption) (by assumption) n3 hn3),.k (pp ((G2 0).b) 2),.st 3 (fun _ => .blk ((G2 0).b) #[iv n1, iv n2, iv n3, iv 0, iv 0, iv 0] 23)] fun _ _ G14 => ?_
  intro S_ s_
  refine V.g [.k (iv 3),.k (iv 3)] fun _ _ G15 => ?_
  intro S_ s_
  refine V.again 96 (by kernel_rfl) ?_
  refine V.g [.kb true] fun _ _ G16 => ?_
  intro S_ s_
  refine V.condT (by kernel_rfl) ?_
  refine V.g [.k (iv 3),.k (iv 3)] fun _ _ G17 => ?_
  intro S_ s_
  refine nm (a3 + b3 : Int) fun n4 hn4 => ?_
  refine V.g [.k (iv 3),.k (.func (.func 76) #[] #[pp ab 0, pp bb 0]),.k (iv 3),.ct g0 3 76 false [0, 1] [] [] (fun _ G => mulc_ct3v ab a0 a1 a2 a3 a4 a5 bb b0 b1 b2 b3 b4 b5 (by assumption) (by assumption) n4 hn4),.k (pp ((G2 0).b) 3),.st 3 (fun _ => .blk ((G2 0).b) #[iv n1, iv n2, iv n3, iv n4, iv 0, iv 0] 23)] fun _ _ G18 => ?_
  intro S_ s_
  refine V.g [.k (iv 4),.k (iv 4)] fun _ _ G19 => ?_
  intro S_ s_
  refine V.again 95 (by kernel_rfl) ?_
  refine V.g [.kb true] fun _ _ G20 => ?_
  intro S_ s_
  refine V.condT (by kernel_rfl) ?_
  refine V.g [.k (iv 4),.k (iv 4)] fun _ _ G21 => ?_
  intro S_ s_
  refine nm (a4 + b4 : Int) fun n5 hn5 => ?_
  refine V.g [.k (iv 4),.k (.func (.func 76) #[] #[pp ab 0, pp bb 0]),.k (iv 4),.ct g0 3 76 false [0, 1] [] [] (fun _ G => mulc_ct4v ab a0 a1 a2 a3 a4 a5 bb b0 b1 b2 b3 b4 b5 (by assumption) (by assumption) n5 hn5),.k (pp ((G2 0).b) 4),.st 3 (fun _ => .blk ((G2 0).b) #[iv n1, iv n2, iv n3, iv n4, iv n5, iv 0] 23)] fun _ _ G22 => ?_
  intro S_ s_
  refine V.g [.k (iv 5),.k (iv 5)] fun _ _ G23 => ?_
  intro S_ s_
  refine V.again 94 (by kernel_rfl) ?_
  refine V.g [.kb true] fun _ _ G24 => ?_
  intro S_ s_
  refine V.condT (by kernel_rfl) ?_
  refine V.g [.k (iv 5),.k (iv 5)] fun _ _ G25 => ?_
  intro S_ s_
  refine nm (a5 + b5 : Int) fun n6 hn6 => ?_
  refine V.g [.k (iv 5),.k (.func (.func 76) #[] #[pp ab 0, pp bb 0]),.k (iv 5),.ct g0 3 76 false [0, 1] [] [] (fun _ G => mulc_ct5v ab a0 a1 a2 a3 a4 a5 bb b0 b1 b2 b3 b4 b5 (by assumption) (by assumption) n6 hn6),.k (pp ((G2 0).b) 5),.st 3 (fun _ => .blk ((G2 0).b) #[iv n1, iv n2, iv n3, iv n4, iv n5, iv n6] 23)] fun _ _ G26 => ?_
  intro S_ s_
  refine V.g [.k (iv 6),.k (iv 6)] fun _ _ G27 => ?_
  intro S_ s_
  refine V.again 93 (by kernel_rfl) ?_
  refine V.g [.kb false] fun _ _ G28 => ?_
  intro S_ s_
  refine V.condF (by kernel_rfl) ?_
  refine V.g [.ld 3 0 true (fun _ => [iv n1, iv n2, iv n3, iv n4, iv n5, iv n6]),.cp g0 1 12 [] (fun _ G => dright_ct n1 n2 n3 n4 n5 n6),.k (bv (!(decide (Dm.Rt [n1, n2, n3, n4, n5, n6]))))] fun _ _ G29 => ?_
  intro S_ s_
  refine V.cond (b := !(decide (Dm.Rt [n1, n2, n3, n4, n5, n6]))) (iNT iDF) (iNF iDT) (by kernel_rfl) (fun q1 => ?_) (fun q2 => ?_)
  · have hR : ¬ Dm.Rt [a0 + b0, a1 + b1, a2 + b2, a3 + b3, a4 + b4, a5 + b5] := by subst_vars; exact q1
    refine V.g [.k (.agg #[iv 0, iv 0, iv 0, iv 0, iv 0, iv 0]),.st 2 (fun _ => .blk ((G1 0).b) #[iv 0, iv 0, iv 0, iv 0, iv 0, iv 0] 23),.k (iv 3)] fun _ _ G30 => ?_
    intro S_ s_
    have e0 : (0 : Int) = Dm.mk [a0 + b0, a1 + b1, a2 + b2, a3 + b3, a4 + b4, a5 + b5] 0 := (Dm.mk_n hR 0).symm
    have e1 : (0 : Int) = Dm.mk [a0 + b0, a1 + b1, a2 + b2, a3 + b3, a4 + b4, a5 + b5] 1 := (Dm.mk_n hR 1).symm
    have e2 : (0 : Int) = Dm.mk [a0 + b0, a1 + b1, a2 + b2, a3 + b3, a4 + b4, a5 + b5] 2 := (Dm.mk_n hR 2).symm
    have e3 : (0 : Int) = Dm.mk [a0 + b0, a1 + b1, a2 + b2, a3 + b3, a4 + b4, a5 + b5] 3 := (Dm.mk_n hR 3).symm
    have e4 : (0 : Int) = Dm.mk [a0 + b0, a1 + b1, a2 + b2, a3 + b3, a4 + b4, a5 + b5] 4 := (Dm.mk_n hR 4).symm
    have e5 : (0 : Int) = Dm.mk [a0 + b0, a1 + b1, a2 + b2, a3 + b3, a4 + b4, a5 + b5] 5 := (Dm.mk_n hR 5).symm
    have e6 : (3 : Int) = Dm.mkE [a0 + b0, a1 + b1, a2 + b2, a3 + b3, a4 + b4, a5 + b5] := (Dm.mkE_n hR).symm
    exact V.ret [2, 0] [] [] [] [] [0, 1] (.tuple #[.agg #[iv 0, iv 0, iv 0, iv 0, iv 0, iv 0], iv 3]) (fun _ _ => by kernel_rfl) (fun _ _ => (Eq.trans (by kernel_rfl) (cong7 (fun (x0 : Int) (x1 : Int) (x2 : Int) (x3 : Int) (x4 : Int) (x5 : Int) (x6 : Int) => (.tuple #[.agg #[iv x0, iv x1, iv x2, iv x3, iv x4, iv x5], iv x6] : Value)) e0 e1 e2 e3 e4 e5 e6)).trans (by kernel_rfl)) (fun _ _ => trivial)
  have hR : Dm.Rt [a0 + b0, a1 + b1, a2 + b2, a3 + b3, a4 + b4, a5 + b5] := by subst_vars; first | exact q2 | exact Decidable.not_not.1 q2
  refine V.g [.ld 3 0 true (fun _ => [iv n1, iv n2, iv n3, iv n4, iv n5, iv n6]),.st 2 (fun _ => .blk ((G1 0).b) #[iv n1, iv n2, iv n3, iv n4, iv n5, iv n6] 23),.k (iv 0)] fun _ _ G31 => ?_
  intro S_ s_
  have e0 : n1 = Dm.mk [a0 + b0, a1 + b1, a2 + b2, a3 + b3, a4 + b4, a5 + b5] 0 := by
    rw [hn1]
    exact (Dm.mk_y hR 0).symm
  have e1 : n2 = Dm.mk [a0 + b0, a1 + b1, a2 + b2, a3 + b3, a4 + b4, a5 + b5] 1 := by
    rw [hn2]
    exact (Dm.mk_y hR 1).symm
  have e2 : n3 = Dm.mk [a0 + b0, a1 + b1, a2 + b2, a3 + b3, a4 + b4, a5 + b5] 2 := by
    rw [hn3]
    exact (Dm.mk_y hR 2).symm
  have e3 : n4 = Dm.mk [a0 + b0, a1 + b1, a2 + b2, a3 + b3, a4 + b4, a5 + b5] 3 := by
    rw [hn4]
    exact (Dm.mk_y hR 3).symm
  have e4 : n5 = Dm.mk [a0 + b0, a1 + b1, a2 + b2, a3 + b3, a4 + b4, a5 + b5] 4 := by
    rw [hn5]
    exact (Dm.mk_y hR 4).symm
  have e5 : n6 = Dm.mk [a0 + b0, a1 + b1, a2 + b2, a3 + b3, a4 + b4, a5 + b5] 5 := by
    rw [hn6]
    exact (Dm.mk_y hR 5).symm
  have e6 : (0 : Int) = Dm.mkE [a0 + b0, a1 + b1, a2 + b2, a3 + b3, a4 + b4, a5 + b5] := (Dm.mkE_y hR).symm
  exact V.ret [2, 0] [] [] [] [] [0, 1] (.tuple #[.agg #[iv n1, iv n2, iv n3, iv n4, iv n5, iv n6], iv 0]) (fun _ _ => by kernel_rfl) (fun _ _ => (Eq.trans (by kernel_rfl) (cong7 (fun (x0 : Int) (x1 : Int) (x2 : Int) (x3 : Int) (x4 : Int) (x5 : Int) (x6 : Int) => (.tuple #[.agg #[iv x0, iv x1, iv x2, iv x3, iv x4, iv x5], iv x6] : Value)) e0 e1 e2 e3 e4 e5 e6)).trans (by kernel_rfl)) (fun _ _ => trivial)
theorem madem_ctv (ab : Nat) (a0 a1 a2 a3 a4 a5 : Int) (bb : Nat) (b0 b1 b2 b3 b4 b5 : Int) (ha : Dm.Rt [a0, a1, a2, a3, a4, a5]) (hb2 : Dm.Rt [b0, b1, b2, b3, b4, b5]) (rv0 : Int) (erv0 : rv0 = Dm.mk [a0 + b0, a1 + b1, a2 + b2, a3 + b3, a4 + b4, a5 + b5] 0) (rv1 : Int) (erv1 : rv1 = Dm.mk [a0 + b0, a1 + b1, a2 + b2, a3 + b3, a4 + b4, a5 + b5] 1) (rv2 : Int) (erv2 : rv2 = Dm.mk [a0 + b0, a1 + b1, a2 + b2, a3 + b3, a4 + b4, a5 + b5] 2) (rv3 : Int) (erv3 : rv3 = Dm.mk [a0 + b0, a1 + b1, a2 + b2, a3 + b3, a4 + b4, a5 + b5] 3) (rv4 : Int) (erv4 : rv4 = Dm.mk [a0 + b0, a1 + b1, a2 + b2, a3 + b3, a4 + b4, a5 + b5] 4) (rv5 : Int) (erv5 : rv5 = Dm.mk [a0 + b0, a1 + b1, a2 + b2, a3 + b3, a4 + b4, a5 + b5] 5) (rv6 : Int) (erv6 : rv6 = Dm.mkE [a0 + b0, a1 + b1, a2 + b2, a3 + b3, a4 + b4, a5 + b5]) :
    Ct Try.prog 75 #[.func (.func 76) #[] #[pp ab 0, pp bb 0]] [] [.blk ab #[iv a0, iv a1, iv a2, iv a3, iv a4, iv a5] 23, .blk bb #[iv b0, iv b1, iv b2, iv b3, iv b4, iv b5] 23] (fun g => .tuple #[.agg #[iv rv0, iv rv1, iv rv2, iv rv3, iv rv4, iv rv5], iv rv6]) (fun g => []) (fun g => [.blk ab #[iv a0, iv a1, iv a2, iv a3, iv a4, iv a5] 23, .blk bb #[iv b0, iv b1, iv b2, iv b3, iv b4, iv b5] 23]) (fun g => []) := by
  subst erv0 erv1 erv2 erv3 erv4 erv5 erv6; exact madem_ct ab a0 a1 a2 a3 a4 a5 bb b0 b1 b2 b3 b4 b5 ha hb2
set_option maxRecDepth 10000 in
set_option maxHeartbeats 4000000 in
theorem maded_ct (ab : Nat) (a0 a1 a2 a3 a4 a5 : Int) (bb : Nat) (b0 b1 b2 b3 b4 b5 : Int) (ha : Dm.Rt [a0, a1, a2, a3, a4, a5]) (hb2 : Dm.Rt [b0, b1, b2, b3, b4, b5]) :
    Ct Try.prog 75 #[.func (.func 112) #[] #[pp ab 0, pp bb 0]] [] [.blk ab #[iv a0, iv a1, iv a2, iv a3, iv a4, iv a5] 23, .blk bb #[iv b0, iv b1, iv b2, iv b3, iv b4, iv b5] 23] (fun g => .tuple #[.agg #[iv (Dm.mk [a0 - b0, a1 - b1, a2 - b2, a3 - b3, a4 - b4, a5 - b5] 0), iv (Dm.mk [a0 - b0, a1 - b1, a2 - b2, a3 - b3, a4 - b4, a5 - b5] 1), iv (Dm.mk [a0 - b0, a1 - b1, a2 - b2, a3 - b3, a4 - b4, a5 - b5] 2), iv (Dm.mk [a0 - b0, a1 - b1, a2 - b2, a3 - b3, a4 - b4, a5 - b5] 3), iv (Dm.mk [a0 - b0, a1 - b1, a2 - b2, a3 - b3, a4 - b4, a5 - b5] 4), iv (Dm.mk [a0 - b0, a1 - b1, a2 - b2, a3 - b3, a4 - b4, a5 - b5] 5)], iv (Dm.mkE [a0 - b0, a1 - b1, a2 - b2, a3 - b3, a4 - b4, a5 - b5])]) (fun g => []) (fun g => [.blk ab #[iv a0, iv a1, iv a2, iv a3, iv a4, iv a5] 23, .blk bb #[iv b0, iv b1, iv b2, iv b3, iv b4, iv b5] 23]) (fun g => []) := by
  refine V.fn mo Try.func75 20 2 (by kernel_rfl) fun w H ε k0 => ?_
  clear k0
  refine V.g [.nb 0 2 (fun b => pp b 0) 23 (fun _ => #[iv 0, iv 0, iv 0, iv 0, iv 0, iv 0]),.k (iv 0)] fun _ _ G1 => ?_
  intro S_ s_
  refine V.g [.nb 0 3 (fun b => pp b 0) 23 (fun _ => #[iv 0, iv 0, iv 0, iv 0, iv 0, iv 0])] fun _ _ G2 => ?_
  intro S_ s_
  refine V.g [.k (iv 0)] fun _ _ G3 => ?_
  intro S_ s_
  refine V.unroll 99 (by kernel_rfl) ?_
  refine V.g [.kb true] fun _ _ G4 => ?_
  intro S_ s_
  refine V.condT (by kernel_rfl) ?_
  refine V.g [.k (iv 0),.k (iv 0)] fun _ _ G5 => ?_
  intro S_ s_
  refine nm (a0 - b0 : Int) fun n1 hn1 => ?_
  refine V.g [.k (iv 0),.k (.func (.func 112) #[] #[pp ab 0, pp bb 0]),.k (iv 0),.ct g0 3 112 false [0, 1] [] [] (fun _ G => divc_ct0v ab a0 a1 a2 a3 a4 a5 bb b0 b1 b2 b3 b4 b5 (by assumption) (by assumption) n1 hn1),.k (pp ((G2 0).b) 0),.st 3 (fun _ => .blk ((G2 0).b) #[iv n1, iv 0, iv 0, iv 0, iv 0, iv 0] 23)] fun _ _ G6 => ?_
  intro S_ s_
  refine V.g [.k (iv 1),.k (iv 1)] fun _ _ G7 => ?_
  intro S_ s_
  refine V.again 98 (by kernel_rfl) ?_
  refine V.g [.kb true] fun _ _ G8 => ?_
  intro S_ s_
  refine V.condT (by kernel_rfl) ?_
  refine V.g [.k (iv 1),.k (iv 1)] fun _ _ G9 => ?_
  intro S_ s_
  refine nm (a1 - b1 : Int) fun n2 hn2 => ?_
  refine V.g [.k (iv 1),.k (.func (.func 112) #[] #[pp ab 0, pp bb 0]),.k (iv 1),.ct g0 3 112 false [0, 1] [] [] (fun _ G => divc_ct1v ab a0 a1 a2 a3 a4 a5 bb b0 b1 b2 b3 b4 b5 (by assumption) (by assumption) n2 hn2),.k (pp ((G2 0).b) 1),.st 3 (fun _ => .blk ((G2 0).b) #[iv n1, iv n2, iv 0, iv 0, iv 0, iv 0] 23)] fun _ _ G10 => ?_
  intro S_ s_
  refine V.g [.k (iv 2),.k (iv 2)] fun _ _ G11 => ?_
  intro S_ s_
  refine V.again 97 (by kernel_rfl) ?_
  refine V.g [.kb true] fun _ _ G12 => ?_
  intro S_ s_
  refine V.condT (by kernel_rfl) ?_
  refine V.g [.k (iv 2),.k (iv 2)] fun _ _ G13 => ?_
  intro S_ s_
  refine nm (a2 - b2 : Int) fun n3 hn3 => ?_
  refine V.g [.k (iv 2),.k (.func (.func 112) #[] #[pp ab 0, pp bb 0]),.k (iv 2),.ct g0 3 112 false [0, 1] [] [] (fun _ G => divc_ct2v ab a0 a1 a2 a3 a4 a5 bb b0 b1 b2 b3 b4 b5 (by assumption) (by assumption) n3 hn3),.k (pp ((G2 0).b) 2),.st 3 (fun _ => .blk ((G2 0).b) #[iv n1, iv n2, iv n3, iv 0, iv 0, iv 0] 23)] fun _ _ G14 => ?_
  intro S_ s_
  refine V.g [.k (iv 3),.k (iv 3)] fun _ _ G15 => ?_
  intro S_ s_
  refine V.again 96 (by kernel_rfl) ?_
  refine V.g [.kb true] fun _ _ G16 => ?_
  intro S_ s_
  refine V.condT (by kernel_rfl) ?_
  refine V.g [.k (iv 3),.k (iv 3)] fun _ _ G17 => ?_
  intro S_ s_
  refine nm (a3 - b3 : Int) fun n4 hn4 => ?_
  refine V.g [.k (iv 3),.k (.func (.func 112) #[] #[pp ab 0, pp bb 0]),.k (iv 3),.ct g0 3 112 false [0, 1] [] [] (fun _ G => divc_ct3v ab a0 a1 a2 a3 a4 a5 bb b0 b1 b2 b3 b4 b5 (by assumption) (by assumption) n4 hn4),.k (pp ((G2 0).b) 3),.st 3 (fun _ => .blk ((G2 0).b) #[iv n1, iv n2, iv n3, iv n4, iv 0, iv 0] 23)] fun _ _ G18 => ?_
  intro S_ s_
  refine V.g [.k (iv 4),.k (iv 4)] fun _ _ G19 => ?_
  intro S_ s_
  refine V.again 95 (by kernel_rfl) ?_
  refine V.g [.kb true] fun _ _ G20 => ?_
  intro S_ s_
  refine V.condT (by kernel_rfl) ?_
  refine V.g [.k (iv 4),.k (iv 4)] fun _ _ G21 => ?_
  intro S_ s_
  refine nm (a4 - b4 : Int) fun n5 hn5 => ?_
  refine V.g [.k (iv 4),.k (.func (.func 112) #[] #[pp ab 0, pp bb 0]),.k (iv 4),.ct g0 3 112 false [0, 1] [] [] (fun _ G => divc_ct4v ab a0 a1 a2 a3 a4 a5 bb b0 b1 b2 b3 b4 b5 (by assumption) (by assumption) n5 hn5),.k (pp ((G2 0).b) 4),.st 3 (fun _ => .blk ((G2 0).b) #[iv n1, iv n2, iv n3, iv n4, iv n5, iv 0] 23)] fun _ _ G22 => ?_
  intro S_ s_
  refine V.g [.k (iv 5),.k (iv 5)] fun _ _ G23 => ?_
  intro S_ s_
  refine V.again 94 (by kernel_rfl) ?_
  refine V.g [.kb true] fun _ _ G24 => ?_
  intro S_ s_
  refine V.condT (by kernel_rfl) ?_
  refine V.g [.k (iv 5),.k (iv 5)] fun _ _ G25 => ?_
  intro S_ s_
  refine nm (a5 - b5 : Int) fun n6 hn6 => ?_
  refine V.g [.k (iv 5),.k (.func (.func 112) #[] #[pp ab 0, pp bb 0]),.k (iv 5),.ct g0 3 112 false [0, 1] [] [] (fun _ G => divc_ct5v ab a0 a1 a2 a3 a4 a5 bb b0 b1 b2 b3 b4 b5 (by assumption) (by assumption) n6 hn6),.k (pp ((G2 0).b) 5),.st 3 (fun _ => .blk ((G2 0).b) #[iv n1, iv n2, iv n3, iv n4, iv n5, iv n6] 23)] fun _ _ G26 => ?_
  intro S_ s_
  refine V.g [.k (iv 6),.k (iv 6)] fun _ _ G27 => ?_
  intro S_ s_
  refine V.again 93 (by kernel_rfl) ?_
  refine V.g [.kb false] fun _ _ G28 => ?_
  intro S_ s_
  refine V.condF (by kernel_rfl) ?_
  refine V.g [.ld 3 0 true (fun _ => [iv n1, iv n2, iv n3, iv n4, iv n5, iv n6]),.cp g0 1 12 [] (fun _ G => dright_ct n1 n2 n3 n4 n5 n6),.k (bv (!(decide (Dm.Rt [n1, n2, n3, n4, n5, n6]))))] fun _ _ G29 => ?_
  intro S_ s_
  refine V.cond (b := !(decide (Dm.Rt [n1, n2, n3, n4, n5, n6]))) (iNT iDF) (iNF iDT) (by kernel_rfl) (fun q1 => ?_) (fun q2 => ?_)
  · have hR : ¬ Dm.Rt [a0 - b0, a1 - b1, a2 - b2, a3 - b3, a4 - b4, a5 - b5] := by subst_vars; exact q1
    refine V.g [.k (.agg #[iv 0, iv 0, iv 0, iv 0, iv 0, iv 0]),.st 2 (fun _ => .blk ((G1 0).b) #[iv 0, iv 0, iv 0, iv 0, iv 0, iv 0] 23),.k (iv 3)] fun _ _ G30 => ?_
    intro S_ s_
    have e0 : (0 : Int) = Dm.mk [a0 - b0, a1 - b1, a2 - b2, a3 - b3, a4 - b4, a5 - b5] 0 := (Dm.mk_n hR 0).symm
    have e1 : (0 : Int) = Dm.mk [a0 - b0, a1 - b1, a2 - b2, a3 - b3, a4 - b4, a5 - b5] 1 := (Dm.mk_n hR 1).symm
    have e2 : (0 : Int) = Dm.mk [a0 - b0, a1 - b1, a2 - b2, a3 - b3, a4 - b4, a5 - b5] 2 := (Dm.mk_n hR 2).symm
    have e3 : (0 : Int) = Dm.mk [a0 - b0, a1 - b1, a2 - b2, a3 - b3, a4 - b4, a5 - b5] 3 := (Dm.mk_n hR 3).symm
    have e4 : (0 : Int) = Dm.mk [a0 - b0, a1 - b1, a2 - b2, a3 - b3, a4 - b4, a5 - b5] 4 := (Dm.mk_n hR 4).symm
    have e5 : (0 : Int) = Dm.mk [a0 - b0, a1 - b1, a2 - b2, a3 - b3, a4 - b4, a5 - b5] 5 := (Dm.mk_n hR 5).symm
    have e6 : (3 : Int) = Dm.mkE [a0 - b0, a1 - b1, a2 - b2, a3 - b3, a4 - b4, a5 - b5] := (Dm.mkE_n hR).symm
    exact V.ret [2, 0] [] [] [] [] [0, 1] (.tuple #[.agg #[iv 0, iv 0, iv 0, iv 0, iv 0, iv 0], iv 3]) (fun _ _ => by kernel_rfl) (fun _ _ => (Eq.trans (by kernel_rfl) (cong7 (fun (x0 : Int) (x1 : Int) (x2 : Int) (x3 : Int) (x4 : Int) (x5 : Int) (x6 : Int) => (.tuple #[.agg #[iv x0, iv x1, iv x2, iv x3, iv x4, iv x5], iv x6] : Value)) e0 e1 e2 e3 e4 e5 e6)).trans (by kernel_rfl)) (fun _ _ => trivial)
  have hR : Dm.Rt [a0 - b0, a1 - b1, a2 - b2, a3 - b3, a4 - b4, a5 - b5] := by subst_vars; first | exact q2 | exact Decidable.not_not.1 q2
  refine V.g [.ld 3 0 true (fun _ => [iv n1, iv n2, iv n3, iv n4, iv n5, iv n6]),.st 2 (fun _ => .blk ((G1 0).b) #[iv n1, iv n2, iv n3, iv n4, iv n5, iv n6] 23),.k (iv 0)] fun _ _ G31 => ?_
  intro S_ s_
  have e0 : n1 = Dm.mk [a0 - b0, a1 - b1, a2 - b2, a3 - b3, a4 - b4, a5 - b5] 0 := by
    rw [hn1]
    exact (Dm.mk_y hR 0).symm
  have e1 : n2 = Dm.mk [a0 - b0, a1 - b1, a2 - b2, a3 - b3, a4 - b4, a5 - b5] 1 := by
    rw [hn2]
    exact (Dm.mk_y hR 1).symm
  have e2 : n3 = Dm.mk [a0 - b0, a1 - b1, a2 - b2, a3 - b3, a4 - b4, a5 - b5] 2 := by
    rw [hn3]
    exact (Dm.mk_y hR 2).symm
  have e3 : n4 = Dm.mk [a0 - b0, a1 - b1, a2 - b2, a3 - b3, a4 - b4, a5 - b5] 3 := by
    rw [hn4]
    exact (Dm.mk_y hR 3).symm
  have e4 : n5 = Dm.mk [a0 - b0, a1 - b1, a2 - b2, a3 - b3, a4 - b4, a5 - b5] 4 := by
    rw [hn5]
    exact (Dm.mk_y hR 4).symm
  have e5 : n6 = Dm.mk [a0 - b0, a1 - b1, a2 - b2, a3 - b3, a4 - b4, a5 - b5] 5 := by
    rw [hn6]
    exact (Dm.mk_y hR 5).symm
  have e6 : (0 : Int) = Dm.mkE [a0 - b0, a1 - b1, a2 - b2, a3 - b3, a4 - b4, a5 - b5] := (Dm.mkE_y hR).symm
  exact V.ret [2, 0] [] [] [] [] [0, 1] (.tuple #[.agg #[iv n1, iv n2, iv n3, iv n4, iv n5, iv n6], iv 0]) (fun _ _ => by kernel_rfl) (fun _ _ => (Eq.trans (by kernel_rfl) (cong7 (fun (x0 : Int) (x1 : Int) (x2 : Int) (x3 : Int) (x4 : Int) (x5 : Int) (x6 : Int) => (.tuple #[.agg #[iv x0, iv x1, iv x2, iv x3, iv x4, iv x5], iv x6] : Value)) e0 e1 e2 e3 e4 e5 e6)).trans (by kernel_rfl)) (fun _ _ => trivial)
theorem maded_ctv (ab : Nat) (a0 a1 a2 a3 a4 a5 : Int) (bb : Nat) (b0 b1 b2 b3 b4 b5 : Int) (ha : Dm.Rt [a0, a1, a2, a3, a4, a5]) (hb2 : Dm.Rt [b0, b1, b2, b3, b4, b5]) (rv0 : Int) (erv0 : rv0 = Dm.mk [a0 - b0, a1 - b1, a2 - b2, a3 - b3, a4 - b4, a5 - b5] 0) (rv1 : Int) (erv1 : rv1 = Dm.mk [a0 - b0, a1 - b1, a2 - b2, a3 - b3, a4 - b4, a5 - b5] 1) (rv2 : Int) (erv2 : rv2 = Dm.mk [a0 - b0, a1 - b1, a2 - b2, a3 - b3, a4 - b4, a5 - b5] 2) (rv3 : Int) (erv3 : rv3 = Dm.mk [a0 - b0, a1 - b1, a2 - b2, a3 - b3, a4 - b4, a5 - b5] 3) (rv4 : Int) (erv4 : rv4 = Dm.mk [a0 - b0, a1 - b1, a2 - b2, a3 - b3, a4 - b4, a5 - b5] 4) (rv5 : Int) (erv5 : rv5 = Dm.mk [a0 - b0, a1 - b1, a2 - b2, a3 - b3, a4 - b4, a5 - b5] 5) (rv6 : Int) (erv6 : rv6 = Dm.mkE [a0 - b0, a1 - b1, a2 - b2, a3 - b3, a4 - b4, a5 - b5]) :
    Ct Try.prog 75 #[.func (.func 112) #[] #[pp ab 0, pp bb 0]] [] [.blk ab #[iv a0, iv a1, iv a2, iv a3, iv a4, iv a5] 23, .blk bb #[iv b0, iv b1, iv b2, iv b3, iv b4, iv b5] 23] (fun g => .tuple #[.agg #[iv rv0, iv rv1, iv rv2, iv rv3, iv rv4, iv rv5], iv rv6]) (fun g => []) (fun g => [.blk ab #[iv a0, iv a1, iv a2, iv a3, iv a4, iv a5] 23, .blk bb #[iv b0, iv b1, iv b2, iv b3, iv b4, iv b5] 23]) (fun g => []) := by
  subst erv0 erv1 erv2 erv3 erv4 erv5 erv6; exact maded_ct ab a0 a1 a2 a3 a4 a5 bb b0 b1 b2 b3 b4 b5 ha hb2
set_option maxRecDepth 10000 in
theorem dmul_ct (a0 a1 a2 a3 a4 a5 b0 b1 b2 b3 b4 b5 : Int) :
    Cp Try.prog 39 #[.agg #[iv a0, iv a1, iv a2, iv a3, iv a4, iv a5], .agg #[iv b0, iv b1, iv b2, iv b3, iv b4, iv b5]] [] (.tuple #[.agg #[iv (Dm.opV (Dm.Rt [a0, a1, a2, a3, a4, a5] ∧ Dm.Rt [b0, b1, b2, b3, b4, b5]) [a0 + b0, a1 + b1, a2 + b2, a3 + b3, a4 + b4, a5 + b5] 0), iv (Dm.opV (Dm.Rt [a0, a1, a2, a3, a4, a5] ∧ Dm.Rt [b0, b1, b2, b3, b4, b5]) [a0 + b0, a1 + b1, a2 + b2, a3 + b3, a4 + b4, a5 + b5] 1), iv (Dm.opV (Dm.Rt [a0, a1, a2, a3, a4, a5] ∧ Dm.Rt [b0, b1, b2, b3, b4, b5]) [a0 + b0, a1 + b1, a2 + b2, a3 + b3, a4 + b4, a5 + b5] 2), iv (Dm.opV (Dm.Rt [a0, a1, a2, a3, a4, a5] ∧ Dm.Rt [b0, b1, b2, b3, b4, b5]) [a0 + b0, a1 + b1, a2 + b2, a3 + b3, a4 + b4, a5 + b5] 3), iv (Dm.opV (Dm.Rt [a0, a1, a2, a3, a4, a5] ∧ Dm.Rt [b0, b1, b2, b3, b4, b5]) [a0 + b0, a1 + b1, a2 + b2, a3 + b3, a4 + b4, a5 + b5] 4), iv (Dm.opV (Dm.Rt [a0, a1, a2, a3, a4, a5] ∧ Dm.Rt [b0, b1, b2, b3, b4, b5]) [a0 + b0, a1 + b1, a2 + b2, a3 + b3, a4 + b4, a5 + b5] 5)], iv (Dm.opE (Dm.Rt [a0, a1, a2, a3, a4, a5] ∧ Dm.Rt [b0, b1, b2, b3, b4, b5]) [a0 + b0, a1 + b1, a2 + b2, a3 + b3, a4 + b4, a5 + b5])]) := by
  refine V.fn mo Try.func39 19 3 (by kernel_rfl) fun w H ε k0 => ?_
  clear k0
  refine V.g [.nb 0 0 (fun b => pp b 0) 23 (fun _ => #[iv a0, iv a1, iv a2, iv a3, iv a4, iv a5]),.nb 1 1 (fun b => pp b 0) 23 (fun _ => #[iv b0, iv b1, iv b2, iv b3, iv b4, iv b5]),.nb 2 2 (fun b => pp b 0) 23 (fun _ => #[iv 0, iv 0, iv 0, iv 0, iv 0, iv 0]),.k (iv 0)] fun _ _ G1 => ?_
  intro S_ s_
  refine nm ((!(decide (Dm.Rt [a0, a1, a2, a3, a4, a5]))) || (!(decide (Dm.Rt [b0, b1, b2, b3, b4, b5]))) : Bool) fun p1 hp1 => ?_
  refine V.g [.ld 0 0 true (fun _ => [iv a0, iv a1, iv a2, iv a3, iv a4, iv a5]),.cp g0 1 12 [] (fun _ G => dright_ct a0 a1 a2 a3 a4 a5),.k (bv (!(decide (Dm.Rt [a0, a1, a2, a3, a4, a5])))),.k (bv (!(decide (Dm.Rt [a0, a1, a2, a3, a4, a5])))),.ld 1 0 true (fun _ => [iv b0, iv b1, iv b2, iv b3, iv b4, iv b5]),.cp (gF (b := !(decide (Dm.Rt [a0, a1, a2, a3, a4, a5]))) (iNF iDT)) 5 12 [] (fun hg G => dright_ct b0 b1 b2 b3 b4 b5),.k (bv (!(decide (Dm.Rt [b0, b1, b2, b3, b4, b5])))),.orn g0 false (!(decide (Dm.Rt [a0, a1, a2, a3, a4, a5]))) (!(decide (Dm.Rt [b0, b1, b2, b3, b4, b5]))) p1 hp1] fun _ _ G2 => ?_
  intro S_ s_
  refine V.cond (b := p1) (iN hp1 (iOT (iNT iDF) (iNT iDF))) (iN hp1 (iOF (iNF iDT) (iNF iDT))) (by kernel_rfl) (fun q1 => ?_) (fun q2 => ?_)
  · have hN : ¬ (Dm.Rt [a0, a1, a2, a3, a4, a5] ∧ Dm.Rt [b0, b1, b2, b3, b4, b5]) := by rintro ⟨h1, h2⟩; rcases q1 with h | h; exact h h1; exact h h2
    refine V.g [.k (.agg #[iv 0, iv 0, iv 0, iv 0, iv 0, iv 0]),.st 2 (fun _ => .blk ((G1 2).b) #[iv 0, iv 0, iv 0, iv 0, iv 0, iv 0] 23),.k (iv 1)] fun _ _ G3 => ?_
    intro S_ s_
    have e0 : (0 : Int) = Dm.opV (Dm.Rt [a0, a1, a2, a3, a4, a5] ∧ Dm.Rt [b0, b1, b2, b3, b4, b5]) [a0 + b0, a1 + b1, a2 + b2, a3 + b3, a4 + b4, a5 + b5] 0 := (Dm.opV_n hN _ 0).symm
    have e1 : (0 : Int) = Dm.opV (Dm.Rt [a0, a1, a2, a3, a4, a5] ∧ Dm.Rt [b0, b1, b2, b3, b4, b5]) [a0 + b0, a1 + b1, a2 + b2, a3 + b3, a4 + b4, a5 + b5] 1 := (Dm.opV_n hN _ 1).symm
    have e2 : (0 : Int) = Dm.opV (Dm.Rt [a0, a1, a2, a3, a4, a5] ∧ Dm.Rt [b0, b1, b2, b3, b4, b5]) [a0 + b0, a1 + b1, a2 + b2, a3 + b3, a4 + b4, a5 + b5] 2 := (Dm.opV_n hN _ 2).symm
    have e3 : (0 : Int) = Dm.opV (Dm.Rt [a0, a1, a2, a3, a4, a5] ∧ Dm.Rt [b0, b1, b2, b3, b4, b5]) [a0 + b0, a1 + b1, a2 + b2, a3 + b3, a4 + b4, a5 + b5] 3 := (Dm.opV_n hN _ 3).symm
    have e4 : (0 : Int) = Dm.opV (Dm.Rt [a0, a1, a2, a3, a4, a5] ∧ Dm.Rt [b0, b1, b2, b3, b4, b5]) [a0 + b0, a1 + b1, a2 + b2, a3 + b3, a4 + b4, a5 + b5] 4 := (Dm.opV_n hN _ 4).symm
    have e5 : (0 : Int) = Dm.opV (Dm.Rt [a0, a1, a2, a3, a4, a5] ∧ Dm.Rt [b0, b1, b2, b3, b4, b5]) [a0 + b0, a1 + b1, a2 + b2, a3 + b3, a4 + b4, a5 + b5] 5 := (Dm.opV_n hN _ 5).symm
    have e6 : (1 : Int) = Dm.opE (Dm.Rt [a0, a1, a2, a3, a4, a5] ∧ Dm.Rt [b0, b1, b2, b3, b4, b5]) [a0 + b0, a1 + b1, a2 + b2, a3 + b3, a4 + b4, a5 + b5] := (Dm.opE_n hN _).symm
    exact V.ret [2, 0] [] [] [] [] [] (.tuple #[.agg #[iv 0, iv 0, iv 0, iv 0, iv 0, iv 0], iv 1]) (fun _ _ => by kernel_rfl) (fun _ _ => (Eq.trans (by kernel_rfl) (cong7 (fun (x0 : Int) (x1 : Int) (x2 : Int) (x3 : Int) (x4 : Int) (x5 : Int) (x6 : Int) => (.tuple #[.agg #[iv x0, iv x1, iv x2, iv x3, iv x4, iv x5], iv x6] : Value)) e0 e1 e2 e3 e4 e5 e6)).trans (by kernel_rfl)) (fun _ _ => trivial)
  have hY : (Dm.Rt [a0, a1, a2, a3, a4, a5] ∧ Dm.Rt [b0, b1, b2, b3, b4, b5]) := q2
  obtain ⟨ha, hb2⟩ := hY
  have hY : (Dm.Rt [a0, a1, a2, a3, a4, a5] ∧ Dm.Rt [b0, b1, b2, b3, b4, b5]) := ⟨ha, hb2⟩
  refine nm (Dm.mk [a0 + b0, a1 + b1, a2 + b2, a3 + b3, a4 + b4, a5 + b5] 0 : Int) fun n1 hn1 => ?_
  refine nm (Dm.mk [a0 + b0, a1 + b1, a2 + b2, a3 + b3, a4 + b4, a5 + b5] 1 : Int) fun n2 hn2 => ?_
  refine nm (Dm.mk [a0 + b0, a1 + b1, a2 + b2, a3 + b3, a4 + b4, a5 + b5] 2 : Int) fun n3 hn3 => ?_
  refine nm (Dm.mk [a0 + b0, a1 + b1, a2 + b2, a3 + b3, a4 + b4, a5 + b5] 3 : Int) fun n4 hn4 => ?_
  refine nm (Dm.mk [a0 + b0, a1 + b1, a2 + b2, a3 + b3, a4 + b4, a5 + b5] 4 : Int) fun n5 hn5 => ?_
  refine nm (Dm.mk [a0 + b0, a1 + b1, a2 + b2, a3 + b3, a4 + b4, a5 + b5] 5 : Int) fun n6 hn6 => ?_
  refine nm (Dm.mkE [a0 + b0, a1 + b1, a2 + b2, a3 + b3, a4 + b4, a5 + b5] : Int) fun n7 hn7 => ?_
  refine V.g [.k (.func (.func 76) #[] #[pp ((G1 0).b) 0, pp ((G1 1).b) 0]),.ct g0 1 75 false [0, 1] [] [] (fun _ G => madem_ctv ((G1 0).b) a0 a1 a2 a3 a4 a5 ((G1 1).b) b0 b1 b2 b3 b4 b5 (by assumption) (by assumption) n1 hn1 n2 hn2 n3 hn3 n4 hn4 n5 hn5 n6 hn6 n7 hn7),.k (.agg #[iv n1, iv n2, iv n3, iv n4, iv n5, iv n6]),.k (iv n7),.st 2 (fun _ => .blk ((G1 2).b) #[iv n1, iv n2, iv n3, iv n4, iv n5, iv n6] 23),.k (iv n7)] fun _ _ G4 => ?_
  intro S_ s_
  have e0 : n1 = Dm.opV (Dm.Rt [a0, a1, a2, a3, a4, a5] ∧ Dm.Rt [b0, b1, b2, b3, b4, b5]) [a0 + b0, a1 + b1, a2 + b2, a3 + b3, a4 + b4, a5 + b5] 0 := by
    rw [hn1]
    exact (Dm.opV_y hY _ 0).symm
  have e1 : n2 = Dm.opV (Dm.Rt [a0, a1, a2, a3, a4, a5] ∧ Dm.Rt [b0, b1, b2, b3, b4, b5]) [a0 + b0, a1 + b1, a2 + b2, a3 + b3, a4 + b4, a5 + b5] 1 := by
    rw [hn2]
    exact (Dm.opV_y hY _ 1).symm
  have e2 : n3 = Dm.opV (Dm.Rt [a0, a1, a2, a3, a4, a5] ∧ Dm.Rt [b0, b1, b2, b3, b4, b5]) [a0 + b0, a1 + b1, a2 + b2, a3 + b3, a4 + b4, a5 + b5] 2 := by
    rw [hn3]
    exact (Dm.opV_y hY _ 2).symm
  have e3 : n4 = Dm.opV (Dm.Rt [a0, a1, a2, a3, a4, a5] ∧ Dm.Rt [b0, b1, b2, b3, b4, b5]) [a0 + b0, a1 + b1, a2 + b2, a3 + b3, a4 + b4, a5 + b5] 3 := by
    rw [hn4]
    exact (Dm.opV_y hY _ 3).symm
  have e4 : n5 = Dm.opV (Dm.Rt [a0, a1, a2, a3, a4, a5] ∧ Dm.Rt [b0, b1, b2, b3, b4, b5]) [a0 + b0, a1 + b1, a2 + b2, a3 + b3, a4 + b4, a5 + b5] 4 := by
    rw [hn5]
    exact (Dm.opV_y hY _ 4).symm
  have e5 : n6 = Dm.opV (Dm.Rt [a0, a1, a2, a3, a4, a5] ∧ Dm.Rt [b0, b1, b2, b3, b4, b5]) [a0 + b0, a1 + b1, a2 + b2, a3 + b3, a4 + b4, a5 + b5] 5 := by
    rw [hn6]
    exact (Dm.opV_y hY _ 5).symm
  have e6 : n7 = Dm.opE (Dm.Rt [a0, a1, a2, a3, a4, a5] ∧ Dm.Rt [b0, b1, b2, b3, b4, b5]) [a0 + b0, a1 + b1, a2 + b2, a3 + b3, a4 + b4, a5 + b5] := by
    rw [hn7]
    exact (Dm.opE_y hY _).symm
  exact V.ret [2, 0] [] [] [] [] [] (.tuple #[.agg #[iv n1, iv n2, iv n3, iv n4, iv n5, iv n6], iv n7]) (fun _ _ => by kernel_rfl) (fun _ _ => (Eq.trans (by kernel_rfl) (cong7 (fun (x0 : Int) (x1 : Int) (x2 : Int) (x3 : Int) (x4 : Int) (x5 : Int) (x6 : Int) => (.tuple #[.agg #[iv x0, iv x1, iv x2, iv x3, iv x4, iv x5], iv x6] : Value)) e0 e1 e2 e3 e4 e5 e6)).trans (by kernel_rfl)) (fun _ _ => trivial)
theorem dmul_ctv (a0 a1 a2 a3 a4 a5 b0 b1 b2 b3 b4 b5 : Int) (rv0 : Int) (erv0 : rv0 = Dm.opV (Dm.Rt [a0, a1, a2, a3, a4, a5] ∧ Dm.Rt [b0, b1, b2, b3, b4, b5]) [a0 + b0, a1 + b1, a2 + b2, a3 + b3, a4 + b4, a5 + b5] 0) (rv1 : Int) (erv1 : rv1 = Dm.opV (Dm.Rt [a0, a1, a2, a3, a4, a5] ∧ Dm.Rt [b0, b1, b2, b3, b4, b5]) [a0 + b0, a1 + b1, a2 + b2, a3 + b3, a4 + b4, a5 + b5] 1) (rv2 : Int) (erv2 : rv2 = Dm.opV (Dm.Rt [a0, a1, a2, a3, a4, a5] ∧ Dm.Rt [b0, b1, b2, b3, b4, b5]) [a0 + b0, a1 + b1, a2 + b2, a3 + b3, a4 + b4, a5 + b5] 2) (rv3 : Int) (erv3 : rv3 = Dm.opV (Dm.Rt [a0, a1, a2, a3, a4, a5] ∧ Dm.Rt [b0, b1, b2, b3, b4, b5]) [a0 + b0, a1 + b1, a2 + b2, a3 + b3, a4 + b4, a5 + b5] 3) (rv4 : Int) (erv4 : rv4 = Dm.opV (Dm.Rt [a0, a1, a2, a3, a4, a5] ∧ Dm.Rt [b0, b1, b2, b3, b4, b5]) [a0 + b0, a1 + b1, a2 + b2, a3 + b3, a4 + b4, a5 + b5] 4) (rv5 : Int) (erv5 : rv5 = Dm.opV (Dm.Rt [a0, a1, a2, a3, a4, a5] ∧ Dm.Rt [b0, b1, b2, b3, b4, b5]) [a0 + b0, a1 + b1, a2 + b2, a3 + b3, a4 + b4, a5 + b5] 5) (rv6 : Int) (erv6 : rv6 = Dm.opE (Dm.Rt [a0, a1, a2, a3, a4, a5] ∧ Dm.Rt [b0, b1, b2, b3, b4, b5]) [a0 + b0, a1 + b1, a2 + b2, a3 + b3, a4 + b4, a5 + b5]) :
    Cp Try.prog 39 #[.agg #[iv a0, iv a1, iv a2, iv a3, iv a4, iv a5], .agg #[iv b0, iv b1, iv b2, iv b3, iv b4, iv b5]] [] (.tuple #[.agg #[iv rv0, iv rv1, iv rv2, iv rv3, iv rv4, iv rv5], iv rv6]) := by
  subst erv0 erv1 erv2 erv3 erv4 erv5 erv6; exact dmul_ct a0 a1 a2 a3 a4 a5 b0 b1 b2 b3 b4 b5 
set_option maxRecDepth 10000 in
theorem ddiv_ct (a0 a1 a2 a3 a4 a5 b0 b1 b2 b3 b4 b5 : Int) :
    Cp Try.prog 74 #[.agg #[iv a0, iv a1, iv a2, iv a3, iv a4, iv a5], .agg #[iv b0, iv b1, iv b2, iv b3, iv b4, iv b5]] [] (.tuple #[.agg #[iv (Dm.opV (Dm.Rt [a0, a1, a2, a3, a4, a5] ∧ Dm.Rt [b0, b1, b2, b3, b4, b5]) [a0 - b0, a1 - b1, a2 - b2, a3 - b3, a4 - b4, a5 - b5] 0), iv (Dm.opV (Dm.Rt [a0, a1, a2, a3, a4, a5] ∧ Dm.Rt [b0, b1, b2, b3, b4, b5]) [a0 - b0, a1 - b1, a2 - b2, a3 - b3, a4 - b4, a5 - b5] 1), iv (Dm.opV (Dm.Rt [a0, a1, a2, a3, a4, a5] ∧ Dm.Rt [b0, b1, b2, b3, b4, b5]) [a0 - b0, a1 - b1, a2 - b2, a3 - b3, a4 - b4, a5 - b5] 2), iv (Dm.opV (Dm.Rt [a0, a1, a2, a3, a4, a5] ∧ Dm.Rt [b0, b1, b2, b3, b4, b5]) [a0 - b0, a1 - b1, a2 - b2, a3 - b3, a4 - b4, a5 - b5] 3), iv (Dm.opV (Dm.Rt [a0, a1, a2, a3, a4, a5] ∧ Dm.Rt [b0, b1, b2, b3, b4, b5]) [a0 - b0, a1 - b1, a2 - b2, a3 - b3, a4 - b4, a5 - b5] 4), iv (Dm.opV (Dm.Rt [a0, a1, a2, a3, a4, a5] ∧ Dm.Rt [b0, b1, b2, b3, b4, b5]) [a0 - b0, a1 - b1, a2 - b2, a3 - b3, a4 - b4, a5 - b5] 5)], iv (Dm.opE (Dm.Rt [a0, a1, a2, a3, a4, a5] ∧ Dm.Rt [b0, b1, b2, b3, b4, b5]) [a0 - b0, a1 - b1, a2 - b2, a3 - b3, a4 - b4, a5 - b5])]) := by
  refine V.fn mo Try.func74 19 3 (by kernel_rfl) fun w H ε k0 => ?_
  clear k0
  refine V.g [.nb 0 0 (fun b => pp b 0) 23 (fun _ => #[iv a0, iv a1, iv a2, iv a3, iv a4, iv a5]),.nb 1 1 (fun b => pp b 0) 23 (fun _ => #[iv b0, iv b1, iv b2, iv b3, iv b4, iv b5]),.nb 2 2 (fun b => pp b 0) 23 (fun _ => #[iv 0, iv 0, iv 0, iv 0, iv 0, iv 0]),.k (iv 0)] fun _ _ G1 => ?_
  intro S_ s_
  refine nm ((!(decide (Dm.Rt [a0, a1, a2, a3, a4, a5]))) || (!(decide (Dm.Rt [b0, b1, b2, b3, b4, b5]))) : Bool) fun p1 hp1 => ?_
  refine V.g [.ld 0 0 true (fun _ => [iv a0, iv a1, iv a2, iv a3, iv a4, iv a5]),.cp g0 1 12 [] (fun _ G => dright_ct a0 a1 a2 a3 a4 a5),.k (bv (!(decide (Dm.Rt [a0, a1, a2, a3, a4, a5])))),.k (bv (!(decide (Dm.Rt [a0, a1, a2, a3, a4, a5])))),.ld 1 0 true (fun _ => [iv b0, iv b1, iv b2, iv b3, iv b4, iv b5]),.cp (gF (b := !(decide (Dm.Rt [a0, a1, a2, a3, a4, a5]))) (iNF iDT)) 5 12 [] (fun hg G => dright_ct b0 b1 b2 b3 b4 b5),.k (bv (!(decide (Dm.Rt [b0, b1, b2, b3, b4, b5])))),.orn g0 false (!(decide (Dm.Rt [a0, a1, a2, a3, a4, a5]))) (!(decide (Dm.Rt [b0, b1, b2, b3, b4, b5]))) p1 hp1] fun _ _ G2 => ?_
  intro S_ s_
  refine V.cond (b := p1) (iN hp1 (iOT (iNT iDF) (iNT iDF))) (iN hp1 (iOF (iNF iDT) (iNF iDT))) (by kernel_rfl) (fun q1 => ?_) (fun q2 => ?_)
  · have hN : ¬ (Dm.Rt [a0, a1, a2, a3, a4, a5] ∧ Dm.Rt [b0, b1, b2, b3, b4, b5]) := by rintro ⟨h1, h2⟩; rcases q1 with h | h; exact h h1; exact h h2
    refine V.g [.k (.agg #[iv 0, iv 0, iv 0, iv 0, iv 0, iv 0]),.st 2 (fun _ => .blk ((G1 2).b) #[iv 0, iv 0, iv 0, iv 0, iv 0, iv 0] 23),.k (iv 1)] fun _ _ G3 => ?_
    intro S_ s_
    have e0 : (0 : Int) = Dm.opV (Dm.Rt [a0, a1, a2, a3, a4, a5] ∧ Dm.Rt [b0, b1, b2, b3, b4, b5]) [a0 - b0, a1 - b1, a2 - b2, a3 - b3, a4 - b4, a5 - b5] 0 := (Dm.opV_n hN _ 0).symm
    have e1 : (0 : Int) = Dm.opV (Dm.Rt [a0, a1, a2, a3, a4, a5] ∧ Dm.Rt [b0, b1, b2, b3, b4, b5]) [a0 - b0, a1 - b1, a2 - b2, a3 - b3, a4 - b4, a5 - b5] 1 := (Dm.opV_n hN _ 1).symm
    have e2 : (0 : Int) = Dm.opV (Dm.Rt [a0, a1, a2, a3, a4, a5] ∧ Dm.Rt [b0, b1, b2, b3, b4, b5]) [a0 - b0, a1 - b1, a2 - b2, a3 - b3, a4 - b4, a5 - b5] 2 := (Dm.opV_n hN _ 2).symm
    have e3 : (0 : Int) = Dm.opV (Dm.Rt [a0, a1, a2, a3, a4, a5] ∧ Dm.Rt [b0, b1, b2, b3, b4, b5]) [a0 - b0, a1 - b1, a2 - b2, a3 - b3, a4 - b4, a5 - b5] 3 := (Dm.opV_n hN _ 3).symm
    have e4 : (0 : Int) = Dm.opV (Dm.Rt [a0, a1, a2, a3, a4, a5] ∧ Dm.Rt [b0, b1, b2, b3, b4, b5]) [a0 - b0, a1 - b1, a2 - b2, a3 - b3, a4 - b4, a5 - b5] 4 := (Dm.opV_n hN _ 4).symm
    have e5 : (0 : Int) = Dm.opV (Dm.Rt [a0, a1, a2, a3, a4, a5] ∧ Dm.Rt [b0, b1, b2, b3, b4, b5]) [a0 - b0, a1 - b1, a2 - b2, a3 - b3, a4 - b4, a5 - b5] 5 := (Dm.opV_n hN _ 5).symm
    have e6 : (1 : Int) = Dm.opE (Dm.Rt [a0, a1, a2, a3, a4, a5] ∧ Dm.Rt [b0, b1, b2, b3, b4, b5]) [a0 - b0, a1 - b1, a2 - b2, a3 - b3, a4 - b4, a5 - b5] := (Dm.opE_n hN _).symm
    exact V.ret [2, 0] [] [] [] [] [] (.tuple #[.agg #[iv 0, iv 0, iv 0, iv 0, iv 0, iv 0], iv 1]) (fun _ _ => by kernel_rfl) (fun _ _ => (Eq.trans (by kernel_rfl) (cong7 (fun (x0 : Int) (x1 : Int) (x2 : Int) (x3 : Int) (x4 : Int) (x5 : Int) (x6 : Int) => (.tuple #[.agg #[iv x0, iv x1, iv x2, iv x3, iv x4, iv x5], iv x6] : Value)) e0 e1 e2 e3 e4 e5 e6)).trans (by kernel_rfl)) (fun _ _ => trivial)
  have hY : (Dm.Rt [a0, a1, a2, a3, a4, a5] ∧ Dm.Rt [b0, b1, b2, b3, b4, b5]) := q2
  obtain ⟨ha, hb2⟩ := hY
  have hY : (Dm.Rt [a0, a1, a2, a3, a4, a5] ∧ Dm.Rt [b0, b1, b2, b3, b4, b5]) := ⟨ha, hb2⟩
  refine nm (Dm.mk [a0 - b0, a1 - b1, a2 - b2, a3 - b3, a4 - b4, a5 - b5] 0 : Int) fun n1 hn1 => ?_
  refine nm (Dm.mk [a0 - b0, a1 - b1, a2 - b2, a3 - b3, a4 - b4, a5 - b5] 1 : Int) fun n2 hn2 => ?_
  refine nm (Dm.mk [a0 - b0, a1 - b1, a2 - b2, a3 - b3, a4 - b4, a5 - b5] 2 : Int) fun n3 hn3 => ?_
  refine nm (Dm.mk [a0 - b0, a1 - b1, a2 - b2, a3 - b3, a4 - b4, a5 - b5] 3 : Int) fun n4 hn4 => ?_
  refine nm (Dm.mk [a0 - b0, a1 - b1, a2 - b2, a3 - b3, a4 - b4, a5 - b5] 4 : Int) fun n5 hn5 => ?_
  refine nm (Dm.mk [a0 - b0, a1 - b1, a2 - b2, a3 - b3, a4 - b4, a5 - b5] 5 : Int) fun n6 hn6 => ?_
  refine nm (Dm.mkE [a0 - b0, a1 - b1, a2 - b2, a3 - b3, a4 - b4, a5 - b5] : Int) fun n7 hn7 => ?_
  refine V.g [.k (.func (.func 112) #[] #[pp ((G1 0).b) 0, pp ((G1 1).b) 0]),.ct g0 1 75 false [0, 1] [] [] (fun _ G => maded_ctv ((G1 0).b) a0 a1 a2 a3 a4 a5 ((G1 1).b) b0 b1 b2 b3 b4 b5 (by assumption) (by assumption) n1 hn1 n2 hn2 n3 hn3 n4 hn4 n5 hn5 n6 hn6 n7 hn7),.k (.agg #[iv n1, iv n2, iv n3, iv n4, iv n5, iv n6]),.k (iv n7),.st 2 (fun _ => .blk ((G1 2).b) #[iv n1, iv n2, iv n3, iv n4, iv n5, iv n6] 23),.k (iv n7)] fun _ _ G4 => ?_
  intro S_ s_
  have e0 : n1 = Dm.opV (Dm.Rt [a0, a1, a2, a3, a4, a5] ∧ Dm.Rt [b0, b1, b2, b3, b4, b5]) [a0 - b0, a1 - b1, a2 - b2, a3 - b3, a4 - b4, a5 - b5] 0 := by
    rw [hn1]
    exact (Dm.opV_y hY _ 0).symm
  have e1 : n2 = Dm.opV (Dm.Rt [a0, a1, a2, a3, a4, a5] ∧ Dm.Rt [b0, b1, b2, b3, b4, b5]) [a0 - b0, a1 - b1, a2 - b2, a3 - b3, a4 - b4, a5 - b5] 1 := by
    rw [hn2]
    exact (Dm.opV_y hY _ 1).symm
  have e2 : n3 = Dm.opV (Dm.Rt [a0, a1, a2, a3, a4, a5] ∧ Dm.Rt [b0, b1, b2, b3, b4, b5]) [a0 - b0, a1 - b1, a2 - b2, a3 - b3, a4 - b4, a5 - b5] 2 := by
    rw [hn3]
    exact (Dm.opV_y hY _ 2).symm
  have e3 : n4 = Dm.opV (Dm.Rt [a0, a1, a2, a3, a4, a5] ∧ Dm.Rt [b0, b1, b2, b3, b4, b5]) [a0 - b0, a1 - b1, a2 - b2, a3 - b3, a4 - b4, a5 - b5] 3 := by
    rw [hn4]
    exact (Dm.opV_y hY _ 3).symm
  have e4 : n5 = Dm.opV (Dm.Rt [a0, a1, a2, a3, a4, a5] ∧ Dm.Rt [b0, b1, b2, b3, b4, b5]) [a0 - b0, a1 - b1, a2 - b2, a3 - b3, a4 - b4, a5 - b5] 4 := by
    rw [hn5]
    exact (Dm.opV_y hY _ 4).symm
  have e5 : n6 = Dm.opV (Dm.Rt [a0, a1, a2, a3, a4, a5] ∧ Dm.Rt [b0, b1, b2, b3, b4, b5]) [a0 - b0, a1 - b1, a2 - b2, a3 - b3, a4 - b4, a5 - b5] 5 := by
    rw [hn6]
    exact (Dm.opV_y hY _ 5).symm
  have e6 : n7 = Dm.opE (Dm.Rt [a0, a1, a2, a3, a4, a5] ∧ Dm.Rt [b0, b1, b2, b3, b4, b5]) [a0 - b0, a1 - b1, a2 - b2, a3 - b3, a4 - b4, a5 - b5] := by
    rw [hn7]
    exact (Dm.opE_y hY _).symm
  exact V.ret [2, 0] [] [] [] [] [] (.tuple #[.agg #[iv n1, iv n2, iv n3, iv n4, iv n5, iv n6], iv n7]) (fun _ _ => by kernel_rfl) (fun _ _ => (Eq.trans (by kernel_rfl) (cong7 (fun (x0 : Int) (x1 : Int) (x2 : Int) (x3 : Int) (x4 : Int) (x5 : Int) (x6 : Int) => (.tuple #[.agg #[iv x0, iv x1, iv x2, iv x3, iv x4, iv x5], iv x6] : Value)) e0 e1 e2 e3 e4 e5 e6)).trans (by kernel_rfl)) (fun _ _ => trivial)
theorem ddiv_ctv (a0 a1 a2 a3 a4 a5 b0 b1 b2 b3 b4 b5 : Int) (rv0 : Int) (erv0 : rv0 = Dm.opV (Dm.Rt [a0, a1, a2, a3, a4, a5] ∧ Dm.Rt [b0, b1, b2, b3, b4, b5]) [a0 - b0, a1 - b1, a2 - b2, a3 - b3, a4 - b4, a5 - b5] 0) (rv1 : Int) (erv1 : rv1 = Dm.opV (Dm.Rt [a0, a1, a2, a3, a4, a5] ∧ Dm.Rt [b0, b1, b2, b3, b4, b5]) [a0 - b0, a1 - b1, a2 - b2, a3 - b3, a4 - b4, a5 - b5] 1) (rv2 : Int) (erv2 : rv2 = Dm.opV (Dm.Rt [a0, a1, a2, a3, a4, a5] ∧ Dm.Rt [b0, b1, b2, b3, b4, b5]) [a0 - b0, a1 - b1, a2 - b2, a3 - b3, a4 - b4, a5 - b5] 2) (rv3 : Int) (erv3 : rv3 = Dm.opV (Dm.Rt [a0, a1, a2, a3, a4, a5] ∧ Dm.Rt [b0, b1, b2, b3, b4, b5]) [a0 - b0, a1 - b1, a2 - b2, a3 - b3, a4 - b4, a5 - b5] 3) (rv4 : Int) (erv4 : rv4 = Dm.opV (Dm.Rt [a0, a1, a2, a3, a4, a5] ∧ Dm.Rt [b0, b1, b2, b3, b4, b5]) [a0 - b0, a1 - b1, a2 - b2, a3 - b3, a4 - b4, a5 - b5] 4) (rv5 : Int) (erv5 : rv5 = Dm.opV (Dm.Rt [a0, a1, a2, a3, a4, a5] ∧ Dm.Rt [b0, b1, b2, b3, b4, b5]) [a0 - b0, a1 - b1, a2 - b2, a3 - b3, a4 - b4, a5 - b5] 5) (rv6 : Int) (erv6 : rv6 = Dm.opE (Dm.Rt [a0, a1, a2, a3, a4, a5] ∧ Dm.Rt [b0, b1, b2, b3, b4, b5]) [a0 - b0, a1 - b1, a2 - b2, a3 - b3, a4 - b4, a5 - b5]) :
    Cp Try.prog 74 #[.agg #[iv a0, iv a1, iv a2, iv a3, iv a4, iv a5], .agg #[iv b0, iv b1, iv b2, iv b3, iv b4, iv b5]] [] (.tuple #[.agg #[iv rv0, iv rv1, iv rv2, iv rv3, iv rv4, iv rv5], iv rv6]) := by
  subst erv0 erv1 erv2 erv3 erv4 erv5 erv6; exact ddiv_ct a0 a1 a2 a3 a4 a5 b0 b1 b2 b3 b4 b5 

open Go
namespace Un
open Fr Bg
theorem opV_pq {p q : Prop} [Decidable p] [Decidable q] (h : p) (k : q) (l : List Int) (i : Nat) : Dm.opV p l i = Dm.opV q l i := by rw [Dm.opV_y h, Dm.opV_y k]
theorem opE_pq {p q : Prop} [Decidable p] [Decidable q] (h : p) (k : q) (l : List Int) : Dm.opE p l = Dm.opE q l := by rw [Dm.opE_y h, Dm.opE_y k]
theorem opE_ne {p : Prop} [Decidable p] (h : p) {l : List Int} (k : ¬ Dm.opE p l = 0) : ¬ Dm.Rt l := fun r => k (by rw [Dm.opE_y h, Dm.mkE_y r])
theorem opE_eq {p : Prop} [Decidable p] (h : p) {l : List Int} (k : Dm.opE p l = 0) : Dm.Rt l := Classical.byContradiction fun r => by
  rw [Dm.opE_y h, Dm.mkE_n r] at k; omega
theorem opV_no {p : Prop} [Decidable p] (h : p) {l : List Int} (r : ¬ Dm.Rt l) (i : Nat) : Dm.opV p l i = 0 := by rw [Dm.opV_y h, Dm.mk_n r]
theorem fr_eq {p q : Prop} [Decidable p] [Decidable q] (h : p ↔ q) {r r' : Rat} (e : r = r') : rS p r = rS q r' ∧ rD p r = rD q r' ∧ rT p = rT q ∧ rE p r = rE q r' := by
  subst e
  by_cases k : p
  · have k' := h.1 k
    rw [rS_y k, rD_y k, rT_y k, rE_y k, rS_y k', rD_y k', rT_y k', rE_y k']; exact ⟨rfl, rfl, rfl, rfl⟩
  · have k' := fun x => k (h.2 x)
    rw [rS_n k, rD_n k, rT_n k, rE_n k, rS_n k', rD_n k', rT_n k', rE_n k']; exact ⟨rfl, rfl, rfl, rfl⟩
theorem op_l {p : Prop} [Decidable p] (h : p) {l : List Int} (r : Dm.Rt l) (i : Nat) : Dm.opV p l i = l.getD i 0 := by rw [Dm.opV_y h, Dm.mk_y r]
theorem op_0 {p : Prop} [Decidable p] (h : p) {l : List Int} (r : Dm.Rt l) : Dm.opE p l = 0 := by rw [Dm.opE_y h, Dm.mkE_y r]
end Un

open Go Go.Proofs
set_option maxRecDepth 10000 in
theorem umul_ct (a_Dim0 a_Dim1 a_Dim2 a_Dim3 a_Dim4 a_Dim5 a_Factor_P_Sign : Int) (a_Factor_P_Digits : List Int) (a_Factor_P_Digitss : SV) (a_Factor_Q_Sign : Int) (a_Factor_Q_Digits : List Int) (a_Factor_Q_Digitss : SV) (b_Dim0 b_Dim1 b_Dim2 b_Dim3 b_Dim4 b_Dim5 b_Factor_P_Sign : Int) (b_Factor_P_Digits : List Int) (b_Factor_P_Digitss : SV) (b_Factor_Q_Sign : Int) (b_Factor_Q_Digits : List Int) (b_Factor_Q_Digitss : SV) (haP : a_Factor_P_Digits.length ≤ 17179869184) (haQ : a_Factor_Q_Digits.length ≤ 17179869184) (hbP : b_Factor_P_Digits.length ≤ 17179869184) (hbQ : b_Factor_Q_Digits.length ≤ 17179869184) :
    Ct Try.prog 37 #[.agg #[iv a_Dim0, iv a_Dim1, iv a_Dim2, iv a_Dim3, iv a_Dim4, iv a_Dim5, iv a_Factor_P_Sign, a_Factor_P_Digitss.v, iv a_Factor_Q_Sign, a_Factor_Q_Digitss.v], .agg #[iv b_Dim0, iv b_Dim1, iv b_Dim2, iv b_Dim3, iv b_Dim4, iv b_Dim5, iv b_Factor_P_Sign, b_Factor_P_Digitss.v, iv b_Factor_Q_Sign, b_Factor_Q_Digitss.v]] [fs true a_Factor_P_Digits a_Factor_P_Digitss, fs true a_Factor_Q_Digits a_Factor_Q_Digitss, fs true b_Factor_P_Digits b_Factor_P_Digitss, fs true b_Factor_Q_Digits b_Factor_Q_Digitss] [] (fun g => .tuple #[.agg #[iv (Dm.opV (Un.UR [a_Dim0, a_Dim1, a_Dim2, a_Dim3, a_Dim4, a_Dim5] a_Factor_P_Sign a_Factor_P_Digits a_Factor_Q_Sign a_Factor_Q_Digits ∧ Un.UR [b_Dim0, b_Dim1, b_Dim2, b_Dim3, b_Dim4, b_Dim5] b_Factor_P_Sign b_Factor_P_Digits b_Factor_Q_Sign b_Factor_Q_Digits) [a_Dim0 + b_Dim0, a_Dim1 + b_Dim1, a_Dim2 + b_Dim2, a_Dim3 + b_Dim3, a_Dim4 + b_Dim4, a_Dim5 + b_Dim5] 0), iv (Dm.opV (Un.UR [a_Dim0, a_Dim1, a_Dim2, a_Dim3, a_Dim4, a_Dim5] a_Factor_P_Sign a_Factor_P_Digits a_Factor_Q_Sign a_Factor_Q_Digits ∧ Un.UR [b_Dim0, b_Dim1, b_Dim2, b_Dim3, b_Dim4, b_Dim5] b_Factor_P_Sign b_Factor_P_Digits b_Factor_Q_Sign b_Factor_Q_Digits) [a_Dim0 + b_Dim0, a_Dim1 + b_Dim1, a_Dim2 + b_Dim2, a_Dim3 + b_Dim3, a_Dim4 + b_Dim4, a_Dim5 + b_Dim5] 1), iv (Dm.opV (Un.UR [a_Dim0, a_Dim1, a_Dim2, a_Dim3, a_Dim4, a_Dim5] a_Factor_P_Sign a_Factor_P_Digits a_Factor_Q_Sign a_Factor_Q_Digits ∧ Un.UR [b_Dim0, b_Dim1, b_Dim2, b_Dim3, b_Dim4, b_Dim5] b_Factor_P_Sign b_Factor_P_Digits b_Factor_Q_Sign b_Factor_Q_Digits) [a_Dim0 + b_Dim0, a_Dim1 + b_Dim1, a_Dim2 + b_Dim2, a_Dim3 + b_Dim3, a_Dim4 + b_Dim4, a_Dim5 + b_Dim5] 2), iv (Dm.opV (Un.UR [a_Dim0, a_Dim1, a_Dim2, a_Dim3, a_Dim4, a_Dim5] a_Factor_P_Sign a_Factor_P_Digits a_Factor_Q_Sign a_Factor_Q_Digits ∧ Un.UR [b_Dim0, b_Dim1, b_Dim2, b_Dim3, b_Dim4, b_Dim5] b_Factor_P_Sign b_Factor_P_Digits b_Factor_Q_Sign b_Factor_Q_Digits) [a_Dim0 + b_Dim0, a_Dim1 + b_Dim1, a_Dim2 + b_Dim2, a_Dim3 + b_Dim3, a_Dim4 + b_Dim4, a_Dim5 + b_Dim5] 3), iv (Dm.opV (Un.UR [a_Dim0, a_Dim1, a_Dim2, a_Dim3, a_Dim4, a_Dim5] a_Factor_P_Sign a_Factor_P_Digits a_Factor_Q_Sign a_Factor_Q_Digits ∧ Un.UR [b_Dim0, b_Dim1, b_Dim2, b_Dim3, b_Dim4, b_Dim5] b_Factor_P_Sign b_Factor_P_Digits b_Factor_Q_Sign b_Factor_Q_Digits) [a_Dim0 + b_Dim0, a_Dim1 + b_Dim1, a_Dim2 + b_Dim2, a_Dim3 + b_Dim3, a_Dim4 + b_Dim4, a_Dim5 + b_Dim5] 4), iv (Dm.opV (Un.UR [a_Dim0, a_Dim1, a_Dim2, a_Dim3, a_Dim4, a_Dim5] a_Factor_P_Sign a_Factor_P_Digits a_Factor_Q_Sign a_Factor_Q_Digits ∧ Un.UR [b_Dim0, b_Dim1, b_Dim2, b_Dim3, b_Dim4, b_Dim5] b_Factor_P_Sign b_Factor_P_Digits b_Factor_Q_Sign b_Factor_Q_Digits) [a_Dim0 + b_Dim0, a_Dim1 + b_Dim1, a_Dim2 + b_Dim2, a_Dim3 + b_Dim3, a_Dim4 + b_Dim4, a_Dim5 + b_Dim5] 5), iv (Fr.rS ((Un.UR [a_Dim0, a_Dim1, a_Dim2, a_Dim3, a_Dim4, a_Dim5] a_Factor_P_Sign a_Factor_P_Digits a_Factor_Q_Sign a_Factor_Q_Digits ∧ Un.UR [b_Dim0, b_Dim1, b_Dim2, b_Dim3, b_Dim4, b_Dim5] b_Factor_P_Sign b_Factor_P_Digits b_Factor_Q_Sign b_Factor_Q_Digits) ∧ Dm.Rt [a_Dim0 + b_Dim0, a_Dim1 + b_Dim1, a_Dim2 + b_Dim2, a_Dim3 + b_Dim3, a_Dim4 + b_Dim4, a_Dim5 + b_Dim5]) ((Fr.fq a_Factor_P_Sign a_Factor_P_Digits a_Factor_Q_Digits) * (Fr.fq b_Factor_P_Sign b_Factor_P_Digits b_Factor_Q_Digits))), ((g.ss 0)).v, iv (Fr.rT ((Un.UR [a_Dim0, a_Dim1, a_Dim2, a_Dim3, a_Dim4, a_Dim5] a_Factor_P_Sign a_Factor_P_Digits a_Factor_Q_Sign a_Factor_Q_Digits ∧ Un.UR [b_Dim0, b_Dim1, b_Dim2, b_Dim3, b_Dim4, b_Dim5] b_Factor_P_Sign b_Factor_P_Digits b_Factor_Q_Sign b_Factor_Q_Digits) ∧ Dm.Rt [a_Dim0 + b_Dim0, a_Dim1 + b_Dim1, a_Dim2 + b_Dim2, a_Dim3 + b_Dim3, a_Dim4 + b_Dim4, a_Dim5 + b_Dim5])), ((g.ss 1)).v], iv (Dm.opE (Un.UR [a_Dim0, a_Dim1, a_Dim2, a_Dim3, a_Dim4, a_Dim5] a_Factor_P_Sign a_Factor_P_Digits a_Factor_Q_Sign a_Factor_Q_Digits ∧ Un.UR [b_Dim0, b_Dim1, b_Dim2, b_Dim3, b_Dim4, b_Dim5] b_Factor_P_Sign b_Factor_P_Digits b_Factor_Q_Sign b_Factor_Q_Digits) [a_Dim0 + b_Dim0, a_Dim1 + b_Dim1, a_Dim2 + b_Dim2, a_Dim3 + b_Dim3, a_Dim4 + b_Dim4, a_Dim5 + b_Dim5])]) (fun g => [fs true (Fr.rD ((Un.UR [a_Dim0, a_Dim1, a_Dim2, a_Dim3, a_Dim4, a_Dim5] a_Factor_P_Sign a_Factor_P_Digits a_Factor_Q_Sign a_Factor_Q_Digits ∧ Un.UR [b_Dim0, b_Dim1, b_Dim2, b_Dim3, b_Dim4, b_Dim5] b_Factor_P_Sign b_Factor_P_Digits b_Factor_Q_Sign b_Factor_Q_Digits) ∧ Dm.Rt [a_Dim0 + b_Dim0, a_Dim1 + b_Dim1, a_Dim2 + b_Dim2, a_Dim3 + b_Dim3, a_Dim4 + b_Dim4, a_Dim5 + b_Dim5]) ((Fr.fq a_Factor_P_Sign a_Factor_P_Digits a_Factor_Q_Digits) * (Fr.fq b_Factor_P_Sign b_Factor_P_Digits b_Factor_Q_Digits))) (g.ss 0), fs true (Fr.rE ((Un.UR [a_Dim0, a_Dim1, a_Dim2, a_Dim3, a_Dim4, a_Dim5] a_Factor_P_Sign a_Factor_P_Digits a_Factor_Q_Sign a_Factor_Q_Digits ∧ Un.UR [b_Dim0, b_Dim1, b_Dim2, b_Dim3, b_Dim4, b_Dim5] b_Factor_P_Sign b_Factor_P_Digits b_Factor_Q_Sign b_Factor_Q_Digits) ∧ Dm.Rt [a_Dim0 + b_Dim0, a_Dim1 + b_Dim1, a_Dim2 + b_Dim2, a_Dim3 + b_Dim3, a_Dim4 + b_Dim4, a_Dim5 + b_Dim5]) ((Fr.fq a_Factor_P_Sign a_Factor_P_Digits a_Factor_Q_Digits) * (Fr.fq b_Factor_P_Sign b_Factor_P_Digits b_Factor_Q_Digits))) (g.ss 1)]) (fun g => []) (fun g => []) := by
  refine V.fn mo Try.func37 42 5 (by kernel_rfl) fun w H ε k0 => ?_
  obtain ⟨⟨kl1, -⟩, ⟨kl2, -⟩, ⟨kl3, -⟩, ⟨kl4, -⟩, -⟩ : Lq a_Factor_P_Digits a_Factor_P_Digitss.v ∧ Lq a_Factor_Q_Digits a_Factor_Q_Digitss.v ∧ Lq b_Factor_P_Digits b_Factor_P_Digitss.v ∧ Lq b_Factor_Q_Digits b_Factor_Q_Digitss.v ∧ True := kn k0 (by kernel_rfl)
  clear k0
  refine V.g [.nb 0 0 (fun b => pp b 0) 32 (fun _ => #[iv a_Dim0, iv a_Dim1, iv a_Dim2, iv a_Dim3, iv a_Dim4, iv a_Dim5, iv a_Factor_P_Sign, a_Factor_P_Digitss.v, iv a_Factor_Q_Sign, a_Factor_Q_Digitss.v]),.nb 1 1 (fun b => pp b 0) 32 (fun _ => #[iv b_Dim0, iv b_Dim1, iv b_Dim2, iv b_Dim3, iv b_Dim4, iv b_Dim5, iv b_Factor_P_Sign, b_Factor_P_Digitss.v, iv b_Factor_Q_Sign, b_Factor_Q_Digitss.v]),.nb 2 2 (fun b => pp b 0) 32 (fun _ => #[iv 0, iv 0, iv 0, iv 0, iv 0, iv 0, iv 0, .slice none 0 0, iv 0, .slice none 0 0]),.k (iv 0)] fun _ _ G1 => ?_
  intro S_ s_
  refine nm ((!(decide (Un.UR [a_Dim0, a_Dim1, a_Dim2, a_Dim3, a_Dim4, a_Dim5] a_Factor_P_Sign a_Factor_P_Digits a_Factor_Q_Sign a_Factor_Q_Digits))) || (!(decide (Un.UR [b_Dim0, b_Dim1, b_Dim2, b_Dim3, b_Dim4, b_Dim5] b_Factor_P_Sign b_Factor_P_Digits b_Factor_Q_Sign b_Factor_Q_Digits))) : Bool) fun p1 hp1 => ?_
  refine V.g [.ld 0 0 true (fun _ => [iv a_Dim0, iv a_Dim1, iv a_Dim2, iv a_Dim3, iv a_Dim4, iv a_Dim5, iv a_Factor_P_Sign, a_Factor_P_Digitss.v, iv a_Factor_Q_Sign, a_Factor_Q_Digitss.v]),.cp g0 1 23 [(kf false (.f 0) a_Factor_P_Digits (fun _ => a_Factor_P_Digitss)).a, (kf false (.f 1) a_Factor_Q_Digits (fun _ => a_Factor_Q_Digitss)).a] (fun _ G => uright_ct a_Dim0 a_Dim1 a_Dim2 a_Dim3 a_Dim4 a_Dim5 a_Factor_P_Sign a_Factor_P_Digits a_Factor_P_Digitss a_Factor_Q_Sign a_Factor_Q_Digits a_Factor_Q_Digitss (by omega) (by omega)),.k (bv (!(decide (Un.UR [a_Dim0, a_Dim1, a_Dim2, a_Dim3, a_Dim4, a_Dim5] a_Factor_P_Sign a_Factor_P_Digits a_Factor_Q_Sign a_Factor_Q_Digits)))),.k (bv (!(decide (Un.UR [a_Dim0, a_Dim1, a_Dim2, a_Dim3, a_Dim4, a_Dim5] a_Factor_P_Sign a_Factor_P_Digits a_Factor_Q_Sign a_Factor_Q_Digits)))),.ld 1 0 true (fun _ => [iv b_Dim0, iv b_Dim1, iv b_Dim2, iv b_Dim3, iv b_Dim4, iv b_Dim5, iv b_Factor_P_Sign, b_Factor_P_Digitss.v, iv b_Factor_Q_Sign, b_Factor_Q_Digitss.v]),.cp (gF (b := !(decide (Un.UR [a_Dim0, a_Dim1, a_Dim2, a_Dim3, a_Dim4, a_Dim5] a_Factor_P_Sign a_Factor_P_Digits a_Factor_Q_Sign a_Factor_Q_Digits))) (iNF iDT)) 5 23 [(kf false (.f 2) b_Factor_P_Digits (fun _ => b_Factor_P_Digitss)).a, (kf false (.f 3) b_Factor_Q_Digits (fun _ => b_Factor_Q_Digitss)).a] (fun hg G => uright_ct b_Dim0 b_Dim1 b_Dim2 b_Dim3 b_Dim4 b_Dim5 b_Factor_P_Sign b_Factor_P_Digits b_Factor_P_Digitss b_Factor_Q_Sign b_Factor_Q_Digits b_Factor_Q_Digitss (by omega) (by omega)),.k (bv (!(decide (Un.UR [b_Dim0, b_Dim1, b_Dim2, b_Dim3, b_Dim4, b_Dim5] b_Factor_P_Sign b_Factor_P_Digits b_Factor_Q_Sign b_Factor_Q_Digits)))),.orn g0 false (!(decide (Un.UR [a_Dim0, a_Dim1, a_Dim2, a_Dim3, a_Dim4, a_Dim5] a_Factor_P_Sign a_Factor_P_Digits a_Factor_Q_Sign a_Factor_Q_Digits))) (!(decide (Un.UR [b_Dim0, b_Dim1, b_Dim2, b_Dim3, b_Dim4, b_Dim5] b_Factor_P_Sign b_Factor_P_Digits b_Factor_Q_Sign b_Factor_Q_Digits))) p1 hp1] fun _ _ G2 => ?_
  intro S_ s_
  refine V.cond (b := p1) (iN hp1 (iOT (iNT iDF) (iNT iDF))) (iN hp1 (iOF (iNF iDT) (iNF iDT))) (by kernel_rfl) (fun q1 => ?_) (fun q2 => ?_)
  · have hN : ¬ (Un.UR [a_Dim0, a_Dim1, a_Dim2, a_Dim3, a_Dim4, a_Dim5] a_Factor_P_Sign a_Factor_P_Digits a_Factor_Q_Sign a_Factor_Q_Digits ∧ Un.UR [b_Dim0, b_Dim1, b_Dim2, b_Dim3, b_Dim4, b_Dim5] b_Factor_P_Sign b_Factor_P_Digits b_Factor_Q_Sign b_Factor_Q_Digits) := by rintro ⟨h1, h2⟩; rcases q1 with h | h; exact h h1; exact h h2
    refine V.g [.k (.agg #[iv 0, iv 0, iv 0, iv 0, iv 0, iv 0, iv 0, .slice none 0 0, iv 0, .slice none 0 0]),.st 2 (fun _ => .blk ((G1 2).b) #[iv 0, iv 0, iv 0, iv 0, iv 0, iv 0, iv 0, .slice none 0 0, iv 0, .slice none 0 0] 32),.k (iv 1)] fun _ _ G3 => ?_
    intro S_ s_
    refine V.nilF (α := Int) ?_
    refine V.nilF (α := Int) ?_
    have e7 : ([] : List Int) = Fr.rD ((Un.UR [a_Dim0, a_Dim1, a_Dim2, a_Dim3, a_Dim4, a_Dim5] a_Factor_P_Sign a_Factor_P_Digits a_Factor_Q_Sign a_Factor_Q_Digits ∧ Un.UR [b_Dim0, b_Dim1, b_Dim2, b_Dim3, b_Dim4, b_Dim5] b_Factor_P_Sign b_Factor_P_Digits b_Factor_Q_Sign b_Factor_Q_Digits) ∧ Dm.Rt [a_Dim0 + b_Dim0, a_Dim1 + b_Dim1, a_Dim2 + b_Dim2, a_Dim3 + b_Dim3, a_Dim4 + b_Dim4, a_Dim5 + b_Dim5]) ((Fr.fq a_Factor_P_Sign a_Factor_P_Digits a_Factor_Q_Digits) * (Fr.fq b_Factor_P_Sign b_Factor_P_Digits b_Factor_Q_Digits)) := (Fr.Fz.no (fun h => hN h.1) ((Fr.fq a_Factor_P_Sign a_Factor_P_Digits a_Factor_Q_Digits) * (Fr.fq b_Factor_P_Sign b_Factor_P_Digits b_Factor_Q_Digits))).2.1
    rw [← e7]
    have e9 : ([] : List Int) = Fr.rE ((Un.UR [a_Dim0, a_Dim1, a_Dim2, a_Dim3, a_Dim4, a_Dim5] a_Factor_P_Sign a_Factor_P_Digits a_Factor_Q_Sign a_Factor_Q_Digits ∧ Un.UR [b_Dim0, b_Dim1, b_Dim2, b_Dim3, b_Dim4, b_Dim5] b_Factor_P_Sign b_Factor_P_Digits b_Factor_Q_Sign b_Factor_Q_Digits) ∧ Dm.Rt [a_Dim0 + b_Dim0, a_Dim1 + b_Dim1, a_Dim2 + b_Dim2, a_Dim3 + b_Dim3, a_Dim4 + b_Dim4, a_Dim5 + b_Dim5]) ((Fr.fq a_Factor_P_Sign a_Factor_P_Digits a_Factor_Q_Digits) * (Fr.fq b_Factor_P_Sign b_Factor_P_Digits b_Factor_Q_Digits)) := (Fr.Fz.no (fun h => hN h.1) ((Fr.fq a_Factor_P_Sign a_Factor_P_Digits a_Factor_Q_Digits) * (Fr.fq b_Factor_P_Sign b_Factor_P_Digits b_Factor_Q_Digits))).2.2.2
    rw [← e9]
    have e0 : (0 : Int) = Dm.opV (Un.UR [a_Dim0, a_Dim1, a_Dim2, a_Dim3, a_Dim4, a_Dim5] a_Factor_P_Sign a_Factor_P_Digits a_Factor_Q_Sign a_Factor_Q_Digits ∧ Un.UR [b_Dim0, b_Dim1, b_Dim2, b_Dim3, b_Dim4, b_Dim5] b_Factor_P_Sign b_Factor_P_Digits b_Factor_Q_Sign b_Factor_Q_Digits) [a_Dim0 + b_Dim0, a_Dim1 + b_Dim1, a_Dim2 + b_Dim2, a_Dim3 + b_Dim3, a_Dim4 + b_Dim4, a_Dim5 + b_Dim5] 0 := (Dm.opV_n hN _ 0).symm
    have e1 : (0 : Int) = Dm.opV (Un.UR [a_Dim0, a_Dim1, a_Dim2, a_Dim3, a_Dim4, a_Dim5] a_Factor_P_Sign a_Factor_P_Digits a_Factor_Q_Sign a_Factor_Q_Digits ∧ Un.UR [b_Dim0, b_Dim1, b_Dim2, b_Dim3, b_Dim4, b_Dim5] b_Factor_P_Sign b_Factor_P_Digits b_Factor_Q_Sign b_Factor_Q_Digits) [a_Dim0 + b_Dim0, a_Dim1 + b_Dim1, a_Dim2 + b_Dim2, a_Dim3 + b_Dim3, a_Dim4 + b_Dim4, a_Dim5 + b_Dim5] 1 := (Dm.opV_n hN _ 1).symm
    have e2 : (0 : Int) = Dm.opV (Un.UR [a_Dim0, a_Dim1, a_Dim2, a_Dim3, a_Dim4, a_Dim5] a_Factor_P_Sign a_Factor_P_Digits a_Factor_Q_Sign a_Factor_Q_Digits ∧ Un.UR [b_Dim0, b_Dim1, b_Dim2, b_Dim3, b_Dim4, b_Dim5] b_Factor_P_Sign b_Factor_P_Digits b_Factor_Q_Sign b_Factor_Q_Digits) [a_Dim0 + b_Dim0, a_Dim1 + b_Dim1, a_Dim2 + b_Dim2, a_Dim3 + b_Dim3, a_Dim4 + b_Dim4, a_Dim5 + b_Dim5] 2 := (Dm.opV_n hN _ 2).symm
    have e3 : (0 : Int) = Dm.opV (Un.UR [a_Dim0, a_Dim1, a_Dim2, a_Dim3, a_Dim4, a_Dim5] a_Factor_P_Sign a_Factor_P_Digits a_Factor_Q_Sign a_Factor_Q_Digits ∧ Un.UR [b_Dim0, b_Dim1, b_Dim2, b_Dim3, b_Dim4, b_Dim5] b_Factor_P_Sign b_Factor_P_Digits b_Factor_Q_Sign b_Factor_Q_Digits) [a_Dim0 + b_Dim0, a_Dim1 + b_Dim1, a_Dim2 + b_Dim2, a_Dim3 + b_Dim3, a_Dim4 + b_Dim4, a_Dim5 + b_Dim5] 3 := (Dm.opV_n hN _ 3).symm
    have e4 : (0 : Int) = Dm.opV (Un.UR [a_Dim0, a_Dim1, a_Dim2, a_Dim3, a_Dim4, a_Dim5] a_Factor_P_Sign a_Factor_P_Digits a_Factor_Q_Sign a_Factor_Q_Digits ∧ Un.UR [b_Dim0, b_Dim1, b_Dim2, b_Dim3, b_Dim4, b_Dim5] b_Factor_P_Sign b_Factor_P_Digits b_Factor_Q_Sign b_Factor_Q_Digits) [a_Dim0 + b_Dim0, a_Dim1 + b_Dim1, a_Dim2 + b_Dim2, a_Dim3 + b_Dim3, a_Dim4 + b_Dim4, a_Dim5 + b_Dim5] 4 := (Dm.opV_n hN _ 4).symm
    have e5 : (0 : Int) = Dm.opV (Un.UR [a_Dim0, a_Dim1, a_Dim2, a_Dim3, a_Dim4, a_Dim5] a_Factor_P_Sign a_Factor_P_Digits a_Factor_Q_Sign a_Factor_Q_Digits ∧ Un.UR [b_Dim0, b_Dim1, b_Dim2, b_Dim3, b_Dim4, b_Dim5] b_Factor_P_Sign b_Factor_P_Digits b_Factor_Q_Sign b_Factor_Q_Digits) [a_Dim0 + b_Dim0, a_Dim1 + b_Dim1, a_Dim2 + b_Dim2, a_Dim3 + b_Dim3, a_Dim4 + b_Dim4, a_Dim5 + b_Dim5] 5 := (Dm.opV_n hN _ 5).symm
    have e6 : (0 : Int) = Fr.rS ((Un.UR [a_Dim0, a_Dim1, a_Dim2, a_Dim3, a_Dim4, a_Dim5] a_Factor_P_Sign a_Factor_P_Digits a_Factor_Q_Sign a_Factor_Q_Digits ∧ Un.UR [b_Dim0, b_Dim1, b_Dim2, b_Dim3, b_Dim4, b_Dim5] b_Factor_P_Sign b_Factor_P_Digits b_Factor_Q_Sign b_Factor_Q_Digits) ∧ Dm.Rt [a_Dim0 + b_Dim0, a_Dim1 + b_Dim1, a_Dim2 + b_Dim2, a_Dim3 + b_Dim3, a_Dim4 + b_Dim4, a_Dim5 + b_Dim5]) ((Fr.fq a_Factor_P_Sign a_Factor_P_Digits a_Factor_Q_Digits) * (Fr.fq b_Factor_P_Sign b_Factor_P_Digits b_Factor_Q_Digits)) := (Fr.Fz.no (fun h => hN h.1) ((Fr.fq a_Factor_P_Sign a_Factor_P_Digits a_Factor_Q_Digits) * (Fr.fq b_Factor_P_Sign b_Factor_P_Digits b_Factor_Q_Digits))).1
    have e8 : (0 : Int) = Fr.rT ((Un.UR [a_Dim0, a_Dim1, a_Dim2, a_Dim3, a_Dim4, a_Dim5] a_Factor_P_Sign a_Factor_P_Digits a_Factor_Q_Sign a_Factor_Q_Digits ∧ Un.UR [b_Dim0, b_Dim1, b_Dim2, b_Dim3, b_Dim4, b_Dim5] b_Factor_P_Sign b_Factor_P_Digits b_Factor_Q_Sign b_Factor_Q_Digits) ∧ Dm.Rt [a_Dim0 + b_Dim0, a_Dim1 + b_Dim1, a_Dim2 + b_Dim2, a_Dim3 + b_Dim3, a_Dim4 + b_Dim4, a_Dim5 + b_Dim5]) := (Fr.Fz.no (fun h => hN h.1) ((Fr.fq a_Factor_P_Sign a_Factor_P_Digits a_Factor_Q_Digits) * (Fr.fq b_Factor_P_Sign b_Factor_P_Digits b_Factor_Q_Digits))).2.2.1
    have e10 : (1 : Int) = Dm.opE (Un.UR [a_Dim0, a_Dim1, a_Dim2, a_Dim3, a_Dim4, a_Dim5] a_Factor_P_Sign a_Factor_P_Digits a_Factor_Q_Sign a_Factor_Q_Digits ∧ Un.UR [b_Dim0, b_Dim1, b_Dim2, b_Dim3, b_Dim4, b_Dim5] b_Factor_P_Sign b_Factor_P_Digits b_Factor_Q_Sign b_Factor_Q_Digits) [a_Dim0 + b_Dim0, a_Dim1 + b_Dim1, a_Dim2 + b_Dim2, a_Dim3 + b_Dim3, a_Dim4 + b_Dim4, a_Dim5 + b_Dim5] := (Dm.opE_n hN _).symm
    exact V.ret [2, 0] [{}, {}] [fun _ => {}, fun _ => {}] [] [4, 5] [] (.tuple #[.agg #[iv 0, iv 0, iv 0, iv 0, iv 0, iv 0, iv 0, SV.v ({}), iv 0, SV.v ({})], iv 1]) (fun _ _ => by kernel_rfl) (fun _ _ => (Eq.trans (by kernel_rfl) (cong9 (fun (x0 : Int) (x1 : Int) (x2 : Int) (x3 : Int) (x4 : Int) (x5 : Int) (x6 : Int) (x8 : Int) (x10 : Int) => (.tuple #[.agg #[iv x0, iv x1, iv x2, iv x3, iv x4, iv x5, iv x6, SV.v ({}), iv x8, SV.v ({})], iv x10] : Value)) e0 e1 e2 e3 e4 e5 e6 e8 e10)).trans (by kernel_rfl)) (fun _ _ => trivial)
  have hP : (Un.UR [a_Dim0, a_Dim1, a_Dim2, a_Dim3, a_Dim4, a_Dim5] a_Factor_P_Sign a_Factor_P_Digits a_Factor_Q_Sign a_Factor_Q_Digits ∧ Un.UR [b_Dim0, b_Dim1, b_Dim2, b_Dim3, b_Dim4, b_Dim5] b_Factor_P_Sign b_Factor_P_Digits b_Factor_Q_Sign b_Factor_Q_Digits) := by first | exact q2 | exact ⟨Decidable.not_not.1 (q2).1, Decidable.not_not.1 (q2).2⟩
  have hP2 : Dm.Rt [a_Dim0, a_Dim1, a_Dim2, a_Dim3, a_Dim4, a_Dim5] ∧ Dm.Rt [b_Dim0, b_Dim1, b_Dim2, b_Dim3, b_Dim4, b_Dim5] := ⟨hP.1.1, hP.2.1⟩
  refine nm (Dm.opV (Dm.Rt [a_Dim0, a_Dim1, a_Dim2, a_Dim3, a_Dim4, a_Dim5] ∧ Dm.Rt [b_Dim0, b_Dim1, b_Dim2, b_Dim3, b_Dim4, b_Dim5]) [a_Dim0 + b_Dim0, a_Dim1 + b_Dim1, a_Dim2 + b_Dim2, a_Dim3 + b_Dim3, a_Dim4 + b_Dim4, a_Dim5 + b_Dim5] 0 : Int) fun n1 hn1 => ?_
  refine nm (Dm.opV (Dm.Rt [a_Dim0, a_Dim1, a_Dim2, a_Dim3, a_Dim4, a_Dim5] ∧ Dm.Rt [b_Dim0, b_Dim1, b_Dim2, b_Dim3, b_Dim4, b_Dim5]) [a_Dim0 + b_Dim0, a_Dim1 + b_Dim1, a_Dim2 + b_Dim2, a_Dim3 + b_Dim3, a_Dim4 + b_Dim4, a_Dim5 + b_Dim5] 1 : Int) fun n2 hn2 => ?_
  refine nm (Dm.opV (Dm.Rt [a_Dim0, a_Dim1, a_Dim2, a_Dim3, a_Dim4, a_Dim5] ∧ Dm.Rt [b_Dim0, b_Dim1, b_Dim2, b_Dim3, b_Dim4, b_Dim5]) [a_Dim0 + b_Dim0, a_Dim1 + b_Dim1, a_Dim2 + b_Dim2, a_Dim3 + b_Dim3, a_Dim4 + b_Dim4, a_Dim5 + b_Dim5] 2 : Int) fun n3 hn3 => ?_
  refine nm (Dm.opV (Dm.Rt [a_Dim0, a_Dim1, a_Dim2, a_Dim3, a_Dim4, a_Dim5] ∧ Dm.Rt [b_Dim0, b_Dim1, b_Dim2, b_Dim3, b_Dim4, b_Dim5]) [a_Dim0 + b_Dim0, a_Dim1 + b_Dim1, a_Dim2 + b_Dim2, a_Dim3 + b_Dim3, a_Dim4 + b_Dim4, a_Dim5 + b_Dim5] 3 : Int) fun n4 hn4 => ?_
  refine nm (Dm.opV (Dm.Rt [a_Dim0, a_Dim1, a_Dim2, a_Dim3, a_Dim4, a_Dim5] ∧ Dm.Rt [b_Dim0, b_Dim1, b_Dim2, b_Dim3, b_Dim4, b_Dim5]) [a_Dim0 + b_Dim0, a_Dim1 + b_Dim1, a_Dim2 + b_Dim2, a_Dim3 + b_Dim3, a_Dim4 + b_Dim4, a_Dim5 + b_Dim5] 4 : Int) fun n5 hn5 => ?_
  refine nm (Dm.opV (Dm.Rt [a_Dim0, a_Dim1, a_Dim2, a_Dim3, a_Dim4, a_Dim5] ∧ Dm.Rt [b_Dim0, b_Dim1, b_Dim2, b_Dim3, b_Dim4, b_Dim5]) [a_Dim0 + b_Dim0, a_Dim1 + b_Dim1, a_Dim2 + b_Dim2, a_Dim3 + b_Dim3, a_Dim4 + b_Dim4, a_Dim5 + b_Dim5] 5 : Int) fun n6 hn6 => ?_
  refine nm (Dm.opE (Dm.Rt [a_Dim0, a_Dim1, a_Dim2, a_Dim3, a_Dim4, a_Dim5] ∧ Dm.Rt [b_Dim0, b_Dim1, b_Dim2, b_Dim3, b_Dim4, b_Dim5]) [a_Dim0 + b_Dim0, a_Dim1 + b_Dim1, a_Dim2 + b_Dim2, a_Dim3 + b_Dim3, a_Dim4 + b_Dim4, a_Dim5 + b_Dim5] : Int) fun n7 hn7 => ?_
  refine V.g [.k (pp ((G1 0).b) 0),.ld 0 0 true (fun _ => [iv a_Dim0, iv a_Dim1, iv a_Dim2, iv a_Dim3, iv a_Dim4, iv a_Dim5]),.k (pp ((G1 1).b) 0),.ld 1 0 true (fun _ => [iv b_Dim0, iv b_Dim1, iv b_Dim2, iv b_Dim3, iv b_Dim4, iv b_Dim5]),.cp g0 4 39 [] (fun _ G => dmul_ctv a_Dim0 a_Dim1 a_Dim2 a_Dim3 a_Dim4 a_Dim5 b_Dim0 b_Dim1 b_Dim2 b_Dim3 b_Dim4 b_Dim5 n1 hn1 n2 hn2 n3 hn3 n4 hn4 n5 hn5 n6 hn6 n7 hn7),.k (.tuple #[.agg #[iv n1, iv n2, iv n3, iv n4, iv n5, iv n6], iv n7]),.k (.agg #[iv n1, iv n2, iv n3, iv n4, iv n5, iv n6]),.k (iv n7),.nb 8 3 (fun b => pp b 0) 23 (fun _ => #[iv 0, iv 0, iv 0, iv 0, iv 0, iv 0]),.st 3 (fun G => .blk ((G 8).b) #[iv n1, iv n2, iv n3, iv n4, iv n5, iv n6] 23),.k (iv n7)] fun _ _ G4 => ?_
  intro S_ s_
  refine V.g [.k (iv n7),.k (bv (!(decide (n7 = 0))))] fun _ _ G5 => ?_
  intro S_ s_
  refine V.cond (b := !(decide (n7 = 0))) (iNT iDF) (iNF iDT) (by kernel_rfl) (fun q3 => ?_) (fun q4 => ?_)
  · have hR : ¬ Dm.Rt [a_Dim0 + b_Dim0, a_Dim1 + b_Dim1, a_Dim2 + b_Dim2, a_Dim3 + b_Dim3, a_Dim4 + b_Dim4, a_Dim5 + b_Dim5] := Un.opE_ne hP2 (by rw [← hn7]; exact q3)
    refine V.g [.k (.agg #[iv 0, iv 0, iv 0, iv 0, iv 0, iv 0, iv 0, .slice none 0 0, iv 0, .slice none 0 0]),.k (iv n7),.st 2 (fun _ => .blk ((G1 2).b) #[iv 0, iv 0, iv 0, iv 0, iv 0, iv 0, iv 0, .slice none 0 0, iv 0, .slice none 0 0] 32),.k (iv n7)] fun _ _ G6 => ?_
    intro S_ s_
    refine V.nilF (α := Int) ?_
    refine V.nilF (α := Int) ?_
    have e7 : ([] : List Int) = Fr.rD ((Un.UR [a_Dim0, a_Dim1, a_Dim2, a_Dim3, a_Dim4, a_Dim5] a_Factor_P_Sign a_Factor_P_Digits a_Factor_Q_Sign a_Factor_Q_Digits ∧ Un.UR [b_Dim0, b_Dim1, b_Dim2, b_Dim3, b_Dim4, b_Dim5] b_Factor_P_Sign b_Factor_P_Digits b_Factor_Q_Sign b_Factor_Q_Digits) ∧ Dm.Rt [a_Dim0 + b_Dim0, a_Dim1 + b_Dim1, a_Dim2 + b_Dim2, a_Dim3 + b_Dim3, a_Dim4 + b_Dim4, a_Dim5 + b_Dim5]) ((Fr.fq a_Factor_P_Sign a_Factor_P_Digits a_Factor_Q_Digits) * (Fr.fq b_Factor_P_Sign b_Factor_P_Digits b_Factor_Q_Digits)) := (Fr.Fz.no (fun h => hR h.2) ((Fr.fq a_Factor_P_Sign a_Factor_P_Digits a_Factor_Q_Digits) * (Fr.fq b_Factor_P_Sign b_Factor_P_Digits b_Factor_Q_Digits))).2.1
    rw [← e7]
    have e9 : ([] : List Int) = Fr.rE ((Un.UR [a_Dim0, a_Dim1, a_Dim2, a_Dim3, a_Dim4, a_Dim5] a_Factor_P_Sign a_Factor_P_Digits a_Factor_Q_Sign a_Factor_Q_Digits ∧ Un.UR [b_Dim0, b_Dim1, b_Dim2, b_Dim3, b_Dim4, b_Dim5] b_Factor_P_Sign b_Factor_P_Digits b_Factor_Q_Sign b_Factor_Q_Digits) ∧ Dm.Rt [a_Dim0 + b_Dim0, a_Dim1 + b_Dim1, a_Dim2 + b_Dim2, a_Dim3 + b_Dim3, a_Dim4 + b_Dim4, a_Dim5 + b_Dim5]) ((Fr.fq a_Factor_P_Sign a_Factor_P_Digits a_Factor_Q_Digits) * (Fr.fq b_Factor_P_Sign b_Factor_P_Digits b_Factor_Q_Digits)) := (Fr.Fz.no (fun h => hR h.2) ((Fr.fq a_Factor_P_Sign a_Factor_P_Digits a_Factor_Q_Digits) * (Fr.fq b_Factor_P_Sign b_Factor_P_Digits b_Factor_Q_Digits))).2.2.2
    rw [← e9]
    have e0 : (0 : Int) = Dm.opV (Un.UR [a_Dim0, a_Dim1, a_Dim2, a_Dim3, a_Dim4, a_Dim5] a_Factor_P_Sign a_Factor_P_Digits a_Factor_Q_Sign a_Factor_Q_Digits ∧ Un.UR [b_Dim0, b_Dim1, b_Dim2, b_Dim3, b_Dim4, b_Dim5] b_Factor_P_Sign b_Factor_P_Digits b_Factor_Q_Sign b_Factor_Q_Digits) [a_Dim0 + b_Dim0, a_Dim1 + b_Dim1, a_Dim2 + b_Dim2, a_Dim3 + b_Dim3, a_Dim4 + b_Dim4, a_Dim5 + b_Dim5] 0 := (Un.opV_no hP hR 0).symm
    have e1 : (0 : Int) = Dm.opV (Un.UR [a_Dim0, a_Dim1, a_Dim2, a_Dim3, a_Dim4, a_Dim5] a_Factor_P_Sign a_Factor_P_Digits a_Factor_Q_Sign a_Factor_Q_Digits ∧ Un.UR [b_Dim0, b_Dim1, b_Dim2, b_Dim3, b_Dim4, b_Dim5] b_Factor_P_Sign b_Factor_P_Digits b_Factor_Q_Sign b_Factor_Q_Digits) [a_Dim0 + b_Dim0, a_Dim1 + b_Dim1, a_Dim2 + b_Dim2, a_Dim3 + b_Dim3, a_Dim4 + b_Dim4, a_Dim5 + b_Dim5] 1 := (Un.opV_no hP hR 1).symm
    have e2 : (0 : Int) = Dm.opV (Un.UR [a_Dim0, a_Dim1, a_Dim2, a_Dim3, a_Dim4, a_Dim5] a_Factor_P_Sign a_Factor_P_Digits a_Factor_Q_Sign a_Factor_Q_Digits ∧ Un.UR [b_Dim0, b_Dim1, b_Dim2, b_Dim3, b_Dim4, b_Dim5] b_Factor_P_Sign b_Factor_P_Digits b_Factor_Q_Sign b_Factor_Q_Digits) [a_Dim0 + b_Dim0, a_Dim1 + b_Dim1, a_Dim2 + b_Dim2, a_Dim3 + b_Dim3, a_Dim4 + b_Dim4, a_Dim5 + b_Dim5] 2 := (Un.opV_no hP hR 2).symm
    have e3 : (0 : Int) = Dm.opV (Un.UR [a_Dim0, a_Dim1, a_Dim2, a_Dim3, a_Dim4, a_Dim5] a_Factor_P_Sign a_Factor_P_Digits a_Factor_Q_Sign a_Factor_Q_Digits ∧ Un.UR [b_Dim0, b_Dim1, b_Dim2, b_Dim3, b_Dim4, b_Dim5] b_Factor_P_Sign b_Factor_P_Digits b_Factor_Q_Sign b_Factor_Q_Digits) [a_Dim0 + b_Dim0, a_Dim1 + b_Dim1, a_Dim2 + b_Dim2, a_Dim3 + b_Dim3, a_Dim4 + b_Dim4, a_Dim5 + b_Dim5] 3 := (Un.opV_no hP hR 3).symm
    have e4 : (0 : Int) = Dm.opV (Un.UR [a_Dim0, a_Dim1, a_Dim2, a_Dim3, a_Dim4, a_Dim5] a_Factor_P_Sign a_Factor_P_Digits a_Factor_Q_Sign a_Factor_Q_Digits ∧ Un.UR [b_Dim0, b_Dim1, b_Dim2, b_Dim3, b_Dim4, b_Dim5] b_Factor_P_Sign b_Factor_P_Digits b_Factor_Q_Sign b_Factor_Q_Digits) [a_Dim0 + b_Dim0, a_Dim1 + b_Dim1, a_Dim2 + b_Dim2, a_Dim3 + b_Dim3, a_Dim4 + b_Dim4, a_Dim5 + b_Dim5] 4 := (Un.opV_no hP hR 4).symm
    have e5 : (0 : Int) = Dm.opV (Un.UR [a_Dim0, a_Dim1, a_Dim2, a_Dim3, a_Dim4, a_Dim5] a_Factor_P_Sign a_Factor_P_Digits a_Factor_Q_Sign a_Factor_Q_Digits ∧ Un.UR [b_Dim0, b_Dim1, b_Dim2, b_Dim3, b_Dim4, b_Dim5] b_Factor_P_Sign b_Factor_P_Digits b_Factor_Q_Sign b_Factor_Q_Digits) [a_Dim0 + b_Dim0, a_Dim1 + b_Dim1, a_Dim2 + b_Dim2, a_Dim3 + b_Dim3, a_Dim4 + b_Dim4, a_Dim5 + b_Dim5] 5 := (Un.opV_no hP hR 5).symm
    have e6 : (0 : Int) = Fr.rS ((Un.UR [a_Dim0, a_Dim1, a_Dim2, a_Dim3, a_Dim4, a_Dim5] a_Factor_P_Sign a_Factor_P_Digits a_Factor_Q_Sign a_Factor_Q_Digits ∧ Un.UR [b_Dim0, b_Dim1, b_Dim2, b_Dim3, b_Dim4, b_Dim5] b_Factor_P_Sign b_Factor_P_Digits b_Factor_Q_Sign b_Factor_Q_Digits) ∧ Dm.Rt [a_Dim0 + b_Dim0, a_Dim1 + b_Dim1, a_Dim2 + b_Dim2, a_Dim3 + b_Dim3, a_Dim4 + b_Dim4, a_Dim5 + b_Dim5]) ((Fr.fq a_Factor_P_Sign a_Factor_P_Digits a_Factor_Q_Digits) * (Fr.fq b_Factor_P_Sign b_Factor_P_Digits b_Factor_Q_Digits)) := (Fr.Fz.no (fun h => hR h.2) ((Fr.fq a_Factor_P_Sign a_Factor_P_Digits a_Factor_Q_Digits) * (Fr.fq b_Factor_P_Sign b_Factor_P_Digits b_Factor_Q_Digits))).1
    have e8 : (0 : Int) = Fr.rT ((Un.UR [a_Dim0, a_Dim1, a_Dim2, a_Dim3, a_Dim4, a_Dim5] a_Factor_P_Sign a_Factor_P_Digits a_Factor_Q_Sign a_Factor_Q_Digits ∧ Un.UR [b_Dim0, b_Dim1, b_Dim2, b_Dim3, b_Dim4, b_Dim5] b_Factor_P_Sign b_Factor_P_Digits b_Factor_Q_Sign b_Factor_Q_Digits) ∧ Dm.Rt [a_Dim0 + b_Dim0, a_Dim1 + b_Dim1, a_Dim2 + b_Dim2, a_Dim3 + b_Dim3, a_Dim4 + b_Dim4, a_Dim5 + b_Dim5]) := (Fr.Fz.no (fun h => hR h.2) ((Fr.fq a_Factor_P_Sign a_Factor_P_Digits a_Factor_Q_Digits) * (Fr.fq b_Factor_P_Sign b_Factor_P_Digits b_Factor_Q_Digits))).2.2.1
    have e10 : n7 = Dm.opE (Un.UR [a_Dim0, a_Dim1, a_Dim2, a_Dim3, a_Dim4, a_Dim5] a_Factor_P_Sign a_Factor_P_Digits a_Factor_Q_Sign a_Factor_Q_Digits ∧ Un.UR [b_Dim0, b_Dim1, b_Dim2, b_Dim3, b_Dim4, b_Dim5] b_Factor_P_Sign b_Factor_P_Digits b_Factor_Q_Sign b_Factor_Q_Digits) [a_Dim0 + b_Dim0, a_Dim1 + b_Dim1, a_Dim2 + b_Dim2, a_Dim3 + b_Dim3, a_Dim4 + b_Dim4, a_Dim5 + b_Dim5] := by rw [hn7]; exact Un.opE_pq hP2 hP _
    exact V.ret [2, 0] [{}, {}] [fun _ => {}, fun _ => {}] [] [4, 5] [] (.tuple #[.agg #[iv 0, iv 0, iv 0, iv 0, iv 0, iv 0, iv 0, SV.v ({}), iv 0, SV.v ({})], iv n7]) (fun _ _ => by kernel_rfl) (fun _ _ => (Eq.trans (by kernel_rfl) (cong9 (fun (x0 : Int) (x1 : Int) (x2 : Int) (x3 : Int) (x4 : Int) (x5 : Int) (x6 : Int) (x8 : Int) (x10 : Int) => (.tuple #[.agg #[iv x0, iv x1, iv x2, iv x3, iv x4, iv x5, iv x6, SV.v ({}), iv x8, SV.v ({})], iv x10] : Value)) e0 e1 e2 e3 e4 e5 e6 e8 e10)).trans (by kernel_rfl)) (fun _ _ => trivial)
  have hR : Dm.Rt [a_Dim0 + b_Dim0, a_Dim1 + b_Dim1, a_Dim2 + b_Dim2, a_Dim3 + b_Dim3, a_Dim4 + b_Dim4, a_Dim5 + b_Dim5] := Un.opE_eq hP2 (by rw [← hn7]; first | exact q4 | exact Decidable.not_not.1 q4)
  refine nm (Fr.rS (Fr.FrB a_Factor_P_Sign a_Factor_P_Digits a_Factor_Q_Sign a_Factor_Q_Digits ∧ Fr.FrB b_Factor_P_Sign b_Factor_P_Digits b_Factor_Q_Sign b_Factor_Q_Digits) ((Fr.fq a_Factor_P_Sign a_Factor_P_Digits a_Factor_Q_Digits) * (Fr.fq b_Factor_P_Sign b_Factor_P_Digits b_Factor_Q_Digits)) : Int) fun n8 hn8 => ?_
  refine nm (Fr.rD (Fr.FrB a_Factor_P_Sign a_Factor_P_Digits a_Factor_Q_Sign a_Factor_Q_Digits ∧ Fr.FrB b_Factor_P_Sign b_Factor_P_Digits b_Factor_Q_Sign b_Factor_Q_Digits) ((Fr.fq a_Factor_P_Sign a_Factor_P_Digits a_Factor_Q_Digits) * (Fr.fq b_Factor_P_Sign b_Factor_P_Digits b_Factor_Q_Digits)) : List Int) fun l1 hl1 => ?_
  have hl1n := congrArg List.length hl1
  refine nm (Fr.rT (Fr.FrB a_Factor_P_Sign a_Factor_P_Digits a_Factor_Q_Sign a_Factor_Q_Digits ∧ Fr.FrB b_Factor_P_Sign b_Factor_P_Digits b_Factor_Q_Sign b_Factor_Q_Digits) : Int) fun n9 hn9 => ?_
  refine nm (Fr.rE (Fr.FrB a_Factor_P_Sign a_Factor_P_Digits a_Factor_Q_Sign a_Factor_Q_Digits ∧ Fr.FrB b_Factor_P_Sign b_Factor_P_Digits b_Factor_Q_Sign b_Factor_Q_Digits) ((Fr.fq a_Factor_P_Sign a_Factor_P_Digits a_Factor_Q_Digits) * (Fr.fq b_Factor_P_Sign b_Factor_P_Digits b_Factor_Q_Digits)) : List Int) fun l2 hl2 => ?_
  have hl2n := congrArg List.length hl2
  refine nm (if ¬ (Fr.FrB a_Factor_P_Sign a_Factor_P_Digits a_Factor_Q_Sign a_Factor_Q_Digits ∧ Fr.FrB b_Factor_P_Sign b_Factor_P_Digits b_Factor_Q_Sign b_Factor_Q_Digits) then (1 : Int) else 0 : Int) fun n10 hn10 => ?_
  have zf := Fr.Fz.of ⟨hP.1.2.1, hP.2.2.1⟩ hn8 hl1 hn9 hl2
  refine V.r [.k (pp ((G1 0).b) 6),.ld 0 6 true (fun _ => Dat.cells (DFrac.mk (DBig.mk a_Factor_P_Sign ⟨a_Factor_P_Digits, a_Factor_P_Digitss⟩) (DBig.mk a_Factor_Q_Sign ⟨a_Factor_Q_Digits, a_Factor_Q_Digitss⟩))),.k (pp ((G1 1).b) 6),.ld 1 6 true (fun _ => Dat.cells (DFrac.mk (DBig.mk b_Factor_P_Sign ⟨b_Factor_P_Digits, b_Factor_P_Digitss⟩) (DBig.mk b_Factor_Q_Sign ⟨b_Factor_Q_Digits, b_Factor_Q_Digitss⟩))),.ct g0 4 20 false [] [] [(kf false (.f 0) a_Factor_P_Digits (fun _ => a_Factor_P_Digitss)).a, (kf false (.f 1) a_Factor_Q_Digits (fun _ => a_Factor_Q_Digitss)).a, (kf false (.f 2) b_Factor_P_Digits (fun _ => b_Factor_P_Digitss)).a, (kf false (.f 3) b_Factor_Q_Digits (fun _ => b_Factor_Q_Digitss)).a] (fun _ G => fmul_ctv a_Factor_P_Sign a_Factor_P_Digits a_Factor_P_Digitss a_Factor_Q_Sign a_Factor_Q_Digits a_Factor_Q_Digitss b_Factor_P_Sign b_Factor_P_Digits b_Factor_P_Digitss b_Factor_Q_Sign b_Factor_Q_Digits b_Factor_Q_Digitss (by omega) (by omega) (by omega) (by omega) n8 hn8 l1 hl1 n9 hn9 l2 hl2 n10 hn10),.v fun G => .tuple #[ag (DFrac.mk (DBig.mk n8 ⟨l1, (G 4).ss 0⟩) (DBig.mk n9 ⟨l2, (G 4).ss 1⟩)), iv n10],.v fun G => ag (DFrac.mk (DBig.mk n8 ⟨l1, (G 4).ss 0⟩) (DBig.mk n9 ⟨l2, (G 4).ss 1⟩)),.k (iv n10),.nb 8 4 (fun b => pp b 0) 30 (fun _ => ca (DFrac.mk (DBig.mk 0 ⟨[], {}⟩) (DBig.mk 0 ⟨[], {}⟩))),.st 4 (fun G => .blk ((G 8).b) (ca (DFrac.mk (DBig.mk n8 ⟨l1, (G 4).ss 0⟩) (DBig.mk n9 ⟨l2, (G 4).ss 1⟩))) 30),.k (iv n10)] fun _ _ G7 kw7 => ?_
  intro S_ s_
  obtain ⟨⟨kl5, -⟩, ⟨kl6, -⟩, -⟩ : Lq l1 (((G7 4).ss 0).v) ∧ Lq l2 (((G7 4).ss 1).v) ∧ True := kn kw7 (by kernel_rfl)
  clear kw7
  refine V.g [.ld 3 0 true (fun _ => [iv n1, iv n2, iv n3, iv n4, iv n5, iv n6]),.ld 4 0 true (fun _ => Dat.cells (DFrac.mk (DBig.mk n8 ⟨l1, (G7 4).ss 0⟩) (DBig.mk n9 ⟨l2, (G7 4).ss 1⟩))),.k (.agg #[iv n1, iv n2, iv n3, iv n4, iv n5, iv n6, iv n8, ((G7 4).ss 0).v, iv n9, ((G7 4).ss 1).v]),.st 2 (fun _ => .blk ((G1 2).b) #[iv n1, iv n2, iv n3, iv n4, iv n5, iv n6, iv n8, ((G7 4).ss 0).v, iv n9, ((G7 4).ss 1).v] 32),.k (iv 0)] fun _ _ G8 => ?_
  intro S_ s_
  have e7 : l1 = Fr.rD ((Un.UR [a_Dim0, a_Dim1, a_Dim2, a_Dim3, a_Dim4, a_Dim5] a_Factor_P_Sign a_Factor_P_Digits a_Factor_Q_Sign a_Factor_Q_Digits ∧ Un.UR [b_Dim0, b_Dim1, b_Dim2, b_Dim3, b_Dim4, b_Dim5] b_Factor_P_Sign b_Factor_P_Digits b_Factor_Q_Sign b_Factor_Q_Digits) ∧ Dm.Rt [a_Dim0 + b_Dim0, a_Dim1 + b_Dim1, a_Dim2 + b_Dim2, a_Dim3 + b_Dim3, a_Dim4 + b_Dim4, a_Dim5 + b_Dim5]) ((Fr.fq a_Factor_P_Sign a_Factor_P_Digits a_Factor_Q_Digits) * (Fr.fq b_Factor_P_Sign b_Factor_P_Digits b_Factor_Q_Digits)) := (Fr.Fz.ret zf ⟨hP, hR⟩ (rfl)).2.1
  subst e7
  have e9 : l2 = Fr.rE ((Un.UR [a_Dim0, a_Dim1, a_Dim2, a_Dim3, a_Dim4, a_Dim5] a_Factor_P_Sign a_Factor_P_Digits a_Factor_Q_Sign a_Factor_Q_Digits ∧ Un.UR [b_Dim0, b_Dim1, b_Dim2, b_Dim3, b_Dim4, b_Dim5] b_Factor_P_Sign b_Factor_P_Digits b_Factor_Q_Sign b_Factor_Q_Digits) ∧ Dm.Rt [a_Dim0 + b_Dim0, a_Dim1 + b_Dim1, a_Dim2 + b_Dim2, a_Dim3 + b_Dim3, a_Dim4 + b_Dim4, a_Dim5 + b_Dim5]) ((Fr.fq a_Factor_P_Sign a_Factor_P_Digits a_Factor_Q_Digits) * (Fr.fq b_Factor_P_Sign b_Factor_P_Digits b_Factor_Q_Digits)) := (Fr.Fz.ret zf ⟨hP, hR⟩ (rfl)).2.2.2
  subst e9
  have e0 : n1 = Dm.opV (Un.UR [a_Dim0, a_Dim1, a_Dim2, a_Dim3, a_Dim4, a_Dim5] a_Factor_P_Sign a_Factor_P_Digits a_Factor_Q_Sign a_Factor_Q_Digits ∧ Un.UR [b_Dim0, b_Dim1, b_Dim2, b_Dim3, b_Dim4, b_Dim5] b_Factor_P_Sign b_Factor_P_Digits b_Factor_Q_Sign b_Factor_Q_Digits) [a_Dim0 + b_Dim0, a_Dim1 + b_Dim1, a_Dim2 + b_Dim2, a_Dim3 + b_Dim3, a_Dim4 + b_Dim4, a_Dim5 + b_Dim5] 0 := by
    rw [hn1]
    exact Un.opV_pq hP2 hP _ 0
  have e1 : n2 = Dm.opV (Un.UR [a_Dim0, a_Dim1, a_Dim2, a_Dim3, a_Dim4, a_Dim5] a_Factor_P_Sign a_Factor_P_Digits a_Factor_Q_Sign a_Factor_Q_Digits ∧ Un.UR [b_Dim0, b_Dim1, b_Dim2, b_Dim3, b_Dim4, b_Dim5] b_Factor_P_Sign b_Factor_P_Digits b_Factor_Q_Sign b_Factor_Q_Digits) [a_Dim0 + b_Dim0, a_Dim1 + b_Dim1, a_Dim2 + b_Dim2, a_Dim3 + b_Dim3, a_Dim4 + b_Dim4, a_Dim5 + b_Dim5] 1 := by
    rw [hn2]
    exact Un.opV_pq hP2 hP _ 1
  have e2 : n3 = Dm.opV (Un.UR [a_Dim0, a_Dim1, a_Dim2, a_Dim3, a_Dim4, a_Dim5] a_Factor_P_Sign a_Factor_P_Digits a_Factor_Q_Sign a_Factor_Q_Digits ∧ Un.UR [b_Dim0, b_Dim1, b_Dim2, b_Dim3, b_Dim4, b_Dim5] b_Factor_P_Sign b_Factor_P_Digits b_Factor_Q_Sign b_Factor_Q_Digits) [a_Dim0 + b_Dim0, a_Dim1 + b_Dim1, a_Dim2 + b_Dim2, a_Dim3 + b_Dim3, a_Dim4 + b_Dim4, a_Dim5 + b_Dim5] 2 := by
    rw [hn3]
    exact Un.opV_pq hP2 hP _ 2
  have e3 : n4 = Dm.opV (Un.UR [a_Dim0, a_Dim1, a_Dim2, a_Dim3, a_Dim4, a_Dim5] a_Factor_P_Sign a_Factor_P_Digits a_Factor_Q_Sign a_Factor_Q_Digits ∧ Un.UR [b_Dim0, b_Dim1, b_Dim2, b_Dim3, b_Dim4, b_Dim5] b_Factor_P_Sign b_Factor_P_Digits b_Factor_Q_Sign b_Factor_Q_Digits) [a_Dim0 + b_Dim0, a_Dim1 + b_Dim1, a_Dim2 + b_Dim2, a_Dim3 + b_Dim3, a_Dim4 + b_Dim4, a_Dim5 + b_Dim5] 3 := by
    rw [hn4]
    exact Un.opV_pq hP2 hP _ 3
  have e4 : n5 = Dm.opV (Un.UR [a_Dim0, a_Dim1, a_Dim2, a_Dim3, a_Dim4, a_Dim5] a_Factor_P_Sign a_Factor_P_Digits a_Factor_Q_Sign a_Factor_Q_Digits ∧ Un.UR [b_Dim0, b_Dim1, b_Dim2, b_Dim3, b_Dim4, b_Dim5] b_Factor_P_Sign b_Factor_P_Digits b_Factor_Q_Sign b_Factor_Q_Digits) [a_Dim0 + b_Dim0, a_Dim1 + b_Dim1, a_Dim2 + b_Dim2, a_Dim3 + b_Dim3, a_Dim4 + b_Dim4, a_Dim5 + b_Dim5] 4 := by
    rw [hn5]
    exact Un.opV_pq hP2 hP _ 4
  have e5 : n6 = Dm.opV (Un.UR [a_Dim0, a_Dim1, a_Dim2, a_Dim3, a_Dim4, a_Dim5] a_Factor_P_Sign a_Factor_P_Digits a_Factor_Q_Sign a_Factor_Q_Digits ∧ Un.UR [b_Dim0, b_Dim1, b_Dim2, b_Dim3, b_Dim4, b_Dim5] b_Factor_P_Sign b_Factor_P_Digits b_Factor_Q_Sign b_Factor_Q_Digits) [a_Dim0 + b_Dim0, a_Dim1 + b_Dim1, a_Dim2 + b_Dim2, a_Dim3 + b_Dim3, a_Dim4 + b_Dim4, a_Dim5 + b_Dim5] 5 := by
    rw [hn6]
    exact Un.opV_pq hP2 hP _ 5
  have e6 : n8 = Fr.rS ((Un.UR [a_Dim0, a_Dim1, a_Dim2, a_Dim3, a_Dim4, a_Dim5] a_Factor_P_Sign a_Factor_P_Digits a_Factor_Q_Sign a_Factor_Q_Digits ∧ Un.UR [b_Dim0, b_Dim1, b_Dim2, b_Dim3, b_Dim4, b_Dim5] b_Factor_P_Sign b_Factor_P_Digits b_Factor_Q_Sign b_Factor_Q_Digits) ∧ Dm.Rt [a_Dim0 + b_Dim0, a_Dim1 + b_Dim1, a_Dim2 + b_Dim2, a_Dim3 + b_Dim3, a_Dim4 + b_Dim4, a_Dim5 + b_Dim5]) ((Fr.fq a_Factor_P_Sign a_Factor_P_Digits a_Factor_Q_Digits) * (Fr.fq b_Factor_P_Sign b_Factor_P_Digits b_Factor_Q_Digits)) := (Fr.Fz.ret zf ⟨hP, hR⟩ (rfl)).1
  have e8 : n9 = Fr.rT ((Un.UR [a_Dim0, a_Dim1, a_Dim2, a_Dim3, a_Dim4, a_Dim5] a_Factor_P_Sign a_Factor_P_Digits a_Factor_Q_Sign a_Factor_Q_Digits ∧ Un.UR [b_Dim0, b_Dim1, b_Dim2, b_Dim3, b_Dim4, b_Dim5] b_Factor_P_Sign b_Factor_P_Digits b_Factor_Q_Sign b_Factor_Q_Digits) ∧ Dm.Rt [a_Dim0 + b_Dim0, a_Dim1 + b_Dim1, a_Dim2 + b_Dim2, a_Dim3 + b_Dim3, a_Dim4 + b_Dim4, a_Dim5 + b_Dim5]) := (Fr.Fz.ret zf ⟨hP, hR⟩ (rfl)).2.2.1
  have e10 : (0 : Int) = Dm.opE (Un.UR [a_Dim0, a_Dim1, a_Dim2, a_Dim3, a_Dim4, a_Dim5] a_Factor_P_Sign a_Factor_P_Digits a_Factor_Q_Sign a_Factor_Q_Digits ∧ Un.UR [b_Dim0, b_Dim1, b_Dim2, b_Dim3, b_Dim4, b_Dim5] b_Factor_P_Sign b_Factor_P_Digits b_Factor_Q_Sign b_Factor_Q_Digits) [a_Dim0 + b_Dim0, a_Dim1 + b_Dim1, a_Dim2 + b_Dim2, a_Dim3 + b_Dim3, a_Dim4 + b_Dim4, a_Dim5 + b_Dim5] := by rw [Dm.opE_y hP, Dm.mkE_y hR]
  exact V.ret [2, 0] [(G7 4).ss 0, (G7 4).ss 1] [fun _ => {}, fun _ => {}] [] [4, 5] [] (.tuple #[.agg #[iv n1, iv n2, iv n3, iv n4, iv n5, iv n6, iv n8, ((G7 4).ss 0).v, iv n9, ((G7 4).ss 1).v], iv 0]) (fun _ _ => by kernel_rfl) (fun _ _ => (Eq.trans (by kernel_rfl) (cong9 (fun (x0 : Int) (x1 : Int) (x2 : Int) (x3 : Int) (x4 : Int) (x5 : Int) (x6 : Int) (x8 : Int) (x10 : Int) => (.tuple #[.agg #[iv x0, iv x1, iv x2, iv x3, iv x4, iv x5, iv x6, ((G7 4).ss 0).v, iv x8, ((G7 4).ss 1).v], iv x10] : Value)) e0 e1 e2 e3 e4 e5 e6 e8 e10)).trans (by kernel_rfl)) (fun _ _ => trivial)
theorem umul_ctv (a_Dim0 a_Dim1 a_Dim2 a_Dim3 a_Dim4 a_Dim5 a_Factor_P_Sign : Int) (a_Factor_P_Digits : List Int) (a_Factor_P_Digitss : SV) (a_Factor_Q_Sign : Int) (a_Factor_Q_Digits : List Int) (a_Factor_Q_Digitss : SV) (b_Dim0 b_Dim1 b_Dim2 b_Dim3 b_Dim4 b_Dim5 b_Factor_P_Sign : Int) (b_Factor_P_Digits : List Int) (b_Factor_P_Digitss : SV) (b_Factor_Q_Sign : Int) (b_Factor_Q_Digits : List Int) (b_Factor_Q_Digitss : SV) (haP : a_Factor_P_Digits.length ≤ 17179869184) (haQ : a_Factor_Q_Digits.length ≤ 17179869184) (hbP : b_Factor_P_Digits.length ≤ 17179869184) (hbQ : b_Factor_Q_Digits.length ≤ 17179869184) (rv0 : Int) (erv0 : rv0 = Dm.opV (Un.UR [a_Dim0, a_Dim1, a_Dim2, a_Dim3, a_Dim4, a_Dim5] a_Factor_P_Sign a_Factor_P_Digits a_Factor_Q_Sign a_Factor_Q_Digits ∧ Un.UR [b_Dim0, b_Dim1, b_Dim2, b_Dim3, b_Dim4, b_Dim5] b_Factor_P_Sign b_Factor_P_Digits b_Factor_Q_Sign b_Factor_Q_Digits) [a_Dim0 + b_Dim0, a_Dim1 + b_Dim1, a_Dim2 + b_Dim2, a_Dim3 + b_Dim3, a_Dim4 + b_Dim4, a_Dim5 + b_Dim5] 0) (rv1 : Int) (erv1 : rv1 = Dm.opV (Un.UR [a_Dim0, a_Dim1, a_Dim2, a_Dim3, a_Dim4, a_Dim5] a_Factor_P_Sign a_Factor_P_Digits a_Factor_Q_Sign a_Factor_Q_Digits ∧ Un.UR [b_Dim0, b_Dim1, b_Dim2, b_Dim3, b_Dim4, b_Dim5] b_Factor_P_Sign b_Factor_P_Digits b_Factor_Q_Sign b_Factor_Q_Digits) [a_Dim0 + b_Dim0, a_Dim1 + b_Dim1, a_Dim2 + b_Dim2, a_Dim3 + b_Dim3, a_Dim4 + b_Dim4, a_Dim5 + b_Dim5] 1) (rv2 : Int) (erv2 : rv2 = Dm.opV (Un.UR [a_Dim0, a_Dim1, a_Dim2, a_Dim3, a_Dim4, a_Dim5] a_Factor_P_Sign a_Factor_P_Digits a_Factor_Q_Sign a_Factor_Q_Digits ∧ Un.UR [b_Dim0, b_Dim1, b_Dim2, b_Dim3, b_Dim4, b_Dim5] b_Factor_P_Sign b_Factor_P_Digits b_Factor_Q_Sign b_Factor_Q_Digits) [a_Dim0 + b_Dim0, a_Dim1 + b_Dim1, a_Dim2 + b_Dim2, a_Dim3 + b_Dim3, a_Dim4 + b_Dim4, a_Dim5 + b_Dim5] 2) (rv3 : Int) (erv3 : rv3 = Dm.opV (Un.UR [a_Dim0, a_Dim1, a_Dim2, a_Dim3, a_Dim4, a_Dim5] a_Factor_P_Sign a_Factor_P_Digits a_Factor_Q_Sign a_Factor_Q_Digits ∧ Un.UR [b_Dim0, b_Dim1, b_Dim2, b_Dim3, b_Dim4, b_Dim5] b_Factor_P_Sign b_Factor_P_Digits b_Factor_Q_Sign b_Factor_Q_Digits) [a_Dim0 + b_Dim0, a_Dim1 + b_Dim1, a_Dim2 + b_Dim2, a_Dim3 + b_Dim3, a_Dim4 + b_Dim4, a_Dim5 + b_Dim5] 3) (rv4 : Int) (erv4 : rv4 = Dm.opV (Un.UR [a_Dim0, a_Dim1, a_Dim2, a_Dim3, a_Dim4, a_Dim5] a_Factor_P_Sign a_Factor_P_Digits a_Factor_Q_Sign a_Factor_Q_Digits ∧ Un.UR [b_Dim0, b_Dim1, b_Dim2, b_Dim3, b_Dim4, b_Dim5] b_Factor_P_Sign b_Factor_P_Digits b_Factor_Q_Sign b_Factor_Q_Digits) [a_Dim0 + b_Dim0, a_Dim1 + b_Dim1, a_Dim2 + b_Dim2, a_Dim3 + b_Dim3, a_Dim4 + b_Dim4, a_Dim5 + b_Dim5] 4) (rv5 : Int) (erv5 : rv5 = Dm.opV (Un.UR [a_Dim0, a_Dim1, a_Dim2, a_Dim3, a_Dim4, a_Dim5] a_Factor_P_Sign a_Factor_P_Digits a_Factor_Q_Sign a_Factor_Q_Digits ∧ Un.UR [b_Dim0, b_Dim1, b_Dim2, b_Dim3, b_Dim4, b_Dim5] b_Factor_P_Sign b_Factor_P_Digits b_Factor_Q_Sign b_Factor_Q_Digits) [a_Dim0 + b_Dim0, a_Dim1 + b_Dim1, a_Dim2 + b_Dim2, a_Dim3 + b_Dim3, a_Dim4 + b_Dim4, a_Dim5 + b_Dim5] 5) (rv6 : Int) (erv6 : rv6 = Fr.rS ((Un.UR [a_Dim0, a_Dim1, a_Dim2, a_Dim3, a_Dim4, a_Dim5] a_Factor_P_Sign a_Factor_P_Digits a_Factor_Q_Sign a_Factor_Q_Digits ∧ Un.UR [b_Dim0, b_Dim1, b_Dim2, b_Dim3, b_Dim4, b_Dim5] b_Factor_P_Sign b_Factor_P_Digits b_Factor_Q_Sign b_Factor_Q_Digits) ∧ Dm.Rt [a_Dim0 + b_Dim0, a_Dim1 + b_Dim1, a_Dim2 + b_Dim2, a_Dim3 + b_Dim3, a_Dim4 + b_Dim4, a_Dim5 + b_Dim5]) ((Fr.fq a_Factor_P_Sign a_Factor_P_Digits a_Factor_Q_Digits) * (Fr.fq b_Factor_P_Sign b_Factor_P_Digits b_Factor_Q_Digits))) (rv7 : List Int) (erv7 : rv7 = Fr.rD ((Un.UR [a_Dim0, a_Dim1, a_Dim2, a_Dim3, a_Dim4, a_Dim5] a_Factor_P_Sign a_Factor_P_Digits a_Factor_Q_Sign a_Factor_Q_Digits ∧ Un.UR [b_Dim0, b_Dim1, b_Dim2, b_Dim3, b_Dim4, b_Dim5] b_Factor_P_Sign b_Factor_P_Digits b_Factor_Q_Sign b_Factor_Q_Digits) ∧ Dm.Rt [a_Dim0 + b_Dim0, a_Dim1 + b_Dim1, a_Dim2 + b_Dim2, a_Dim3 + b_Dim3, a_Dim4 + b_Dim4, a_Dim5 + b_Dim5]) ((Fr.fq a_Factor_P_Sign a_Factor_P_Digits a_Factor_Q_Digits) * (Fr.fq b_Factor_P_Sign b_Factor_P_Digits b_Factor_Q_Digits))) (rv8 : Int) (erv8 : rv8 = Fr.rT ((Un.UR [a_Dim0, a_Dim1, a_Dim2, a_Dim3, a_Dim4, a_Dim5] a_Factor_P_Sign a_Factor_P_Digits a_Factor_Q_Sign a_Factor_Q_Digits ∧ Un.UR [b_Dim0, b_Dim1, b_Dim2, b_Dim3, b_Dim4, b_Dim5] b_Factor_P_Sign b_Factor_P_Digits b_Factor_Q_Sign b_Factor_Q_Digits) ∧ Dm.Rt [a_Dim0 + b_Dim0, a_Dim1 + b_Dim1, a_Dim2 + b_Dim2, a_Dim3 + b_Dim3, a_Dim4 + b_Dim4, a_Dim5 + b_Dim5])) (rv9 : List Int) (erv9 : rv9 = Fr.rE ((Un.UR [a_Dim0, a_Dim1, a_Dim2, a_Dim3, a_Dim4, a_Dim5] a_Factor_P_Sign a_Factor_P_Digits a_Factor_Q_Sign a_Factor_Q_Digits ∧ Un.UR [b_Dim0, b_Dim1, b_Dim2, b_Dim3, b_Dim4, b_Dim5] b_Factor_P_Sign b_Factor_P_Digits b_Factor_Q_Sign b_Factor_Q_Digits) ∧ Dm.Rt [a_Dim0 + b_Dim0, a_Dim1 + b_Dim1, a_Dim2 + b_Dim2, a_Dim3 + b_Dim3, a_Dim4 + b_Dim4, a_Dim5 + b_Dim5]) ((Fr.fq a_Factor_P_Sign a_Factor_P_Digits a_Factor_Q_Digits) * (Fr.fq b_Factor_P_Sign b_Factor_P_Digits b_Factor_Q_Digits))) (rv10 : Int) (erv10 : rv10 = Dm.opE (Un.UR [a_Dim0, a_Dim1, a_Dim2, a_Dim3, a_Dim4, a_Dim5] a_Factor_P_Sign a_Factor_P_Digits a_Factor_Q_Sign a_Factor_Q_Digits ∧ Un.UR [b_Dim0, b_Dim1, b_Dim2, b_Dim3, b_Dim4, b_Dim5] b_Factor_P_Sign b_Factor_P_Digits b_Factor_Q_Sign b_Factor_Q_Digits) [a_Dim0 + b_Dim0, a_Dim1 + b_Dim1, a_Dim2 + b_Dim2, a_Dim3 + b_Dim3, a_Dim4 + b_Dim4, a_Dim5 + b_Dim5]) :
    Ct Try.prog 37 #[.agg #[iv a_Dim0, iv a_Dim1, iv a_Dim2, iv a_Dim3, iv a_Dim4, iv a_Dim5, iv a_Factor_P_Sign, a_Factor_P_Digitss.v, iv a_Factor_Q_Sign, a_Factor_Q_Digitss.v], .agg #[iv b_Dim0, iv b_Dim1, iv b_Dim2, iv b_Dim3, iv b_Dim4, iv b_Dim5, iv b_Factor_P_Sign, b_Factor_P_Digitss.v, iv b_Factor_Q_Sign, b_Factor_Q_Digitss.v]] [fs true a_Factor_P_Digits a_Factor_P_Digitss, fs true a_Factor_Q_Digits a_Factor_Q_Digitss, fs true b_Factor_P_Digits b_Factor_P_Digitss, fs true b_Factor_Q_Digits b_Factor_Q_Digitss] [] (fun g => .tuple #[.agg #[iv rv0, iv rv1, iv rv2, iv rv3, iv rv4, iv rv5, iv rv6, ((g.ss 0)).v, iv rv8, ((g.ss 1)).v], iv rv10]) (fun g => [fs true rv7 (g.ss 0), fs true rv9 (g.ss 1)]) (fun g => []) (fun g => []) := by
  subst erv0 erv1 erv2 erv3 erv4 erv5 erv6 erv7 erv8 erv9 erv10; exact umul_ct a_Dim0 a_Dim1 a_Dim2 a_Dim3 a_Dim4 a_Dim5 a_Factor_P_Sign a_Factor_P_Digits a_Factor_P_Digitss a_Factor_Q_Sign a_Factor_Q_Digits a_Factor_Q_Digitss b_Dim0 b_Dim1 b_Dim2 b_Dim3 b_Dim4 b_Dim5 b_Factor_P_Sign b_Factor_P_Digits b_Factor_P_Digitss b_Factor_Q_Sign b_Factor_Q_Digits b_Factor_Q_Digitss haP haQ hbP hbQ
set_option maxRecDepth 10000 in
theorem udiv_ct (a_Dim0 a_Dim1 a_Dim2 a_Dim3 a_Dim4 a_Dim5 a_Factor_P_Sign : Int) (a_Factor_P_Digits : List Int) (a_Factor_P_Digitss : SV) (a_Factor_Q_Sign : Int) (a_Factor_Q_Digits : List Int) (a_Factor_Q_Digitss : SV) (b_Dim0 b_Dim1 b_Dim2 b_Dim3 b_Dim4 b_Dim5 b_Factor_P_Sign : Int) (b_Factor_P_Digits : List Int) (b_Factor_P_Digitss : SV) (b_Factor_Q_Sign : Int) (b_Factor_Q_Digits : List Int) (b_Factor_Q_Digitss : SV) (haP : a_Factor_P_Digits.length ≤ 17179869184) (haQ : a_Factor_Q_Digits.length ≤ 17179869184) (hbP : b_Factor_P_Digits.length ≤ 17179869184) (hbQ : b_Factor_Q_Digits.length ≤ 17179869184) :
    Ct Try.prog 38 #[.agg #[iv a_Dim0, iv a_Dim1, iv a_Dim2, iv a_Dim3, iv a_Dim4, iv a_Dim5, iv a_Factor_P_Sign, a_Factor_P_Digitss.v, iv a_Factor_Q_Sign, a_Factor_Q_Digitss.v], .agg #[iv b_Dim0, iv b_Dim1, iv b_Dim2, iv b_Dim3, iv b_Dim4, iv b_Dim5, iv b_Factor_P_Sign, b_Factor_P_Digitss.v, iv b_Factor_Q_Sign, b_Factor_Q_Digitss.v]] [fs true a_Factor_P_Digits a_Factor_P_Digitss, fs true a_Factor_Q_Digits a_Factor_Q_Digitss, fs true b_Factor_P_Digits b_Factor_P_Digitss, fs true b_Factor_Q_Digits b_Factor_Q_Digitss] [] (fun g => .tuple #[.agg #[iv (Dm.opV (Un.UR [a_Dim0, a_Dim1, a_Dim2, a_Dim3, a_Dim4, a_Dim5] a_Factor_P_Sign a_Factor_P_Digits a_Factor_Q_Sign a_Factor_Q_Digits ∧ Un.UR [b_Dim0, b_Dim1, b_Dim2, b_Dim3, b_Dim4, b_Dim5] b_Factor_P_Sign b_Factor_P_Digits b_Factor_Q_Sign b_Factor_Q_Digits) [a_Dim0 - b_Dim0, a_Dim1 - b_Dim1, a_Dim2 - b_Dim2, a_Dim3 - b_Dim3, a_Dim4 - b_Dim4, a_Dim5 - b_Dim5] 0), iv (Dm.opV (Un.UR [a_Dim0, a_Dim1, a_Dim2, a_Dim3, a_Dim4, a_Dim5] a_Factor_P_Sign a_Factor_P_Digits a_Factor_Q_Sign a_Factor_Q_Digits ∧ Un.UR [b_Dim0, b_Dim1, b_Dim2, b_Dim3, b_Dim4, b_Dim5] b_Factor_P_Sign b_Factor_P_Digits b_Factor_Q_Sign b_Factor_Q_Digits) [a_Dim0 - b_Dim0, a_Dim1 - b_Dim1, a_Dim2 - b_Dim2, a_Dim3 - b_Dim3, a_Dim4 - b_Dim4, a_Dim5 - b_Dim5] 1), iv (Dm.opV (Un.UR [a_Dim0, a_Dim1, a_Dim2, a_Dim3, a_Dim4, a_Dim5] a_Factor_P_Sign a_Factor_P_Digits a_Factor_Q_Sign a_Factor_Q_Digits ∧ Un.UR [b_Dim0, b_Dim1, b_Dim2, b_Dim3, b_Dim4, b_Dim5] b_Factor_P_Sign b_Factor_P_Digits b_Factor_Q_Sign b_Factor_Q_Digits) [a_Dim0 - b_Dim0, a_Dim1 - b_Dim1, a_Dim2 - b_Dim2, a_Dim3 - b_Dim3, a_Dim4 - b_Dim4, a_Dim5 - b_Dim5] 2), iv (Dm.opV (Un.UR [a_Dim0, a_Dim1, a_Dim2, a_Dim3, a_Dim4, a_Dim5] a_Factor_P_Sign a_Factor_P_Digits a_Factor_Q_Sign a_Factor_Q_Digits ∧ Un.UR [b_Dim0, b_Dim1, b_Dim2, b_Dim3, b_Dim4, b_Dim5] b_Factor_P_Sign b_Factor_P_Digits b_Factor_Q_Sign b_Factor_Q_Digits) [a_Dim0 - b_Dim0, a_Dim1 - b_Dim1, a_Dim2 - b_Dim2, a_Dim3 - b_Dim3, a_Dim4 - b_Dim4, a_Dim5 - b_Dim5] 3), iv (Dm.opV (Un.UR [a_Dim0, a_Dim1, a_Dim2, a_Dim3, a_Dim4, a_Dim5] a_Factor_P_Sign a_Factor_P_Digits a_Factor_Q_Sign a_Factor_Q_Digits ∧ Un.UR [b_Dim0, b_Dim1, b_Dim2, b_Dim3, b_Dim4, b_Dim5] b_Factor_P_Sign b_Factor_P_Digits b_Factor_Q_Sign b_Factor_Q_Digits) [a_Dim0 - b_Dim0, a_Dim1 - b_Dim1, a_Dim2 - b_Dim2, a_Dim3 - b_Dim3, a_Dim4 - b_Dim4, a_Dim5 - b_Dim5] 4), iv (Dm.opV (Un.UR [a_Dim0, a_Dim1, a_Dim2, a_Dim3, a_Dim4, a_Dim5] a_Factor_P_Sign a_Factor_P_Digits a_Factor_Q_Sign a_Factor_Q_Digits ∧ Un.UR [b_Dim0, b_Dim1, b_Dim2, b_Dim3, b_Dim4, b_Dim5] b_Factor_P_Sign b_Factor_P_Digits b_Factor_Q_Sign b_Factor_Q_Digits) [a_Dim0 - b_Dim0, a_Dim1 - b_Dim1, a_Dim2 - b_Dim2, a_Dim3 - b_Dim3, a_Dim4 - b_Dim4, a_Dim5 - b_Dim5] 5), iv (Fr.rS ((Un.UR [a_Dim0, a_Dim1, a_Dim2, a_Dim3, a_Dim4, a_Dim5] a_Factor_P_Sign a_Factor_P_Digits a_Factor_Q_Sign a_Factor_Q_Digits ∧ Un.UR [b_Dim0, b_Dim1, b_Dim2, b_Dim3, b_Dim4, b_Dim5] b_Factor_P_Sign b_Factor_P_Digits b_Factor_Q_Sign b_Factor_Q_Digits) ∧ Dm.Rt [a_Dim0 - b_Dim0, a_Dim1 - b_Dim1, a_Dim2 - b_Dim2, a_Dim3 - b_Dim3, a_Dim4 - b_Dim4, a_Dim5 - b_Dim5]) ((Fr.fq a_Factor_P_Sign a_Factor_P_Digits a_Factor_Q_Digits) / (Fr.fq b_Factor_P_Sign b_Factor_P_Digits b_Factor_Q_Digits))), ((g.ss 0)).v, iv (Fr.rT ((Un.UR [a_Dim0, a_Dim1, a_Dim2, a_Dim3, a_Dim4, a_Dim5] a_Factor_P_Sign a_Factor_P_Digits a_Factor_Q_Sign a_Factor_Q_Digits ∧ Un.UR [b_Dim0, b_Dim1, b_Dim2, b_Dim3, b_Dim4, b_Dim5] b_Factor_P_Sign b_Factor_P_Digits b_Factor_Q_Sign b_Factor_Q_Digits) ∧ Dm.Rt [a_Dim0 - b_Dim0, a_Dim1 - b_Dim1, a_Dim2 - b_Dim2, a_Dim3 - b_Dim3, a_Dim4 - b_Dim4, a_Dim5 - b_Dim5])), ((g.ss 1)).v], iv (Dm.opE (Un.UR [a_Dim0, a_Dim1, a_Dim2, a_Dim3, a_Dim4, a_Dim5] a_Factor_P_Sign a_Factor_P_Digits a_Factor_Q_Sign a_Factor_Q_Digits ∧ Un.UR [b_Dim0, b_Dim1, b_Dim2, b_Dim3, b_Dim4, b_Dim5] b_Factor_P_Sign b_Factor_P_Digits b_Factor_Q_Sign b_Factor_Q_Digits) [a_Dim0 - b_Dim0, a_Dim1 - b_Dim1, a_Dim2 - b_Dim2, a_Dim3 - b_Dim3, a_Dim4 - b_Dim4, a_Dim5 - b_Dim5])]) (fun g => [fs true (Fr.rD ((Un.UR [a_Dim0, a_Dim1, a_Dim2, a_Dim3, a_Dim4, a_Dim5] a_Factor_P_Sign a_Factor_P_Digits a_Factor_Q_Sign a_Factor_Q_Digits ∧ Un.UR [b_Dim0, b_Dim1, b_Dim2, b_Dim3, b_Dim4, b_Dim5] b_Factor_P_Sign b_Factor_P_Digits b_Factor_Q_Sign b_Factor_Q_Digits) ∧ Dm.Rt [a_Dim0 - b_Dim0, a_Dim1 - b_Dim1, a_Dim2 - b_Dim2, a_Dim3 - b_Dim3, a_Dim4 - b_Dim4, a_Dim5 - b_Dim5]) ((Fr.fq a_Factor_P_Sign a_Factor_P_Digits a_Factor_Q_Digits) / (Fr.fq b_Factor_P_Sign b_Factor_P_Digits b_Factor_Q_Digits))) (g.ss 0), fs true (Fr.rE ((Un.UR [a_Dim0, a_Dim1, a_Dim2, a_Dim3, a_Dim4, a_Dim5] a_Factor_P_Sign a_Factor_P_Digits a_Factor_Q_Sign a_Factor_Q_Digits ∧ Un.UR [b_Dim0, b_Dim1, b_Dim2, b_Dim3, b_Dim4, b_Dim5] b_Factor_P_Sign b_Factor_P_Digits b_Factor_Q_Sign b_Factor_Q_Digits) ∧ Dm.Rt [a_Dim0 - b_Dim0, a_Dim1 - b_Dim1, a_Dim2 - b_Dim2, a_Dim3 - b_Dim3, a_Dim4 - b_Dim4, a_Dim5 - b_Dim5]) ((Fr.fq a_Factor_P_Sign a_Factor_P_Digits a_Factor_Q_Digits) / (Fr.fq b_Factor_P_Sign b_Factor_P_Digits b_Factor_Q_Digits))) (g.ss 1)]) (fun g => []) (fun g => []) := by
  refine V.fn mo Try.func38 42 5 (by kernel_rfl) fun w H ε k0 => ?_
  obtain ⟨⟨kl1, -⟩, ⟨kl2, -⟩, ⟨kl3, -⟩, ⟨kl4, -⟩, -⟩ : Lq a_Factor_P_Digits a_Factor_P_Digitss.v ∧ Lq a_Factor_Q_Digits a_Factor_Q_Digitss.v ∧ Lq b_Factor_P_Digits b_Factor_P_Digitss.v ∧ Lq b_Factor_Q_Digits b_Factor_Q_Digitss.v ∧ True := kn k0 (by kernel_rfl)
  clear k0
  refine V.g [.nb 0 0 (fun b => pp b 0) 32 (fun _ => #[iv a_Dim0, iv a_Dim1, iv a_Dim2, iv a_Dim3, iv a_Dim4, iv a_Dim5, iv a_Factor_P_Sign, a_Factor_P_Digitss.v, iv a_Factor_Q_Sign, a_Factor_Q_Digitss.v]),.nb 1 1 (fun b => pp b 0) 32 (fun _ => #[iv b_Dim0, iv b_Dim1, iv b_Dim2, iv b_Dim3, iv b_Dim4, iv b_Dim5, iv b_Factor_P_Sign, b_Factor_P_Digitss.v, iv b_Factor_Q_Sign, b_Factor_Q_Digitss.v]),.nb 2 2 (fun b => pp b 0) 32 (fun _ => #[iv 0, iv 0, iv 0, iv 0, iv 0, iv 0, iv 0, .slice none 0 0, iv 0, .slice none 0 0]),.k (iv 0)] fun _ _ G1 => ?_
  intro S_ s_
  refine nm ((!(decide (Un.UR [a_Dim0, a_Dim1, a_Dim2, a_Dim3, a_Dim4, a_Dim5] a_Factor_P_Sign a_Factor_P_Digits a_Factor_Q_Sign a_Factor_Q_Digits))) || (!(decide (Un.UR [b_Dim0, b_Dim1, b_Dim2, b_Dim3, b_Dim4, b_Dim5] b_Factor_P_Sign b_Factor_P_Digits b_Factor_Q_Sign b_Factor_Q_Digits))) : Bool) fun p1 hp1 => ?_
  refine V.g [.ld 0 0 true (fun _ => [iv a_Dim0, iv a_Dim1, iv a_Dim2, iv a_Dim3, iv a_Dim4, iv a_Dim5, iv a_Factor_P_Sign, a_Factor_P_Digitss.v, iv a_Factor_Q_Sign, a_Factor_Q_Digitss.v]),.cp g0 1 23 [(kf false (.f 0) a_Factor_P_Digits (fun _ => a_Factor_P_Digitss)).a, (kf false (.f 1) a_Factor_Q_Digits (fun _ => a_Factor_Q_Digitss)).a] (fun _ G => uright_ct a_Dim0 a_Dim1 a_Dim2 a_Dim3 a_Dim4 a_Dim5 a_Factor_P_Sign a_Factor_P_Digits a_Factor_P_Digitss a_Factor_Q_Sign a_Factor_Q_Digits a_Factor_Q_Digitss (by omega) (by omega)),.k (bv (!(decide (Un.UR [a_Dim0, a_Dim1, a_Dim2, a_Dim3, a_Dim4, a_Dim5] a_Factor_P_Sign a_Factor_P_Digits a_Factor_Q_Sign a_Factor_Q_Digits)))),.k (bv (!(decide (Un.UR [a_Dim0, a_Dim1, a_Dim2, a_Dim3, a_Dim4, a_Dim5] a_Factor_P_Sign a_Factor_P_Digits a_Factor_Q_Sign a_Factor_Q_Digits)))),.ld 1 0 true (fun _ => [iv b_Dim0, iv b_Dim1, iv b_Dim2, iv b_Dim3, iv b_Dim4, iv b_Dim5, iv b_Factor_P_Sign, b_Factor_P_Digitss.v, iv b_Factor_Q_Sign, b_Factor_Q_Digitss.v]),.cp (gF (b := !(decide (Un.UR [a_Dim0, a_Dim1, a_Dim2, a_Dim3, a_Dim4, a_Dim5] a_Factor_P_Sign a_Factor_P_Digits a_Factor_Q_Sign a_Factor_Q_Digits))) (iNF iDT)) 5 23 [(kf false (.f 2) b_Factor_P_Digits (fun _ => b_Factor_P_Digitss)).a, (kf false (.f 3) b_Factor_Q_Digits (fun _ => b_Factor_Q_Digitss)).a] (fun hg G => uright_ct b_Dim0 b_Dim1 b_Dim2 b_Dim3 b_Dim4 b_Dim5 b_Factor_P_Sign b_Factor_P_Digits b_Factor_P_Digitss b_Factor_Q_Sign b_Factor_Q_Digits b_Factor_Q_Digitss (by omega) (by omega)),.k (bv (!(decide (Un.UR [b_Dim0, b_Dim1, b_Dim2, b_Dim3, b_Dim4, b_Dim5] b_Factor_P_Sign b_Factor_P_Digits b_Factor_Q_Sign b_Factor_Q_Digits)))),.orn g0 false (!(decide (Un.UR [a_Dim0, a_Dim1, a_Dim2, a_Dim3, a_Dim4, a_Dim5] a_Factor_P_Sign a_Factor_P_Digits a_Factor_Q_Sign a_Factor_Q_Digits))) (!(decide (Un.UR [b_Dim0, b_Dim1, b_Dim2, b_Dim3, b_Dim4, b_Dim5] b_Factor_P_Sign b_Factor_P_Digits b_Factor_Q_Sign b_Factor_Q_Digits))) p1 hp1] fun _ _ G2 => ?_
  intro S_ s_
  refine V.cond (b := p1) (iN hp1 (iOT (iNT iDF) (iNT iDF))) (iN hp1 (iOF (iNF iDT) (iNF iDT))) (by kernel_rfl) (fun q1 => ?_) (fun q2 => ?_)
  · have hN : ¬ (Un.UR [a_Dim0, a_Dim1, a_Dim2, a_Dim3, a_Dim4, a_Dim5] a_Factor_P_Sign a_Factor_P_Digits a_Factor_Q_Sign a_Factor_Q_Digits ∧ Un.UR [b_Dim0, b_Dim1, b_Dim2, b_Dim3, b_Dim4, b_Dim5] b_Factor_P_Sign b_Factor_P_Digits b_Factor_Q_Sign b_Factor_Q_Digits) := by rintro ⟨h1, h2⟩; rcases q1 with h | h; exact h h1; exact h h2
    refine V.g [.k (.agg #[iv 0, iv 0, iv 0, iv 0, iv 0, iv 0, iv 0, .slice none 0 0, iv 0, .slice none 0 0]),.st 2 (fun _ => .blk ((G1 2).b) #[iv 0, iv 0, iv 0, iv 0, iv 0, iv 0, iv 0, .slice none 0 0, iv 0, .slice none 0 0] 32),.k (iv 1)] fun _ _ G3 => ?_
    intro S_ s_
    refine V.nilF (α := Int) ?_
    refine V.nilF (α := Int) ?_
    have e7 : ([] : List Int) = Fr.rD ((Un.UR [a_Dim0, a_Dim1, a_Dim2, a_Dim3, a_Dim4, a_Dim5] a_Factor_P_Sign a_Factor_P_Digits a_Factor_Q_Sign a_Factor_Q_Digits ∧ Un.UR [b_Dim0, b_Dim1, b_Dim2, b_Dim3, b_Dim4, b_Dim5] b_Factor_P_Sign b_Factor_P_Digits b_Factor_Q_Sign b_Factor_Q_Digits) ∧ Dm.Rt [a_Dim0 - b_Dim0, a_Dim1 - b_Dim1, a_Dim2 - b_Dim2, a_Dim3 - b_Dim3, a_Dim4 - b_Dim4, a_Dim5 - b_Dim5]) ((Fr.fq a_Factor_P_Sign a_Factor_P_Digits a_Factor_Q_Digits) / (Fr.fq b_Factor_P_Sign b_Factor_P_Digits b_Factor_Q_Digits)) := (Fr.Fz.no (fun h => hN h.1) ((Fr.fq a_Factor_P_Sign a_Factor_P_Digits a_Factor_Q_Digits) / (Fr.fq b_Factor_P_Sign b_Factor_P_Digits b_Factor_Q_Digits))).2.1
    rw [← e7]
    have e9 : ([] : List Int) = Fr.rE ((Un.UR [a_Dim0, a_Dim1, a_Dim2, a_Dim3, a_Dim4, a_Dim5] a_Factor_P_Sign a_Factor_P_Digits a_Factor_Q_Sign a_Factor_Q_Digits ∧ Un.UR [b_Dim0, b_Dim1, b_Dim2, b_Dim3, b_Dim4, b_Dim5] b_Factor_P_Sign b_Factor_P_Digits b_Factor_Q_Sign b_Factor_Q_Digits) ∧ Dm.Rt [a_Dim0 - b_Dim0, a_Dim1 - b_Dim1, a_Dim2 - b_Dim2, a_Dim3 - b_Dim3, a_Dim4 - b_Dim4, a_Dim5 - b_Dim5]) ((Fr.fq a_Factor_P_Sign a_Factor_P_Digits a_Factor_Q_Digits) / (Fr.fq b_Factor_P_Sign b_Factor_P_Digits b_Factor_Q_Digits)) := (Fr.Fz.no (fun h => hN h.1) ((Fr.fq a_Factor_P_Sign a_Factor_P_Digits a_Factor_Q_Digits) / (Fr.fq b_Factor_P_Sign b_Factor_P_Digits b_Factor_Q_Digits))).2.2.2
    rw [← e9]
    have e0 : (0 : Int) = Dm.opV (Un.UR [a_Dim0, a_Dim1, a_Dim2, a_Dim3, a_Dim4, a_Dim5] a_Factor_P_Sign a_Factor_P_Digits a_Factor_Q_Sign a_Factor_Q_Digits ∧ Un.UR [b_Dim0, b_Dim1, b_Dim2, b_Dim3, b_Dim4, b_Dim5] b_Factor_P_Sign b_Factor_P_Digits b_Factor_Q_Sign b_Factor_Q_Digits) [a_Dim0 - b_Dim0, a_Dim1 - b_Dim1, a_Dim2 - b_Dim2, a_Dim3 - b_Dim3, a_Dim4 - b_Dim4, a_Dim5 - b_Dim5] 0 := (Dm.opV_n hN _ 0).symm
    have e1 : (0 : Int) = Dm.opV (Un.UR [a_Dim0, a_Dim1, a_Dim2, a_Dim3, a_Dim4, a_Dim5] a_Factor_P_Sign a_Factor_P_Digits a_Factor_Q_Sign a_Factor_Q_Digits ∧ Un.UR [b_Dim0, b_Dim1, b_Dim2, b_Dim3, b_Dim4, b_Dim5] b_Factor_P_Sign b_Factor_P_Digits b_Factor_Q_Sign b_Factor_Q_Digits) [a_Dim0 - b_Dim0, a_Dim1 - b_Dim1, a_Dim2 - b_Dim2, a_Dim3 - b_Dim3, a_Dim4 - b_Dim4, a_Dim5 - b_Dim5] 1 := (Dm.opV_n hN _ 1).symm
    have e2 : (0 : Int) = Dm.opV (Un.UR [a_Dim0, a_Dim1, a_Dim2, a_Dim3, a_Dim4, a_Dim5] a_Factor_P_Sign a_Factor_P_Digits a_Factor_Q_Sign a_Factor_Q_Digits ∧ Un.UR [b_Dim0, b_Dim1, b_Dim2, b_Dim3, b_Dim4, b_Dim5] b_Factor_P_Sign b_Factor_P_Digits b_Factor_Q_Sign b_Factor_Q_Digits) [a_Dim0 - b_Dim0, a_Dim1 - b_Dim1, a_Dim2 - b_Dim2, a_Dim3 - b_Dim3, a_Dim4 - b_Dim4, a_Dim5 - b_Dim5] 2 := (Dm.opV_n hN _ 2).symm
    have e3 : (0 : Int) = Dm.opV (Un.UR [a_Dim0, a_Dim1, a_Dim2, a_Dim3, a_Dim4, a_Dim5] a_Factor_P_Sign a_Factor_P_Digits a_Factor_Q_Sign a_Factor_Q_Digits ∧ Un.UR [b_Dim0, b_Dim1, b_Dim2, b_Dim3, b_Dim4, b_Dim5] b_Factor_P_Sign b_Factor_P_Digits b_Factor_Q_Sign b_Factor_Q_Digits) [a_Dim0 - b_Dim0, a_Dim1 - b_Dim1, a_Dim2 - b_Dim2, a_Dim3 - b_Dim3, a_Dim4 - b_Dim4, a_Dim5 - b_Dim5] 3 := (Dm.opV_n hN _ 3).symm
    have e4 : (0 : Int) = Dm.opV (Un.UR [a_Dim0, a_Dim1, a_Dim2, a_Dim3, a_Dim4, a_Dim5] a_Factor_P_Sign a_Factor_P_Digits a_Factor_Q_Sign a_Factor_Q_Digits ∧ Un.UR [b_Dim0, b_Dim1, b_Dim2, b_Dim3, b_Dim4, b_Dim5] b_Factor_P_Sign b_Factor_P_Digits b_Factor_Q_Sign b_Factor_Q_Digits) [a_Dim0 - b_Dim0, a_Dim1 - b_Dim1, a_Dim2 - b_Dim2, a_Dim3 - b_Dim3, a_Dim4 - b_Dim4, a_Dim5 - b_Dim5] 4 := (Dm.opV_n hN _ 4).symm
    have e5 : (0 : Int) = Dm.opV (Un.UR [a_Dim0, a_Dim1, a_Dim2, a_Dim3, a_Dim4, a_Dim5] a_Factor_P_Sign a_Factor_P_Digits a_Factor_Q_Sign a_Factor_Q_Digits ∧ Un.UR [b_Dim0, b_Dim1, b_Dim2, b_Dim3, b_Dim4, b_Dim5] b_Factor_P_Sign b_Factor_P_Digits b_Factor_Q_Sign b_Factor_Q_Digits) [a_Dim0 - b_Dim0, a_Dim1 - b_Dim1, a_Dim2 - b_Dim2, a_Dim3 - b_Dim3, a_Dim4 - b_Dim4, a_Dim5 - b_Dim5] 5 := (Dm.opV_n hN _ 5).symm
    have e6 : (0 : Int) = Fr.rS ((Un.UR [a_Dim0, a_Dim1, a_Dim2, a_Dim3, a_Dim4, a_Dim5] a_Factor_P_Sign a_Factor_P_Digits a_Factor_Q_Sign a_Factor_Q_Digits ∧ Un.UR [b_Dim0, b_Dim1, b_Dim2, b_Dim3, b_Dim4, b_Dim5] b_Factor_P_Sign b_Factor_P_Digits b_Factor_Q_Sign b_Factor_Q_Digits) ∧ Dm.Rt [a_Dim0 - b_Dim0, a_Dim1 - b_Dim1, a_Dim2 - b_Dim2, a_Dim3 - b_Dim3, a_Dim4 - b_Dim4, a_Dim5 - b_Dim5]) ((Fr.fq a_Factor_P_Sign a_Factor_P_Digits a_Factor_Q_Digits) / (Fr.fq b_Factor_P_Sign b_Factor_P_Digits b_Factor_Q_Digits)) := (Fr.Fz.no (fun h => hN h.1) ((Fr.fq a_Factor_P_Sign a_Factor_P_Digits a_Factor_Q_Digits) / (Fr.fq b_Factor_P_Sign b_Factor_P_Digits b_Factor_Q_Digits))).1
    have e8 : (0 : Int) = Fr.rT ((Un.UR [a_Dim0, a_Dim1, a_Dim2, a_Dim3, a_Dim4, a_Dim5] a_Factor_P_Sign a_Factor_P_Digits a_Factor_Q_Sign a_Factor_Q_Digits ∧ Un.UR [b_Dim0, b_Dim1, b_Dim2, b_Dim3, b_Dim4, b_Dim5] b_Factor_P_Sign b_Factor_P_Digits b_Factor_Q_Sign b_Factor_Q_Digits) ∧ Dm.Rt [a_Dim0 - b_Dim0, a_Dim1 - b_Dim1, a_Dim2 - b_Dim2, a_Dim3 - b_Dim3, a_Dim4 - b_Dim4, a_Dim5 - b_Dim5]) := (Fr.Fz.no (fun h => hN h.1) ((Fr.fq a_Factor_P_Sign a_Factor_P_Digits a_Factor_Q_Digits) / (Fr.fq b_Factor_P_Sign b_Factor_P_Digits b_Factor_Q_Digits))).2.2.1
    have e10 : (1 : Int) = Dm.opE (Un.UR [a_Dim0, a_Dim1, a_Dim2, a_Dim3, a_Dim4, a_Dim5] a_Factor_P_Sign a_Factor_P_Digits a_Factor_Q_Sign a_Factor_Q_Digits ∧ Un.UR [b_Dim0, b_Dim1, b_Dim2, b_Dim3, b_Dim4, b_Dim5] b_Factor_P_Sign b_Factor_P_Digits b_Factor_Q_Sign b_Factor_Q_Digits) [a_Dim0 - b_Dim0, a_Dim1 - b_Dim1, a_Dim2 - b_Dim2, a_Dim3 - b_Dim3, a_Dim4 - b_Dim4, a_Dim5 - b_Dim5] := (Dm.opE_n hN _).symm
    exact V.ret [2, 0] [{}, {}] [fun _ => {}, fun _ => {}] [] [4, 5] [] (.tuple #[.agg #[iv 0, iv 0, iv 0, iv 0, iv 0, iv 0, iv 0, SV.v ({}), iv 0, SV.v ({})], iv 1]) (fun _ _ => by kernel_rfl) (fun _ _ => (Eq.trans (by kernel_rfl) (cong9 (fun (x0 : Int) (x1 : Int) (x2 : Int) (x3 : Int) (x4 : Int) (x5 : Int) (x6 : Int) (x8 : Int) (x10 : Int) => (.tuple #[.agg #[iv x0, iv x1, iv x2, iv x3, iv x4, iv x5, iv x6, SV.v ({}), iv x8, SV.v ({})], iv x10] : Value)) e0 e1 e2 e3 e4 e5 e6 e8 e10)).trans (by kernel_rfl)) (fun _ _ => trivial)
  have hP : (Un.UR [a_Dim0, a_Dim1, a_Dim2, a_Dim3, a_Dim4, a_Dim5] a_Factor_P_Sign a_Factor_P_Digits a_Factor_Q_Sign a_Factor_Q_Digits ∧ Un.UR [b_Dim0, b_Dim1, b_Dim2, b_Dim3, b_Dim4, b_Dim5] b_Factor_P_Sign b_Factor_P_Digits b_Factor_Q_Sign b_Factor_Q_Digits) := by first | exact q2 | exact ⟨Decidable.not_not.1 (q2).1, Decidable.not_not.1 (q2).2⟩
  have hP2 : Dm.Rt [a_Dim0, a_Dim1, a_Dim2, a_Dim3, a_Dim4, a_Dim5] ∧ Dm.Rt [b_Dim0, b_Dim1, b_Dim2, b_Dim3, b_Dim4, b_Dim5] := ⟨hP.1.1, hP.2.1⟩
  refine nm (Dm.opV (Dm.Rt [a_Dim0, a_Dim1, a_Dim2, a_Dim3, a_Dim4, a_Dim5] ∧ Dm.Rt [b_Dim0, b_Dim1, b_Dim2, b_Dim3, b_Dim4, b_Dim5]) [a_Dim0 - b_Dim0, a_Dim1 - b_Dim1, a_Dim2 - b_Dim2, a_Dim3 - b_Dim3, a_Dim4 - b_Dim4, a_Dim5 - b_Dim5] 0 : Int) fun n1 hn1 => ?_
  refine nm (Dm.opV (Dm.Rt [a_Dim0, a_Dim1, a_Dim2, a_Dim3, a_Dim4, a_Dim5] ∧ Dm.Rt [b_Dim0, b_Dim1, b_Dim2, b_Dim3, b_Dim4, b_Dim5]) [a_Dim0 - b_Dim0, a_Dim1 - b_Dim1, a_Dim2 - b_Dim2, a_Dim3 - b_Dim3, a_Dim4 - b_Dim4, a_Dim5 - b_Dim5] 1 : Int) fun n2 hn2 => ?_
  refine nm (Dm.opV (Dm.Rt [a_Dim0, a_Dim1, a_Dim2, a_Dim3, a_Dim4, a_Dim5] ∧ Dm.Rt [b_Dim0, b_Dim1, b_Dim2, b_Dim3, b_Dim4, b_Dim5]) [a_Dim0 - b_Dim0, a_Dim1 - b_Dim1, a_Dim2 - b_Dim2, a_Dim3 - b_Dim3, a_Dim4 - b_Dim4, a_Dim5 - b_Dim5] 2 : Int) fun n3 hn3 => ?_
  refine nm (Dm.opV (Dm.Rt [a_Dim0, a_Dim1, a_Dim2, a_Dim3, a_Dim4, a_Dim5] ∧ Dm.Rt [b_Dim0, b_Dim1, b_Dim2, b_Dim3, b_Dim4, b_Dim5]) [a_Dim0 - b_Dim0, a_Dim1 - b_Dim1, a_Dim2 - b_Dim2, a_Dim3 - b_Dim3, a_Dim4 - b_Dim4, a_Dim5 - b_Dim5] 3 : Int) fun n4 hn4 => ?_
  refine nm (Dm.opV (Dm.Rt [a_Dim0, a_Dim1, a_Dim2, a_Dim3, a_Dim4, a_Dim5] ∧ Dm.Rt [b_Dim0, b_Dim1, b_Dim2, b_Dim3, b_Dim4, b_Dim5]) [a_Dim0 - b_Dim0, a_Dim1 - b_Dim1, a_Dim2 - b_Dim2, a_Dim3 - b_Dim3, a_Dim4 - b_Dim4, a_Dim5 - b_Dim5] 4 : Int) fun n5 hn5 => ?_
  refine nm (Dm.opV (Dm.Rt [a_Dim0, a_Dim1, a_Dim2, a_Dim3, a_Dim4, a_Dim5] ∧ Dm.Rt [b_Dim0, b_Dim1, b_Dim2, b_Dim3, b_Dim4, b_Dim5]) [a_Dim0 - b_Dim0, a_Dim1 - b_Dim1, a_Dim2 - b_Dim2, a_Dim3 - b_Dim3, a_Dim4 - b_Dim4, a_Dim5 - b_Dim5] 5 : Int) fun n6 hn6 => ?_
  refine nm (Dm.opE (Dm.Rt [a_Dim0, a_Dim1, a_Dim2, a_Dim3, a_Dim4, a_Dim5] ∧ Dm.Rt [b_Dim0, b_Dim1, b_Dim2, b_Dim3, b_Dim4, b_Dim5]) [a_Dim0 - b_Dim0, a_Dim1 - b_Dim1, a_Dim2 - b_Dim2, a_Dim3 - b_Dim3, a_Dim4 - b_Dim4, a_Dim5 - b_Dim5] : Int) fun n7 hn7 => ?_
  refine V.g [.k (pp ((G1 0).b) 0),.ld 0 0 true (fun _ => [iv a_Dim0, iv a_Dim1, iv a_Dim2, iv a_Dim3, iv a_Dim4, iv a_Dim5]),.k (pp ((G1 1).b) 0),.ld 1 0 true (fun _ => [iv b_Dim0, iv b_Dim1, iv b_Dim2, iv b_Dim3, iv b_Dim4, iv b_Dim5]),.cp g0 4 74 [] (fun _ G => ddiv_ctv a_Dim0 a_Dim1 a_Dim2 a_Dim3 a_Dim4 a_Dim5 b_Dim0 b_Dim1 b_Dim2 b_Dim3 b_Dim4 b_Dim5 n1 hn1 n2 hn2 n3 hn3 n4 hn4 n5 hn5 n6 hn6 n7 hn7),.k (.tuple #[.agg #[iv n1, iv n2, iv n3, iv n4, iv n5, iv n6], iv n7]),.k (.agg #[iv n1, iv n2, iv n3, iv n4, iv n5, iv n6]),.k (iv n7),.nb 8 3 (fun b => pp b 0) 23 (fun _ => #[iv 0, iv 0, iv 0, iv 0, iv 0, iv 0]),.st 3 (fun G => .blk ((G 8).b) #[iv n1, iv n2, iv n3, iv n4, iv n5, iv n6] 23),.k (iv n7)] fun _ _ G4 => ?_
  intro S_ s_
  refine V.g [.k (iv n7),.k (bv (!(decide (n7 = 0))))] fun _ _ G5 => ?_
  intro S_ s_
  refine V.cond (b := !(decide (n7 = 0))) (iNT iDF) (iNF iDT) (by kernel_rfl) (fun q3 => ?_) (fun q4 => ?_)
  · have hR : ¬ Dm.Rt [a_Dim0 - b_Dim0, a_Dim1 - b_Dim1, a_Dim2 - b_Dim2, a_Dim3 - b_Dim3, a_Dim4 - b_Dim4, a_Dim5 - b_Dim5] := Un.opE_ne hP2 (by rw [← hn7]; exact q3)
    refine V.g [.k (.agg #[iv 0, iv 0, iv 0, iv 0, iv 0, iv 0, iv 0, .slice none 0 0, iv 0, .slice none 0 0]),.k (iv n7),.st 2 (fun _ => .blk ((G1 2).b) #[iv 0, iv 0, iv 0, iv 0, iv 0, iv 0, iv 0, .slice none 0 0, iv 0, .slice none 0 0] 32),.k (iv n7)] fun _ _ G6 => ?_
    intro S_ s_
    refine V.nilF (α := Int) ?_
    refine V.nilF (α := Int) ?_
    have e7 : ([] : List Int) = Fr.rD ((Un.UR [a_Dim0, a_Dim1, a_Dim2, a_Dim3, a_Dim4, a_Dim5] a_Factor_P_Sign a_Factor_P_Digits a_Factor_Q_Sign a_Factor_Q_Digits ∧ Un.UR [b_Dim0, b_Dim1, b_Dim2, b_Dim3, b_Dim4, b_Dim5] b_Factor_P_Sign b_Factor_P_Digits b_Factor_Q_Sign b_Factor_Q_Digits) ∧ Dm.Rt [a_Dim0 - b_Dim0, a_Dim1 - b_Dim1, a_Dim2 - b_Dim2, a_Dim3 - b_Dim3, a_Dim4 - b_Dim4, a_Dim5 - b_Dim5]) ((Fr.fq a_Factor_P_Sign a_Factor_P_Digits a_Factor_Q_Digits) / (Fr.fq b_Factor_P_Sign b_Factor_P_Digits b_Factor_Q_Digits)) := (Fr.Fz.no (fun h => hR h.2) ((Fr.fq a_Factor_P_Sign a_Factor_P_Digits a_Factor_Q_Digits) / (Fr.fq b_Factor_P_Sign b_Factor_P_Digits b_Factor_Q_Digits))).2.1
    rw [← e7]
    have e9 : ([] : List Int) = Fr.rE ((Un.UR [a_Dim0, a_Dim1, a_Dim2, a_Dim3, a_Dim4, a_Dim5] a_Factor_P_Sign a_Factor_P_Digits a_Factor_Q_Sign a_Factor_Q_Digits ∧ Un.UR [b_Dim0, b_Dim1, b_Dim2, b_Dim3, b_Dim4, b_Dim5] b_Factor_P_Sign b_Factor_P_Digits b_Factor_Q_Sign b_Factor_Q_Digits) ∧ Dm.Rt [a_Dim0 - b_Dim0, a_Dim1 - b_Dim1, a_Dim2 - b_Dim2, a_Dim3 - b_Dim3, a_Dim4 - b_Dim4, a_Dim5 - b_Dim5]) ((Fr.fq a_Factor_P_Sign a_Factor_P_Digits a_Factor_Q_Digits) / (Fr.fq b_Factor_P_Sign b_Factor_P_Digits b_Factor_Q_Digits)) := (Fr.Fz.no (fun h => hR h.2) ((Fr.fq a_Factor_P_Sign a_Factor_P_Digits a_Factor_Q_Digits) / (Fr.fq b_Factor_P_Sign b_Factor_P_Digits b_Factor_Q_Digits))).2.2.2
    rw [← e9]
    have e0 : (0 : Int) = Dm.opV (Un.UR [a_Dim0, a_Dim1, a_Dim2, a_Dim3, a_Dim4, a_Dim5] a_Factor_P_Sign a_Factor_P_Digits a_Factor_Q_Sign a_Factor_Q_Digits ∧ Un.UR [b_Dim0, b_Dim1, b_Dim2, b_Dim3, b_Dim4, b_Dim5] b_Factor_P_Sign b_Factor_P_Digits b_Factor_Q_Sign b_Factor_Q_Digits) [a_Dim0 - b_Dim0, a_Dim1 - b_Dim1, a_Dim2 - b_Dim2, a_Dim3 - b_Dim3, a_Dim4 - b_Dim4, a_Dim5 - b_Dim5] 0 := (Un.opV_no hP hR 0).symm
    have e1 : (0 : Int) = Dm.opV (Un.UR [a_Dim0, a_Dim1, a_Dim2, a_Dim3, a_Dim4, a_Dim5] a_Factor_P_Sign a_Factor_P_Digits a_Factor_Q_Sign a_Factor_Q_Digits ∧ Un.UR [b_Dim0, b_Dim1, b_Dim2, b_Dim3, b_Dim4, b_Dim5] b_Factor_P_Sign b_Factor_P_Digits b_Factor_Q_Sign b_Factor_Q_Digits) [a_Dim0 - b_Dim0, a_Dim1 - b_Dim1, a_Dim2 - b_Dim2, a_Dim3 - b_Dim3, a_Dim4 - b_Dim4, a_Dim5 - b_Dim5] 1 := (Un.opV_no hP hR 1).symm
    have e2 : (0 : Int) = Dm.opV (Un.UR [a_Dim0, a_Dim1, a_Dim2, a_Dim3, a_Dim4, a_Dim5] a_Factor_P_Sign a_Factor_P_Digits a_Factor_Q_Sign a_Factor_Q_Digits ∧ Un.UR [b_Dim0, b_Dim1, b_Dim2, b_Dim3, b_Dim4, b_Dim5] b_Factor_P_Sign b_Factor_P_Digits b_Factor_Q_Sign b_Factor_Q_Digits) [a_Dim0 - b_Dim0, a_Dim1 - b_Dim1, a_Dim2 - b_Dim2, a_Dim3 - b_Dim3, a_Dim4 - b_Dim4, a_Dim5 - b_Dim5] 2 := (Un.opV_no hP hR 2).symm
    have e3 : (0 : Int) = Dm.opV (Un.UR [a_Dim0, a_Dim1, a_Dim2, a_Dim3, a_Dim4, a_Dim5] a_Factor_P_Sign a_Factor_P_Digits a_Factor_Q_Sign a_Factor_Q_Digits ∧ Un.UR [b_Dim0, b_Dim1, b_Dim2, b_Dim3, b_Dim4, b_Dim5] b_Factor_P_Sign b_Factor_P_Digits b_Factor_Q_Sign b_Factor_Q_Digits) [a_Dim0 - b_Dim0, a_Dim1 - b_Dim1, a_Dim2 - b_Dim2, a_Dim3 - b_Dim3, a_Dim4 - b_Dim4, a_Dim5 - b_Dim5] 3 := (Un.opV_no hP hR 3).symm
    have e4 : (0 : Int) = Dm.opV (Un.UR [a_Dim0, a_Dim1, a_Dim2, a_Dim3, a_Dim4, a_Dim5] a_Factor_P_Sign a_Factor_P_Digits a_Factor_Q_Sign a_Factor_Q_Digits ∧ Un.UR [b_Dim0, b_Dim1, b_Dim2, b_Dim3, b_Dim4, b_Dim5] b_Factor_P_Sign b_Factor_P_Digits b_Factor_Q_Sign b_Factor_Q_Digits) [a_Dim0 - b_Dim0, a_Dim1 - b_Dim1, a_Dim2 - b_Dim2, a_Dim3 - b_Dim3, a_Dim4 - b_Dim4, a_Dim5 - b_Dim5] 4 := (Un.opV_no hP hR 4).symm
    have e5 : (0 : Int) = Dm.opV (Un.UR [a_Dim0, a_Dim1, a_Dim2, a_Dim3, a_Dim4, a_Dim5] a_Factor_P_Sign a_Factor_P_Digits a_Factor_Q_Sign a_Factor_Q_Digits ∧ Un.UR [b_Dim0, b_Dim1, b_Dim2, b_Dim3, b_Dim4, b_Dim5] b_Factor_P_Sign b_Factor_P_Digits b_Factor_Q_Sign b_Factor_Q_Digits) [a_Dim0 - b_Dim0, a_Dim1 - b_Dim1, a_Dim2 - b_Dim2, a_Dim3 - b_Dim3, a_Dim4 - b_Dim4, a_Dim5 - b_Dim5] 5 := (Un.opV_no hP hR 5).symm
    have e6 : (0 : Int) = Fr.rS ((Un.UR [a_Dim0, a_Dim1, a_Dim2, a_Dim3, a_Dim4, a_Dim5] a_Factor_P_Sign a_Factor_P_Digits a_Factor_Q_Sign a_Factor_Q_Digits ∧ Un.UR [b_Dim0, b_Dim1, b_Dim2, b_Dim3, b_Dim4, b_Dim5] b_Factor_P_Sign b_Factor_P_Digits b_Factor_Q_Sign b_Factor_Q_Digits) ∧ Dm.Rt [a_Dim0 - b_Dim0, a_Dim1 - b_Dim1, a_Dim2 - b_Dim2, a_Dim3 - b_Dim3, a_Dim4 - b_Dim4, a_Dim5 - b_Dim5]) ((Fr.fq a_Factor_P_Sign a_Factor_P_Digits a_Factor_Q_Digits) / (Fr.fq b_Factor_P_Sign b_Factor_P_Digits b_Factor_Q_Digits)) := (Fr.Fz.no (fun h => hR h.2) ((Fr.fq a_Factor_P_Sign a_Factor_P_Digits a_Factor_Q_Digits) / (Fr.fq b_Factor_P_Sign b_Factor_P_Digits b_Factor_Q_Digits))).1
    have e8 : (0 : Int) = Fr.rT ((Un.UR [a_Dim0, a_Dim1, a_Dim2, a_Dim3, a_Dim4, a_Dim5] a_Factor_P_Sign a_Factor_P_Digits a_Factor_Q_Sign a_Factor_Q_Digits ∧ Un.UR [b_Dim0, b_Dim1, b_Dim2, b_Dim3, b_Dim4, b_Dim5] b_Factor_P_Sign b_Factor_P_Digits b_Factor_Q_Sign b_Factor_Q_Digits) ∧ Dm.Rt [a_Dim0 - b_Dim0, a_Dim1 - b_Dim1, a_Dim2 - b_Dim2, a_Dim3 - b_Dim3, a_Dim4 - b_Dim4, a_Dim5 - b_Dim5]) := (Fr.Fz.no (fun h => hR h.2) ((Fr.fq a_Factor_P_Sign a_Factor_P_Digits a_Factor_Q_Digits) / (Fr.fq b_Factor_P_Sign b_Factor_P_Digits b_Factor_Q_Digits))).2.2.1
    have e10 : n7 = Dm.opE (Un.UR [a_Dim0, a_Dim1, a_Dim2, a_Dim3, a_Dim4, a_Dim5] a_Factor_P_Sign a_Factor_P_Digits a_Factor_Q_Sign a_Factor_Q_Digits ∧ Un.UR [b_Dim0, b_Dim1, b_Dim2, b_Dim3, b_Dim4, b_Dim5] b_Factor_P_Sign b_Factor_P_Digits b_Factor_Q_Sign b_Factor_Q_Digits) [a_Dim0 - b_Dim0, a_Dim1 - b_Dim1, a_Dim2 - b_Dim2, a_Dim3 - b_Dim3, a_Dim4 - b_Dim4, a_Dim5 - b_Dim5] := by rw [hn7]; exact Un.opE_pq hP2 hP _
    exact V.ret [2, 0] [{}, {}] [fun _ => {}, fun _ => {}] [] [4, 5] [] (.tuple #[.agg #[iv 0, iv 0, iv 0, iv 0, iv 0, iv 0, iv 0, SV.v ({}), iv 0, SV.v ({})], iv n7]) (fun _ _ => by kernel_rfl) (fun _ _ => (Eq.trans (by kernel_rfl) (cong9 (fun (x0 : Int) (x1 : Int) (x2 : Int) (x3 : Int) (x4 : Int) (x5 : Int) (x6 : Int) (x8 : Int) (x10 : Int) => (.tuple #[.agg #[iv x0, iv x1, iv x2, iv x3, iv x4, iv x5, iv x6, SV.v ({}), iv x8, SV.v ({})], iv x10] : Value)) e0 e1 e2 e3 e4 e5 e6 e8 e10)).trans (by kernel_rfl)) (fun _ _ => trivial)
  have hR : Dm.Rt [a_Dim0 - b_Dim0, a_Dim1 - b_Dim1, a_Dim2 - b_Dim2, a_Dim3 - b_Dim3, a_Dim4 - b_Dim4, a_Dim5 - b_Dim5] := Un.opE_eq hP2 (by rw [← hn7]; first | exact q4 | exact Decidable.not_not.1 q4)
  refine nm (Fr.rS ((Fr.FrB a_Factor_P_Sign a_Factor_P_Digits a_Factor_Q_Sign a_Factor_Q_Digits ∧ Fr.FrB b_Factor_P_Sign b_Factor_P_Digits b_Factor_Q_Sign b_Factor_Q_Digits) ∧ b_Factor_P_Sign ≠ 0) ((Fr.fq a_Factor_P_Sign a_Factor_P_Digits a_Factor_Q_Digits) / (Fr.fq b_Factor_P_Sign b_Factor_P_Digits b_Factor_Q_Digits)) : Int) fun n8 hn8 => ?_
  refine nm (Fr.rD ((Fr.FrB a_Factor_P_Sign a_Factor_P_Digits a_Factor_Q_Sign a_Factor_Q_Digits ∧ Fr.FrB b_Factor_P_Sign b_Factor_P_Digits b_Factor_Q_Sign b_Factor_Q_Digits) ∧ b_Factor_P_Sign ≠ 0) ((Fr.fq a_Factor_P_Sign a_Factor_P_Digits a_Factor_Q_Digits) / (Fr.fq b_Factor_P_Sign b_Factor_P_Digits b_Factor_Q_Digits)) : List Int) fun l1 hl1 => ?_
  have hl1n := congrArg List.length hl1
  refine nm (Fr.rT ((Fr.FrB a_Factor_P_Sign a_Factor_P_Digits a_Factor_Q_Sign a_Factor_Q_Digits ∧ Fr.FrB b_Factor_P_Sign b_Factor_P_Digits b_Factor_Q_Sign b_Factor_Q_Digits) ∧ b_Factor_P_Sign ≠ 0) : Int) fun n9 hn9 => ?_
  refine nm (Fr.rE ((Fr.FrB a_Factor_P_Sign a_Factor_P_Digits a_Factor_Q_Sign a_Factor_Q_Digits ∧ Fr.FrB b_Factor_P_Sign b_Factor_P_Digits b_Factor_Q_Sign b_Factor_Q_Digits) ∧ b_Factor_P_Sign ≠ 0) ((Fr.fq a_Factor_P_Sign a_Factor_P_Digits a_Factor_Q_Digits) / (Fr.fq b_Factor_P_Sign b_Factor_P_Digits b_Factor_Q_Digits)) : List Int) fun l2 hl2 => ?_
  have hl2n := congrArg List.length hl2
  refine nm (if ¬ (Fr.FrB a_Factor_P_Sign a_Factor_P_Digits a_Factor_Q_Sign a_Factor_Q_Digits ∧ Fr.FrB b_Factor_P_Sign b_Factor_P_Digits b_Factor_Q_Sign b_Factor_Q_Digits) then (1 : Int) else if b_Factor_P_Sign = 0 then 15 else 0 : Int) fun n10 hn10 => ?_
  have zf := Fr.Fz.of ⟨⟨hP.1.2.1, hP.2.2.1⟩, hP.2.ps⟩ hn8 hl1 hn9 hl2
  refine V.r [.k (pp ((G1 0).b) 6),.ld 0 6 true (fun _ => Dat.cells (DFrac.mk (DBig.mk a_Factor_P_Sign ⟨a_Factor_P_Digits, a_Factor_P_Digitss⟩) (DBig.mk a_Factor_Q_Sign ⟨a_Factor_Q_Digits, a_Factor_Q_Digitss⟩))),.k (pp ((G1 1).b) 6),.ld 1 6 true (fun _ => Dat.cells (DFrac.mk (DBig.mk b_Factor_P_Sign ⟨b_Factor_P_Digits, b_Factor_P_Digitss⟩) (DBig.mk b_Factor_Q_Sign ⟨b_Factor_Q_Digits, b_Factor_Q_Digitss⟩))),.ct g0 4 40 false [] [] [(kf false (.f 0) a_Factor_P_Digits (fun _ => a_Factor_P_Digitss)).a, (kf false (.f 1) a_Factor_Q_Digits (fun _ => a_Factor_Q_Digitss)).a, (kf false (.f 2) b_Factor_P_Digits (fun _ => b_Factor_P_Digitss)).a, (kf false (.f 3) b_Factor_Q_Digits (fun _ => b_Factor_Q_Digitss)).a] (fun _ G => fdiv_ctv a_Factor_P_Sign a_Factor_P_Digits a_Factor_P_Digitss a_Factor_Q_Sign a_Factor_Q_Digits a_Factor_Q_Digitss b_Factor_P_Sign b_Factor_P_Digits b_Factor_P_Digitss b_Factor_Q_Sign b_Factor_Q_Digits b_Factor_Q_Digitss (by omega) (by omega) (by omega) (by omega) n8 hn8 l1 hl1 n9 hn9 l2 hl2 n10 hn10),.v fun G => .tuple #[ag (DFrac.mk (DBig.mk n8 ⟨l1, (G 4).ss 0⟩) (DBig.mk n9 ⟨l2, (G 4).ss 1⟩)), iv n10],.v fun G => ag (DFrac.mk (DBig.mk n8 ⟨l1, (G 4).ss 0⟩) (DBig.mk n9 ⟨l2, (G 4).ss 1⟩)),.k (iv n10),.nb 8 4 (fun b => pp b 0) 30 (fun _ => ca (DFrac.mk (DBig.mk 0 ⟨[], {}⟩) (DBig.mk 0 ⟨[], {}⟩))),.st 4 (fun G => .blk ((G 8).b) (ca (DFrac.mk (DBig.mk n8 ⟨l1, (G 4).ss 0⟩) (DBig.mk n9 ⟨l2, (G 4).ss 1⟩))) 30),.k (iv n10)] fun _ _ G7 kw7 => ?_
  intro S_ s_
  obtain ⟨⟨kl5, -⟩, ⟨kl6, -⟩, -⟩ : Lq l1 (((G7 4).ss 0).v) ∧ Lq l2 (((G7 4).ss 1).v) ∧ True := kn kw7 (by kernel_rfl)
  clear kw7
  refine V.g [.ld 3 0 true (fun _ => [iv n1, iv n2, iv n3, iv n4, iv n5, iv n6]),.ld 4 0 true (fun _ => Dat.cells (DFrac.mk (DBig.mk n8 ⟨l1, (G7 4).ss 0⟩) (DBig.mk n9 ⟨l2, (G7 4).ss 1⟩))),.k (.agg #[iv n1, iv n2, iv n3, iv n4, iv n5, iv n6, iv n8, ((G7 4).ss 0).v, iv n9, ((G7 4).ss 1).v]),.st 2 (fun _ => .blk ((G1 2).b) #[iv n1, iv n2, iv n3, iv n4, iv n5, iv n6, iv n8, ((G7 4).ss 0).v, iv n9, ((G7 4).ss 1).v] 32),.k (iv 0)] fun _ _ G8 => ?_
  intro S_ s_
  have e7 : l1 = Fr.rD ((Un.UR [a_Dim0, a_Dim1, a_Dim2, a_Dim3, a_Dim4, a_Dim5] a_Factor_P_Sign a_Factor_P_Digits a_Factor_Q_Sign a_Factor_Q_Digits ∧ Un.UR [b_Dim0, b_Dim1, b_Dim2, b_Dim3, b_Dim4, b_Dim5] b_Factor_P_Sign b_Factor_P_Digits b_Factor_Q_Sign b_Factor_Q_Digits) ∧ Dm.Rt [a_Dim0 - b_Dim0, a_Dim1 - b_Dim1, a_Dim2 - b_Dim2, a_Dim3 - b_Dim3, a_Dim4 - b_Dim4, a_Dim5 - b_Dim5]) ((Fr.fq a_Factor_P_Sign a_Factor_P_Digits a_Factor_Q_Digits) / (Fr.fq b_Factor_P_Sign b_Factor_P_Digits b_Factor_Q_Digits)) := (Fr.Fz.ret zf ⟨hP, hR⟩ (rfl)).2.1
  subst e7
  have e9 : l2 = Fr.rE ((Un.UR [a_Dim0, a_Dim1, a_Dim2, a_Dim3, a_Dim4, a_Dim5] a_Factor_P_Sign a_Factor_P_Digits a_Factor_Q_Sign a_Factor_Q_Digits ∧ Un.UR [b_Dim0, b_Dim1, b_Dim2, b_Dim3, b_Dim4, b_Dim5] b_Factor_P_Sign b_Factor_P_Digits b_Factor_Q_Sign b_Factor_Q_Digits) ∧ Dm.Rt [a_Dim0 - b_Dim0, a_Dim1 - b_Dim1, a_Dim2 - b_Dim2, a_Dim3 - b_Dim3, a_Dim4 - b_Dim4, a_Dim5 - b_Dim5]) ((Fr.fq a_Factor_P_Sign a_Factor_P_Digits a_Factor_Q_Digits) / (Fr.fq b_Factor_P_Sign b_Factor_P_Digits b_Factor_Q_Digits)) := (Fr.Fz.ret zf ⟨hP, hR⟩ (rfl)).2.2.2
  subst e9
  have e0 : n1 = Dm.opV (Un.UR [a_Dim0, a_Dim1, a_Dim2, a_Dim3, a_Dim4, a_Dim5] a_Factor_P_Sign a_Factor_P_Digits a_Factor_Q_Sign a_Factor_Q_Digits ∧ Un.UR [b_Dim0, b_Dim1, b_Dim2, b_Dim3, b_Dim4, b_Dim5] b_Factor_P_Sign b_Factor_P_Digits b_Factor_Q_Sign b_Factor_Q_Digits) [a_Dim0 - b_Dim0, a_Dim1 - b_Dim1, a_Dim2 - b_Dim2, a_Dim3 - b_Dim3, a_Dim4 - b_Dim4, a_Dim5 - b_Dim5] 0 := by
    rw [hn1]
    exact Un.opV_pq hP2 hP _ 0
  have e1 : n2 = Dm.opV (Un.UR [a_Dim0, a_Dim1, a_Dim2, a_Dim3, a_Dim4, a_Dim5] a_Factor_P_Sign a_Factor_P_Digits a_Factor_Q_Sign a_Factor_Q_Digits ∧ Un.UR [b_Dim0, b_Dim1, b_Dim2, b_Dim3, b_Dim4, b_Dim5] b_Factor_P_Sign b_Factor_P_Digits b_Factor_Q_Sign b_Factor_Q_Digits) [a_Dim0 - b_Dim0, a_Dim1 - b_Dim1, a_Dim2 - b_Dim2, a_Dim3 - b_Dim3, a_Dim4 - b_Dim4, a_Dim5 - b_Dim5] 1 := by
    rw [hn2]
    exact Un.opV_pq hP2 hP _ 1
  have e2 : n3 = Dm.opV (Un.UR [a_Dim0, a_Dim1, a_Dim2, a_Dim3, a_Dim4, a_Dim5] a_Factor_P_Sign a_Factor_P_Digits a_Factor_Q_Sign a_Factor_Q_Digits ∧ Un.UR [b_Dim0, b_Dim1, b_Dim2, b_Dim3, b_Dim4, b_Dim5] b_Factor_P_Sign b_Factor_P_Digits b_Factor_Q_Sign b_Factor_Q_Digits) [a_Dim0 - b_Dim0, a_Dim1 - b_Dim1, a_Dim2 - b_Dim2, a_Dim3 - b_Dim3, a_Dim4 - b_Dim4, a_Dim5 - b_Dim5] 2 := by
    rw [hn3]
    exact Un.opV_pq hP2 hP _ 2
  have e3 : n4 = Dm.opV (Un.UR [a_Dim0, a_Dim1, a_Dim2, a_Dim3, a_Dim4, a_Dim5] a_Factor_P_Sign a_Factor_P_Digits a_Factor_Q_Sign a_Factor_Q_Digits ∧ Un.UR [b_Dim0, b_Dim1, b_Dim2, b_Dim3, b_Dim4, b_Dim5] b_Factor_P_Sign b_Factor_P_Digits b_Factor_Q_Sign b_Factor_Q_Digits) [a_Dim0 - b_Dim0, a_Dim1 - b_Dim1, a_Dim2 - b_Dim2, a_Dim3 - b_Dim3, a_Dim4 - b_Dim4, a_Dim5 - b_Dim5] 3 := by
    rw [hn4]
    exact Un.opV_pq hP2 hP _ 3
  have e4 : n5 = Dm.opV (Un.UR [a_Dim0, a_Dim1, a_Dim2, a_Dim3, a_Dim4, a_Dim5] a_Factor_P_Sign a_Factor_P_Digits a_Factor_Q_Sign a_Factor_Q_Digits ∧ Un.UR [b_Dim0, b_Dim1, b_Dim2, b_Dim3, b_Dim4, b_Dim5] b_Factor_P_Sign b_Factor_P_Digits b_Factor_Q_Sign b_Factor_Q_Digits) [a_Dim0 - b_Dim0, a_Dim1 - b_Dim1, a_Dim2 - b_Dim2, a_Dim3 - b_Dim3, a_Dim4 - b_Dim4, a_Dim5 - b_Dim5] 4 := by
    rw [hn5]
    exact Un.opV_pq hP2 hP _ 4
  have e5 : n6 = Dm.opV (Un.UR [a_Dim0, a_Dim1, a_Dim2, a_Dim3, a_Dim4, a_Dim5] a_Factor_P_Sign a_Factor_P_Digits a_Factor_Q_Sign a_Factor_Q_Digits ∧ Un.UR [b_Dim0, b_Dim1, b_Dim2, b_Dim3, b_Dim4, b_Dim5] b_Factor_P_Sign b_Factor_P_Digits b_Factor_Q_Sign b_Factor_Q_Digits) [a_Dim0 - b_Dim0, a_Dim1 - b_Dim1, a_Dim2 - b_Dim2, a_Dim3 - b_Dim3, a_Dim4 - b_Dim4, a_Dim5 - b_Dim5] 5 := by
    rw [hn6]
    exact Un.opV_pq hP2 hP _ 5
  have e6 : n8 = Fr.rS ((Un.UR [a_Dim0, a_Dim1, a_Dim2, a_Dim3, a_Dim4, a_Dim5] a_Factor_P_Sign a_Factor_P_Digits a_Factor_Q_Sign a_Factor_Q_Digits ∧ Un.UR [b_Dim0, b_Dim1, b_Dim2, b_Dim3, b_Dim4, b_Dim5] b_Factor_P_Sign b_Factor_P_Digits b_Factor_Q_Sign b_Factor_Q_Digits) ∧ Dm.Rt [a_Dim0 - b_Dim0, a_Dim1 - b_Dim1, a_Dim2 - b_Dim2, a_Dim3 - b_Dim3, a_Dim4 - b_Dim4, a_Dim5 - b_Dim5]) ((Fr.fq a_Factor_P_Sign a_Factor_P_Digits a_Factor_Q_Digits) / (Fr.fq b_Factor_P_Sign b_Factor_P_Digits b_Factor_Q_Digits)) := (Fr.Fz.ret zf ⟨hP, hR⟩ (rfl)).1
  have e8 : n9 = Fr.rT ((Un.UR [a_Dim0, a_Dim1, a_Dim2, a_Dim3, a_Dim4, a_Dim5] a_Factor_P_Sign a_Factor_P_Digits a_Factor_Q_Sign a_Factor_Q_Digits ∧ Un.UR [b_Dim0, b_Dim1, b_Dim2, b_Dim3, b_Dim4, b_Dim5] b_Factor_P_Sign b_Factor_P_Digits b_Factor_Q_Sign b_Factor_Q_Digits) ∧ Dm.Rt [a_Dim0 - b_Dim0, a_Dim1 - b_Dim1, a_Dim2 - b_Dim2, a_Dim3 - b_Dim3, a_Dim4 - b_Dim4, a_Dim5 - b_Dim5]) := (Fr.Fz.ret zf ⟨hP, hR⟩ (rfl)).2.2.1
  have e10 : (0 : Int) = Dm.opE (Un.UR [a_Dim0, a_Dim1, a_Dim2, a_Dim3, a_Dim4, a_Dim5] a_Factor_P_Sign a_Factor_P_Digits a_Factor_Q_Sign a_Factor_Q_Digits ∧ Un.UR [b_Dim0, b_Dim1, b_Dim2, b_Dim3, b_Dim4, b_Dim5] b_Factor_P_Sign b_Factor_P_Digits b_Factor_Q_Sign b_Factor_Q_Digits) [a_Dim0 - b_Dim0, a_Dim1 - b_Dim1, a_Dim2 - b_Dim2, a_Dim3 - b_Dim3, a_Dim4 - b_Dim4, a_Dim5 - b_Dim5] := by rw [Dm.opE_y hP, Dm.mkE_y hR]
  exact V.ret [2, 0] [(G7 4).ss 0, (G7 4).ss 1] [fun _ => {}, fun _ => {}] [] [4, 5] [] (.tuple #[.agg #[iv n1, iv n2, iv n3, iv n4, iv n5, iv n6, iv n8, ((G7 4).ss 0).v, iv n9, ((G7 4).ss 1).v], iv 0]) (fun _ _ => by kernel_rfl) (fun _ _ => (Eq.trans (by kernel_rfl) (cong9 (fun (x0 : Int) (x1 : Int) (x2 : Int) (x3 : Int) (x4 : Int) (x5 : Int) (x6 : Int) (x8 : Int) (x10 : Int) => (.tuple #[.agg #[iv x0, iv x1, iv x2, iv x3, iv x4, iv x5, iv x6, ((G7 4).ss 0).v, iv x8, ((G7 4).ss 1).v], iv x10] : Value)) e0 e1 e2 e3 e4 e5 e6 e8 e10)).trans (by kernel_rfl)) (fun _ _ => trivial)
theorem udiv_ctv (a_Dim0 a_Dim1 a_Dim2 a_Dim3 a_Dim4 a_Dim5 a_Factor_P_Sign : Int) (a_Factor_P_Digits : List Int) (a_Factor_P_Digitss : SV) (a_Factor_Q_Sign : Int) (a_Factor_Q_Digits : List Int) (a_Factor_Q_Digitss : SV) (b_Dim0 b_Dim1 b_Dim2 b_Dim3 b_Dim4 b_Dim5 b_Factor_P_Sign : Int) (b_Factor_P_Digits : List Int) (b_Factor_P_Digitss : SV) (b_Factor_Q_Sign : Int) (b_Factor_Q_Digits : List Int) (b_Factor_Q_Digitss : SV) (haP : a_Factor_P_Digits.length ≤ 17179869184) (haQ : a_Factor_Q_Digits.length ≤ 17179869184) (hbP : b_Factor_P_Digits.length ≤ 17179869184) (hbQ : b_Factor_Q_Digits.length ≤ 17179869184) (rv0 : Int) (erv0 : rv0 = Dm.opV (Un.UR [a_Dim0, a_Dim1, a_Dim2, a_Dim3, a_Dim4, a_Dim5] a_Factor_P_Sign a_Factor_P_Digits a_Factor_Q_Sign a_Factor_Q_Digits ∧ Un.UR [b_Dim0, b_Dim1, b_Dim2, b_Dim3, b_Dim4, b_Dim5] b_Factor_P_Sign b_Factor_P_Digits b_Factor_Q_Sign b_Factor_Q_Digits) [a_Dim0 - b_Dim0, a_Dim1 - b_Dim1, a_Dim2 - b_Dim2, a_Dim3 - b_Dim3, a_Dim4 - b_Dim4, a_Dim5 - b_Dim5] 0) (rv1 : Int) (erv1 : rv1 = Dm.opV (Un.UR [a_Dim0, a_Dim1, a_Dim2, a_Dim3, a_Dim4, a_Dim5] a_Factor_P_Sign a_Factor_P_Digits a_Factor_Q_Sign a_Factor_Q_Digits ∧ Un.UR [b_Dim0, b_Dim1, b_Dim2, b_Dim3, b_Dim4, b_Dim5] b_Factor_P_Sign b_Factor_P_Digits b_Factor_Q_Sign b_Factor_Q_Digits) [a_Dim0 - b_Dim0, a_Dim1 - b_Dim1, a_Dim2 - b_Dim2, a_Dim3 - b_Dim3, a_Dim4 - b_Dim4, a_Dim5 - b_Dim5] 1) (rv2 : Int) (erv2 : rv2 = Dm.opV (Un.UR [a_Dim0, a_Dim1, a_Dim2, a_Dim3, a_Dim4, a_Dim5] a_Factor_P_Sign a_Factor_P_Digits a_Factor_Q_Sign a_Factor_Q_Digits ∧ Un.UR [b_Dim0, b_Dim1, b_Dim2, b_Dim3, b_Dim4, b_Dim5] b_Factor_P_Sign b_Factor_P_Digits b_Factor_Q_Sign b_Factor_Q_Digits) [a_Dim0 - b_Dim0, a_Dim1 - b_Dim1, a_Dim2 - b_Dim2, a_Dim3 - b_Dim3, a_Dim4 - b_Dim4, a_Dim5 - b_Dim5] 2) (rv3 : Int) (erv3 : rv3 = Dm.opV (Un.UR [a_Dim0, a_Dim1, a_Dim2, a_Dim3, a_Dim4, a_Dim5] a_Factor_P_Sign a_Factor_P_Digits a_Factor_Q_Sign a_Factor_Q_Digits ∧ Un.UR [b_Dim0, b_Dim1, b_Dim2, b_Dim3, b_Dim4, b_Dim5] b_Factor_P_Sign b_Factor_P_Digits b_Factor_Q_Sign b_Factor_Q_Digits) [a_Dim0 - b_Dim0, a_Dim1 - b_Dim1, a_Dim2 - b_Dim2, a_Dim3 - b_Dim3, a_Dim4 - b_Dim4, a_Dim5 - b_Dim5] 3) (rv4 : Int) (erv4 : rv4 = Dm.opV (Un.UR [a_Dim0, a_Dim1, a_Dim2, a_Dim3, a_Dim4, a_Dim5] a_Factor_P_Sign a_Factor_P_Digits a_Factor_Q_Sign a_Factor_Q_Digits ∧ Un.UR [b_Dim0, b_Dim1, b_Dim2, b_Dim3, b_Dim4, b_Dim5] b_Factor_P_Sign b_Factor_P_Digits b_Factor_Q_Sign b_Factor_Q_Digits) [a_Dim0 - b_Dim0, a_Dim1 - b_Dim1, a_Dim2 - b_Dim2, a_Dim3 - b_Dim3, a_Dim4 - b_Dim4, a_Dim5 - b_Dim5] 4) (rv5 : Int) (erv5 : rv5 = Dm.opV (Un.UR [a_Dim0, a_Dim1, a_Dim2, a_Dim3, a_Dim4, a_Dim5] a_Factor_P_Sign a_Factor_P_Digits a_Factor_Q_Sign a_Factor_Q_Digits ∧ Un.UR [b_Dim0, b_Dim1, b_Dim2, b_Dim3, b_Dim4, b_Dim5] b_Factor_P_Sign b_Factor_P_Digits b_Factor_Q_Sign b_Factor_Q_Digits) [a_Dim0 - b_Dim0, a_Dim1 - b_Dim1, a_Dim2 - b_Dim2, a_Dim3 - b_Dim3, a_Dim4 - b_Dim4, a_Dim5 - b_Dim5] 5) (rv6 : Int) (erv6 : rv6 = Fr.rS ((Un.UR [a_Dim0, a_Dim1, a_Dim2, a_Dim3, a_Dim4, a_Dim5] a_Factor_P_Sign a_Factor_P_Digits a_Factor_Q_Sign a_Factor_Q_Digits ∧ Un.UR [b_Dim0, b_Dim1, b_Dim2, b_Dim3, b_Dim4, b_Dim5] b_Factor_P_Sign b_Factor_P_Digits b_Factor_Q_Sign b_Factor_Q_Digits) ∧ Dm.Rt [a_Dim0 - b_Dim0, a_Dim1 - b_Dim1, a_Dim2 - b_Dim2, a_Dim3 - b_Dim3, a_Dim4 - b_Dim4, a_Dim5 - b_Dim5]) ((Fr.fq a_Factor_P_Sign a_Factor_P_Digits a_Factor_Q_Digits) / (Fr.fq b_Factor_P_Sign b_Factor_P_Digits b_Factor_Q_Digits))) (rv7 : List Int) (erv7 : rv7 = Fr.rD ((Un.UR [a_Dim0, a_Dim1, a_Dim2, a_Dim3, a_Dim4, a_Dim5] a_Factor_P_Sign a_Factor_P_Digits a_Factor_Q_Sign a_Factor_Q_Digits ∧ Un.UR [b_Dim0, b_Dim1, b_Dim2, b_Dim3, b_Dim4, b_Dim5] b_Factor_P_Sign b_Factor_P_Digits b_Factor_Q_Sign b_Factor_Q_Digits) ∧ Dm.Rt [a_Dim0 - b_Dim0, a_Dim1 - b_Dim1, a_Dim2 - b_Dim2, a_Dim3 - b_Dim3, a_Dim4 - b_Dim4, a_Dim5 - b_Dim5]) ((Fr.fq a_Factor_P_Sign a_Factor_P_Digits a_Factor_Q_Digits) / (Fr.fq b_Factor_P_Sign b_Factor_P_Digits b_Factor_Q_Digits))) (rv8 : Int) (erv8 : rv8 = Fr.rT ((Un.UR [a_Dim0, a_Dim1, a_Dim2, a_Dim3, a_Dim4, a_Dim5] a_Factor_P_Sign a_Factor_P_Digits a_Factor_Q_Sign a_Factor_Q_Digits ∧ Un.UR [b_Dim0, b_Dim1, b_Dim2, b_Dim3, b_Dim4, b_Dim5] b_Factor_P_Sign b_Factor_P_Digits b_Factor_Q_Sign b_Factor_Q_Digits) ∧ Dm.Rt [a_Dim0 - b_Dim0, a_Dim1 - b_Dim1, a_Dim2 - b_Dim2, a_Dim3 - b_Dim3, a_Dim4 - b_Dim4, a_Dim5 - b_Dim5])) (rv9 : List Int) (erv9 : rv9 = Fr.rE ((Un.UR [a_Dim0, a_Dim1, a_Dim2, a_Dim3, a_Dim4, a_Dim5] a_Factor_P_Sign a_Factor_P_Digits a_Factor_Q_Sign a_Factor_Q_Digits ∧ Un.UR [b_Dim0, b_Dim1, b_Dim2, b_Dim3, b_Dim4, b_Dim5] b_Factor_P_Sign b_Factor_P_Digits b_Factor_Q_Sign b_Factor_Q_Digits) ∧ Dm.Rt [a_Dim0 - b_Dim0, a_Dim1 - b_Dim1, a_Dim2 - b_Dim2, a_Dim3 - b_Dim3, a_Dim4 - b_Dim4, a_Dim5 - b_Dim5]) ((Fr.fq a_Factor_P_Sign a_Factor_P_Digits a_Factor_Q_Digits) / (Fr.fq b_Factor_P_Sign b_Factor_P_Digits b_Factor_Q_Digits))) (rv10 : Int) (erv10 : rv10 = Dm.opE (Un.UR [a_Dim0, a_Dim1, a_Dim2, a_Dim3, a_Dim4, a_Dim5] a_Factor_P_Sign a_Factor_P_Digits a_Factor_Q_Sign a_Factor_Q_Digits ∧ Un.UR [b_Dim0, b_Dim1, b_Dim2, b_Dim3, b_Dim4, b_Dim5] b_Factor_P_Sign b_Factor_P_Digits b_Factor_Q_Sign b_Factor_Q_Digits) [a_Dim0 - b_Dim0, a_Dim1 - b_Dim1, a_Dim2 - b_Dim2, a_Dim3 - b_Dim3, a_Dim4 - b_Dim4, a_Dim5 - b_Dim5]) :
    Ct Try.prog 38 #[.agg #[iv a_Dim0, iv a_Dim1, iv a_Dim2, iv a_Dim3, iv a_Dim4, iv a_Dim5, iv a_Factor_P_Sign, a_Factor_P_Digitss.v, iv a_Factor_Q_Sign, a_Factor_Q_Digitss.v], .agg #[iv b_Dim0, iv b_Dim1, iv b_Dim2, iv b_Dim3, iv b_Dim4, iv b_Dim5, iv b_Factor_P_Sign, b_Factor_P_Digitss.v, iv b_Factor_Q_Sign, b_Factor_Q_Digitss.v]] [fs true a_Factor_P_Digits a_Factor_P_Digitss, fs true a_Factor_Q_Digits a_Factor_Q_Digitss, fs true b_Factor_P_Digits b_Factor_P_Digitss, fs true b_Factor_Q_Digits b_Factor_Q_Digitss] [] (fun g => .tuple #[.agg #[iv rv0, iv rv1, iv rv2, iv rv3, iv rv4, iv rv5, iv rv6, ((g.ss 0)).v, iv rv8, ((g.ss 1)).v], iv rv10]) (fun g => [fs true rv7 (g.ss 0), fs true rv9 (g.ss 1)]) (fun g => []) (fun g => []) := by
  subst erv0 erv1 erv2 erv3 erv4 erv5 erv6 erv7 erv8 erv9 erv10; exact udiv_ct a_Dim0 a_Dim1 a_Dim2 a_Dim3 a_Dim4 a_Dim5 a_Factor_P_Sign a_Factor_P_Digits a_Factor_P_Digitss a_Factor_Q_Sign a_Factor_Q_Digits a_Factor_Q_Digitss b_Dim0 b_Dim1 b_Dim2 b_Dim3 b_Dim4 b_Dim5 b_Factor_P_Sign b_Factor_P_Digits b_Factor_P_Digitss b_Factor_Q_Sign b_Factor_Q_Digits b_Factor_Q_Digitss haP haQ hbP hbQ
end Kb
