/- Texts for the claim, put together: the calculus of regions, its rules, and contracts of the functions that the law reaches. -/
import Derived.Test.YtpnbgdgjgndicaaZvwf
import Derived.ChangeSame
import Derived.ChangeArms
import Derived.WideKeyArgs
import Derived.Carry
import Derived.OpenShut
import Derived.Test.YtpnbgdgjgndicaaChecked
set_option linter.unusedVariables false
set_option linter.unusedSectionVars false
set_option linter.unusedSimpArgs false
namespace Kb
open Go
namespace Tb
open Fr Bg
def ex : List DRow := [DRow.mk 0 10, DRow.mk 10 30, DRow.mk 20 20]
def et : ByteArray := ⟨#[116]⟩
def ek : ByteArray := ⟨#[107, 103]⟩
theorem exR : RtT et ek ex := by decide +kernel
def looksP (k w : Int) : Prop := 0 < aft ex (k : Rat) ∧ lkR ek ex (k : Rat) = (w : Rat)
def linesP (k w : Int) : Prop := lin ek ex (k : Rat) = some (w : Rat)
instance (k w : Int) : Decidable (looksP k w) := by unfold looksP; infer_instance
instance (k w : Int) : Decidable (linesP k w) := by unfold linesP; infer_instance
theorem looks1 : looksP 0 10000 := by decide +kernel
theorem looks2 : looksP 9 10000 := by decide +kernel
theorem looks3 : looksP 10 30000 := by decide +kernel
theorem looks4 : looksP 1000 20000 := by decide +kernel
theorem lines1 : linesP 5 20000 := by decide +kernel
theorem lines2 : linesP 15 25000 := by decide +kernel
theorem lines3 : linesP 20 20000 := by decide +kernel
theorem no1 : aft ex ((-1 : Int) : Rat) = 0 := by decide +kernel
theorem no2 : lin ek ex ((21 : Int) : Rat) = none := by decide +kernel
theorem sm1 : ((sumR 0 10 ex : Int) : Rat) * uf ek = ((40000 : Int) : Rat) := by decide +kernel
theorem sm2 : ((sumR 1 9 ex : Int) : Rat) * uf ek = ((0 : Int) : Rat) := by decide +kernel
theorem bad : ¬ RtT et ⟨#[63]⟩ ([] : List DRow) := by decide +kernel
end Tb

open Go Go.Proofs
set_option maxRecDepth 10000 in
theorem example_ct :
    Ct Try.prog 63 #[] [] [] (fun g => ag (DTable.mk Tb.et Tb.ek ⟨Tb.ex, (g.ss 0)⟩)) (fun g => [fs true Tb.ex (g.ss 0)]) (fun g => []) (fun g => []) := by
  refine V.fn mo Try.func63 6 1 (by kernel_rfl) fun w H ε k0 => ?_
  clear k0
  refine V.g [.nb 0 0 (fun b => pp b 0) 55 (fun _ => ca (DTable.mk ByteArray.empty ByteArray.empty ⟨[], {}⟩))] fun _ _ G1 => ?_
  intro S_ s_
  refine V.r [.k (ag (DRow.mk 0 10)),.k (ag (DRow.mk 10 30)),.k (ag (DRow.mk 20 20)),.nr 3 true 60 ([DRow.mk 0 10, DRow.mk 10 30, DRow.mk 20 20] : List DRow) [] (fun _ _ _ _ _ => trivial) (fun _ => #[iv 0, iv 10, iv 10, iv 30, iv 20, iv 20]),.v fun G => ag (DTable.mk ⟨#[116]⟩ ⟨#[107, 103]⟩ ⟨([DRow.mk 0 10, DRow.mk 10 30, DRow.mk 20 20] : List DRow), ⟨atB (G 3).b, 3, 3⟩⟩),.st 0 (fun G => .blk ((G1 0).b) (ca (DTable.mk ⟨#[116]⟩ ⟨#[107, 103]⟩ ⟨([DRow.mk 0 10, DRow.mk 10 30, DRow.mk 20 20] : List DRow), ⟨atB (G 3).b, 3, 3⟩⟩)) 55)] fun _ _ G2 kw2 => ?_
  intro S_ s_
  obtain ⟨⟨kl1, -⟩, -⟩ : Lq ([DRow.mk 0 10, DRow.mk 10 30, DRow.mk 20 20] : List DRow) (SV.v ⟨atB (G2 3).b, 3, 3⟩) ∧ True := kn kw2 (by kernel_rfl)
  clear kw2
  have e2 : ([DRow.mk 0 10, DRow.mk 10 30, DRow.mk 20 20] : List DRow) = Tb.ex := by rfl
  rw [← e2]
  have e0 : ⟨#[116]⟩ = Tb.et := by rfl
  have e1 : ⟨#[107, 103]⟩ = Tb.ek := by rfl
  exact V.ret [0] [⟨atB (G2 3).b, 3, 3⟩] [fun _ => {}] [] [0] [] (ag (DTable.mk ⟨#[116]⟩ ⟨#[107, 103]⟩ ⟨([DRow.mk 0 10, DRow.mk 10 30, DRow.mk 20 20] : List DRow), ⟨atB (G2 3).b, 3, 3⟩⟩)) (fun _ _ => by kernel_rfl) (fun _ _ => (Eq.trans (by kernel_rfl) (cong2 (fun (x0 : ByteArray) (x1 : ByteArray) => (.agg #[tv x0, tv x1, SV.v ⟨atB (G2 3).b, 3, 3⟩] : Value)) e0 e1)).trans (by kernel_rfl)) (fun _ _ => trivial)
set_option maxRecDepth 10000 in
theorem looks_ct (key want : Int) (hk : -9223372036854775808 ≤ key ∧ key ≤ 9223372036854775807) (hw : -9223372036854775808 ≤ want ∧ want ≤ 9223372036854775807) :
    Cp Try.prog 64 #[iv key, iv want] [] (bv (decide (Tb.looksP key want))) := by
  refine V.fn mo Try.func64 22 1 (by kernel_rfl) fun w H ε k0 => ?_
  clear k0
  refine V.g [.kb false] fun _ _ G1 => ?_
  intro S_ s_
  refine nm (Bg.sgn key : Int) fun n1 hn1 => ?_
  refine nm (Bg.dig key.natAbs : List Int) fun l1 hl1 => ?_
  have hl1n := congrArg List.length hl1
  refine nm (Bg.dig 1 : List Int) fun l2 hl2 => ?_
  have hl2n := congrArg List.length hl2
  refine nm (Fr.rS ((Tb.RtT Tb.et Tb.ek Tb.ex ∧ Fr.FrB n1 l1 (1 : Int) l2) ∧ 0 < Tb.aft Tb.ex (Fr.fq n1 l1 l2)) (Tb.lkR Tb.ek Tb.ex (Fr.fq n1 l1 l2)) : Int) fun n2 hn2 => ?_
  refine nm (Fr.rD ((Tb.RtT Tb.et Tb.ek Tb.ex ∧ Fr.FrB n1 l1 (1 : Int) l2) ∧ 0 < Tb.aft Tb.ex (Fr.fq n1 l1 l2)) (Tb.lkR Tb.ek Tb.ex (Fr.fq n1 l1 l2)) : List Int) fun l3 hl3 => ?_
  have hl3n := congrArg List.length hl3
  refine nm (Fr.rT ((Tb.RtT Tb.et Tb.ek Tb.ex ∧ Fr.FrB n1 l1 (1 : Int) l2) ∧ 0 < Tb.aft Tb.ex (Fr.fq n1 l1 l2)) : Int) fun n3 hn3 => ?_
  refine nm (Fr.rE ((Tb.RtT Tb.et Tb.ek Tb.ex ∧ Fr.FrB n1 l1 (1 : Int) l2) ∧ 0 < Tb.aft Tb.ex (Fr.fq n1 l1 l2)) (Tb.lkR Tb.ek Tb.ex (Fr.fq n1 l1 l2)) : List Int) fun l4 hl4 => ?_
  have hl4n := congrArg List.length hl4
  refine nm (if ¬ (Tb.RtT Tb.et Tb.ek Tb.ex ∧ Fr.FrB n1 l1 (1 : Int) l2) then (1 : Int) else if Tb.aft Tb.ex (Fr.fq n1 l1 l2) = 0 then 4 else 0 : Int) fun n4 hn4 => ?_
  have zk : Fr.Fz n1 l1 1 l2 ((key : Int) : Rat) := by subst_vars; exact Un.intz _
  have hl_zk := zk.len (Fr.Hb.int (by first | assumption | decide)); have hl1_zk := hl_zk.1; have hl2_zk := hl_zk.2
  have hP : Tb.RtT Tb.et Tb.ek Tb.ex ∧ Fr.FrB n1 l1 1 l2 := ⟨Tb.exR, zk.rt⟩
  have he : n4 = if Tb.aft Tb.ex (key : Rat) = 0 then 4 else 0 := by rw [hn4, if_neg (fun h => h hP), zk.v]
  have zf : 0 < Tb.aft Tb.ex (key : Rat) → Fr.Fz n2 l3 n3 l4 (Tb.lkR Tb.ek Tb.ex (key : Rat)) := fun h => by rw [← zk.v] at h ⊢; exact Fr.Fz.of (And.intro hP h) hn2 hl3 hn3 hl4
  refine V.r [.ct g0 0 63 false [] [] [] (fun _ G => example_ct ),.k (iv key),.ct g0 2 16 false [] [] [] (fun _ G => r5int_ctv key hk n1 hn1 l1 hl1 l2 hl2),.ct g0 3 29 false [] [] [(kf true (.g 0 0) Tb.ex (fun G => (G 0).ss 0)).a, (kf true (.g 2 0) l1 (fun G => (G 2).ss 0)).a, (kf true (.g 2 1) l2 (fun G => (G 2).ss 1)).a] (fun _ G => tlook_ctv Tb.et Tb.ek Tb.ex ((G 0).ss 0) n1 l1 ((G 2).ss 0) (1 : Int) l2 ((G 2).ss 1) (by decide) (by decide) (by omega) (by omega) n2 hn2 l3 hl3 n3 hn3 l4 hl4 n4 hn4),.v fun G => .tuple #[ag (DFrac.mk (DBig.mk n2 ⟨l3, (G 3).ss 0⟩) (DBig.mk n3 ⟨l4, (G 3).ss 1⟩)), iv n4],.v fun G => ag (DFrac.mk (DBig.mk n2 ⟨l3, (G 3).ss 0⟩) (DBig.mk n3 ⟨l4, (G 3).ss 1⟩)),.k (iv n4),.nb 7 0 (fun b => pp b 0) 30 (fun _ => ca (DFrac.mk (DBig.mk 0 ⟨[], {}⟩) (DBig.mk 0 ⟨[], {}⟩))),.st 0 (fun G => .blk ((G 7).b) (ca (DFrac.mk (DBig.mk n2 ⟨l3, (G 3).ss 0⟩) (DBig.mk n3 ⟨l4, (G 3).ss 1⟩))) 30),.k (iv n4)] fun _ _ G2 kw2 => ?_
  intro S_ s_
  obtain ⟨⟨kl1, -⟩, ⟨kl2, -⟩, ⟨kl3, -⟩, ⟨kl4, -⟩, ⟨kl5, -⟩, -⟩ : Lq Tb.ex (((G2 0).ss 0).v) ∧ Lq l1 (((G2 2).ss 0).v) ∧ Lq l2 (((G2 2).ss 1).v) ∧ Lq l3 (((G2 3).ss 0).v) ∧ Lq l4 (((G2 3).ss 1).v) ∧ True := kn kw2 (by kernel_rfl)
  clear kw2
  refine nm (Bg.sgn want : Int) fun n5 hn5 => ?_
  refine nm (Bg.dig want.natAbs : List Int) fun l5 hl5 => ?_
  have hl5n := congrArg List.length hl5
  refine nm ((decide (n4 = 0)) && (decide (n2 = n5 ∧ l3 = l5 ∧ n3 = (1 : Int) ∧ l4 = l2)) : Bool) fun p1 hp1 => ?_
  have zw : Fr.Fz n5 l5 1 l2 ((want : Int) : Rat) := by subst_vars; exact Un.intz _
  have hl_zw := zw.len (Fr.Hb.int (by first | assumption | decide)); have hl1_zw := hl_zw.1; have hl2_zw := hl_zw.2
  refine V.g [.k (iv n4),.k (bv (decide (n4 = 0))),.k (bv (decide (n4 = 0))),.ld 0 0 true (fun _ => Dat.cells (DFrac.mk (DBig.mk n2 ⟨l3, (G2 3).ss 0⟩) (DBig.mk n3 ⟨l4, (G2 3).ss 1⟩))),.k (iv want),.ct (gT (b := decide (n4 = 0)) iDT) 5 16 false [] [] [] (fun hg G => r5int_ctv want hw n5 hn5 l5 hl5 l2 hl2),.cp (gT (b := decide (n4 = 0)) iDT) 6 15 [(kf true (.f 3) l3 (fun _ => (G2 3).ss 0)).a, (kf true (.f 4) l4 (fun _ => (G2 3).ss 1)).a, (kf true (.g 5 0) l5 (fun G => (G 5).ss 0)).a, (kf true (.g 5 1) l2 (fun G => (G 5).ss 1)).a] (fun hg G => same5_ct n2 l3 ((G2 3).ss 0) n3 l4 ((G2 3).ss 1) n5 l5 ((G 5).ss 0) (1 : Int) l2 ((G 5).ss 1)),.andn g0 false (decide (n4 = 0)) (decide (n2 = n5 ∧ l3 = l5 ∧ n3 = (1 : Int) ∧ l4 = l2)) p1 hp1,.k (bv p1)] fun _ _ G3 => ?_
  intro S_ s_
  have e0 : p1 = decide (Tb.looksP key want) := by
    refine Bool.eq_iff_iff.2 (Iff.trans (iN hp1 (iAT iDT iDT)) (Iff.trans ?_ decide_eq_true_iff.symm))
    rw [he]
    unfold Tb.looksP
    constructor
    · rintro ⟨h1, h2⟩
      have h3 : 0 < Tb.aft Tb.ex (key : Rat) := by split at h1 <;> omega
      exact ⟨h3, (Fr.Fz.iff (zf h3) zw).1 h2⟩
    rintro ⟨h1, h2⟩
    exact ⟨by rw [if_neg (by omega)], (Fr.Fz.iff (zf h1) zw).2 h2⟩
  exact V.ret [0] [] [] [] [] [] (bv p1) (fun _ _ => by kernel_rfl) (fun _ _ => (Eq.trans (by kernel_rfl) (cong1 (fun (x0 : Bool) => (bv x0 : Value)) e0)).trans (by kernel_rfl)) (fun _ _ => trivial)
theorem lookst_ct (key want : Int) (hk : -9223372036854775808 ≤ key ∧ key ≤ 9223372036854775807) (hw : -9223372036854775808 ≤ want ∧ want ≤ 9223372036854775807) (hT : Tb.looksP key want) :
    Cp Try.prog 64 #[iv key, iv want] [] (bv (true)) := by
  have h := looks_ct  key want hk hw; rw [decide_eq_true hT] at h; exact h
set_option maxRecDepth 10000 in
theorem lines_ct (key want : Int) (hk : -9223372036854775808 ≤ key ∧ key ≤ 9223372036854775807) (hw : -9223372036854775808 ≤ want ∧ want ≤ 9223372036854775807) :
    Cp Try.prog 65 #[iv key, iv want] [] (bv (decide (Tb.linesP key want))) := by
  refine V.fn mo Try.func65 22 1 (by kernel_rfl) fun w H ε k0 => ?_
  clear k0
  refine V.g [.kb false] fun _ _ G1 => ?_
  intro S_ s_
  refine nm (Bg.sgn key : Int) fun n1 hn1 => ?_
  refine nm (Bg.dig key.natAbs : List Int) fun l1 hl1 => ?_
  have hl1n := congrArg List.length hl1
  refine nm (Bg.dig 1 : List Int) fun l2 hl2 => ?_
  have hl2n := congrArg List.length hl2
  refine nm (Fr.rS ((Tb.RtT Tb.et Tb.ek Tb.ex ∧ Fr.FrB n1 l1 (1 : Int) l2) ∧ (Tb.lin Tb.ek Tb.ex (Fr.fq n1 l1 l2)).isSome = true) ((Tb.lin Tb.ek Tb.ex (Fr.fq n1 l1 l2)).getD 0) : Int) fun n2 hn2 => ?_
  refine nm (Fr.rD ((Tb.RtT Tb.et Tb.ek Tb.ex ∧ Fr.FrB n1 l1 (1 : Int) l2) ∧ (Tb.lin Tb.ek Tb.ex (Fr.fq n1 l1 l2)).isSome = true) ((Tb.lin Tb.ek Tb.ex (Fr.fq n1 l1 l2)).getD 0) : List Int) fun l3 hl3 => ?_
  have hl3n := congrArg List.length hl3
  refine nm (Fr.rT ((Tb.RtT Tb.et Tb.ek Tb.ex ∧ Fr.FrB n1 l1 (1 : Int) l2) ∧ (Tb.lin Tb.ek Tb.ex (Fr.fq n1 l1 l2)).isSome = true) : Int) fun n3 hn3 => ?_
  refine nm (Fr.rE ((Tb.RtT Tb.et Tb.ek Tb.ex ∧ Fr.FrB n1 l1 (1 : Int) l2) ∧ (Tb.lin Tb.ek Tb.ex (Fr.fq n1 l1 l2)).isSome = true) ((Tb.lin Tb.ek Tb.ex (Fr.fq n1 l1 l2)).getD 0) : List Int) fun l4 hl4 => ?_
  have hl4n := congrArg List.length hl4
  refine nm (if ¬ (Tb.RtT Tb.et Tb.ek Tb.ex ∧ Fr.FrB n1 l1 (1 : Int) l2) then (1 : Int) else if (Tb.lin Tb.ek Tb.ex (Fr.fq n1 l1 l2)).isSome = true then 0 else 4 : Int) fun n4 hn4 => ?_
  have zk : Fr.Fz n1 l1 1 l2 ((key : Int) : Rat) := by subst_vars; exact Un.intz _
  have hl_zk := zk.len (Fr.Hb.int (by first | assumption | decide)); have hl1_zk := hl_zk.1; have hl2_zk := hl_zk.2
  have hP : Tb.RtT Tb.et Tb.ek Tb.ex ∧ Fr.FrB n1 l1 1 l2 := ⟨Tb.exR, zk.rt⟩
  have he : n4 = if (Tb.lin Tb.ek Tb.ex (key : Rat)).isSome = true then 0 else 4 := by rw [hn4, if_neg (fun h => h hP), zk.v]
  have zf : (Tb.lin Tb.ek Tb.ex (key : Rat)).isSome = true → Fr.Fz n2 l3 n3 l4 ((Tb.lin Tb.ek Tb.ex (key : Rat)).getD 0) := fun h => by rw [← zk.v] at h ⊢; exact Fr.Fz.of (And.intro hP h) hn2 hl3 hn3 hl4
  refine V.r [.ct g0 0 63 false [] [] [] (fun _ G => example_ct ),.k (iv key),.ct g0 2 16 false [] [] [] (fun _ G => r5int_ctv key hk n1 hn1 l1 hl1 l2 hl2),.ct g0 3 35 false [] [] [(kf true (.g 0 0) Tb.ex (fun G => (G 0).ss 0)).a, (kf true (.g 2 0) l1 (fun G => (G 2).ss 0)).a, (kf true (.g 2 1) l2 (fun G => (G 2).ss 1)).a] (fun _ G => tline_ctv Tb.et Tb.ek Tb.ex ((G 0).ss 0) n1 l1 ((G 2).ss 0) (1 : Int) l2 ((G 2).ss 1) (by decide) (by decide) (by omega) (by omega) n2 hn2 l3 hl3 n3 hn3 l4 hl4 n4 hn4),.v fun G => .tuple #[ag (DFrac.mk (DBig.mk n2 ⟨l3, (G 3).ss 0⟩) (DBig.mk n3 ⟨l4, (G 3).ss 1⟩)), iv n4],.v fun G => ag (DFrac.mk (DBig.mk n2 ⟨l3, (G 3).ss 0⟩) (DBig.mk n3 ⟨l4, (G 3).ss 1⟩)),.k (iv n4),.nb 7 0 (fun b => pp b 0) 30 (fun _ => ca (DFrac.mk (DBig.mk 0 ⟨[], {}⟩) (DBig.mk 0 ⟨[], {}⟩))),.st 0 (fun G => .blk ((G 7).b) (ca (DFrac.mk (DBig.mk n2 ⟨l3, (G 3).ss 0⟩) (DBig.mk n3 ⟨l4, (G 3).ss 1⟩))) 30),.k (iv n4)] fun _ _ G2 kw2 => ?_
  intro S_ s_
  obtain ⟨⟨kl1, -⟩, ⟨kl2, -⟩, ⟨kl3, -⟩, ⟨kl4, -⟩, ⟨kl5, -⟩, -⟩ : Lq Tb.ex (((G2 0).ss 0).v) ∧ Lq l1 (((G2 2).ss 0).v) ∧ Lq l2 (((G2 2).ss 1).v) ∧ Lq l3 (((G2 3).ss 0).v) ∧ Lq l4 (((G2 3).ss 1).v) ∧ True := kn kw2 (by kernel_rfl)
  clear kw2
  refine nm (Bg.sgn want : Int) fun n5 hn5 => ?_
  refine nm (Bg.dig want.natAbs : List Int) fun l5 hl5 => ?_
  have hl5n := congrArg List.length hl5
  refine nm ((decide (n4 = 0)) && (decide (n2 = n5 ∧ l3 = l5 ∧ n3 = (1 : Int) ∧ l4 = l2)) : Bool) fun p1 hp1 => ?_
  have zw : Fr.Fz n5 l5 1 l2 ((want : Int) : Rat) := by subst_vars; exact Un.intz _
  have hl_zw := zw.len (Fr.Hb.int (by first | assumption | decide)); have hl1_zw := hl_zw.1; have hl2_zw := hl_zw.2
  refine V.g [.k (iv n4),.k (bv (decide (n4 = 0))),.k (bv (decide (n4 = 0))),.ld 0 0 true (fun _ => Dat.cells (DFrac.mk (DBig.mk n2 ⟨l3, (G2 3).ss 0⟩) (DBig.mk n3 ⟨l4, (G2 3).ss 1⟩))),.k (iv want),.ct (gT (b := decide (n4 = 0)) iDT) 5 16 false [] [] [] (fun hg G => r5int_ctv want hw n5 hn5 l5 hl5 l2 hl2),.cp (gT (b := decide (n4 = 0)) iDT) 6 15 [(kf true (.f 3) l3 (fun _ => (G2 3).ss 0)).a, (kf true (.f 4) l4 (fun _ => (G2 3).ss 1)).a, (kf true (.g 5 0) l5 (fun G => (G 5).ss 0)).a, (kf true (.g 5 1) l2 (fun G => (G 5).ss 1)).a] (fun hg G => same5_ct n2 l3 ((G2 3).ss 0) n3 l4 ((G2 3).ss 1) n5 l5 ((G 5).ss 0) (1 : Int) l2 ((G 5).ss 1)),.andn g0 false (decide (n4 = 0)) (decide (n2 = n5 ∧ l3 = l5 ∧ n3 = (1 : Int) ∧ l4 = l2)) p1 hp1,.k (bv p1)] fun _ _ G3 => ?_
  intro S_ s_
  have e0 : p1 = decide (Tb.linesP key want) := by
    refine Bool.eq_iff_iff.2 (Iff.trans (iN hp1 (iAT iDT iDT)) (Iff.trans ?_ decide_eq_true_iff.symm))
    rw [he]
    unfold Tb.linesP
    cases hl : Tb.lin Tb.ek Tb.ex (key : Rat) with
    | none => simp
    | some r =>
      have hi : (Tb.lin Tb.ek Tb.ex (key : Rat)).isSome = true := by rw [hl]; rfl
      have z2 := zf hi
      rw [hl] at z2
      rw [if_pos (show (some r).isSome = true from rfl), Fr.Fz.iff z2 zw]
      exact ⟨fun h => congrArg some h.2, fun h => ⟨rfl, Option.some.inj h⟩⟩
  exact V.ret [0] [] [] [] [] [] (bv p1) (fun _ _ => by kernel_rfl) (fun _ _ => (Eq.trans (by kernel_rfl) (cong1 (fun (x0 : Bool) => (bv x0 : Value)) e0)).trans (by kernel_rfl)) (fun _ _ => trivial)
theorem linest_ct (key want : Int) (hk : -9223372036854775808 ≤ key ∧ key ≤ 9223372036854775807) (hw : -9223372036854775808 ≤ want ∧ want ≤ 9223372036854775807) (hT : Tb.linesP key want) :
    Cp Try.prog 65 #[iv key, iv want] [] (bv (true)) := by
  have h := lines_ct  key want hk hw; rw [decide_eq_true hT] at h; exact h
set_option maxRecDepth 10000 in
theorem small_ct :
    Cp Try.prog 27 #[] [] (bv true) := by
  refine V.fn mo Try.func27 96 5 (by kernel_rfl) fun w H ε k0 => ?_
  clear k0
  refine V.g [.kb false] fun _ _ G1 => ?_
  intro S_ s_
  refine nm (Bg.sgn (-1 : Int) : Int) fun n1 hn1 => ?_
  refine nm (Bg.dig (-1 : Int).natAbs : List Int) fun l1 hl1 => ?_
  have hl1n := congrArg List.length hl1
  refine nm (Bg.dig 1 : List Int) fun l2 hl2 => ?_
  have hl2n := congrArg List.length hl2
  refine nm (Fr.rS ((Tb.RtT Tb.et Tb.ek Tb.ex ∧ Fr.FrB n1 l1 (1 : Int) l2) ∧ 0 < Tb.aft Tb.ex (Fr.fq n1 l1 l2)) (Tb.lkR Tb.ek Tb.ex (Fr.fq n1 l1 l2)) : Int) fun n2 hn2 => ?_
  refine nm (Fr.rD ((Tb.RtT Tb.et Tb.ek Tb.ex ∧ Fr.FrB n1 l1 (1 : Int) l2) ∧ 0 < Tb.aft Tb.ex (Fr.fq n1 l1 l2)) (Tb.lkR Tb.ek Tb.ex (Fr.fq n1 l1 l2)) : List Int) fun l3 hl3 => ?_
  have hl3n := congrArg List.length hl3
  refine nm (Fr.rT ((Tb.RtT Tb.et Tb.ek Tb.ex ∧ Fr.FrB n1 l1 (1 : Int) l2) ∧ 0 < Tb.aft Tb.ex (Fr.fq n1 l1 l2)) : Int) fun n3 hn3 => ?_
  refine nm (Fr.rE ((Tb.RtT Tb.et Tb.ek Tb.ex ∧ Fr.FrB n1 l1 (1 : Int) l2) ∧ 0 < Tb.aft Tb.ex (Fr.fq n1 l1 l2)) (Tb.lkR Tb.ek Tb.ex (Fr.fq n1 l1 l2)) : List Int) fun l4 hl4 => ?_
  have hl4n := congrArg List.length hl4
  refine nm (if ¬ (Tb.RtT Tb.et Tb.ek Tb.ex ∧ Fr.FrB n1 l1 (1 : Int) l2) then (1 : Int) else if Tb.aft Tb.ex (Fr.fq n1 l1 l2) = 0 then 4 else 0 : Int) fun n4 hn4 => ?_
  have z1 : Fr.Fz n1 l1 1 l2 ((-1 : Int) : Rat) := by subst_vars; exact Un.intz _
  have hl_z1 := z1.len (Fr.Hb.int (by first | assumption | decide)); have hl1_z1 := hl_z1.1; have hl2_z1 := hl_z1.2
  have e1 : n4 = 4 := by rw [hn4, if_neg (fun h => h ⟨Tb.exR, z1.rt⟩), z1.v, if_pos Tb.no1]
  refine V.r [.ct g0 0 63 false [] [] [] (fun _ G => example_ct ),.ct g0 1 16 false [] [] [] (fun _ G => r5int_ctv (-1 : Int) (by omega) n1 hn1 l1 hl1 l2 hl2),.ct g0 2 29 false [] [] [(kf true (.g 0 0) Tb.ex (fun G => (G 0).ss 0)).a, (kf true (.g 1 0) l1 (fun G => (G 1).ss 0)).a, (kf true (.g 1 1) l2 (fun G => (G 1).ss 1)).a] (fun _ G => tlook_ctv Tb.et Tb.ek Tb.ex ((G 0).ss 0) n1 l1 ((G 1).ss 0) (1 : Int) l2 ((G 1).ss 1) (by decide) (by decide) (by omega) (by omega) n2 hn2 l3 hl3 n3 hn3 l4 hl4 n4 hn4),.v fun G => .tuple #[ag (DFrac.mk (DBig.mk n2 ⟨l3, (G 2).ss 0⟩) (DBig.mk n3 ⟨l4, (G 2).ss 1⟩)), iv n4],.v fun G => ag (DFrac.mk (DBig.mk n2 ⟨l3, (G 2).ss 0⟩) (DBig.mk n3 ⟨l4, (G 2).ss 1⟩)),.k (iv n4),.nb 6 0 (fun b => pp b 0) 30 (fun _ => ca (DFrac.mk (DBig.mk 0 ⟨[], {}⟩) (DBig.mk 0 ⟨[], {}⟩))),.st 0 (fun G => .blk ((G 6).b) (ca (DFrac.mk (DBig.mk n2 ⟨l3, (G 2).ss 0⟩) (DBig.mk n3 ⟨l4, (G 2).ss 1⟩))) 30),.k (iv n4)] fun _ _ G2 kw2 => ?_
  intro S_ s_
  obtain ⟨⟨kl1, -⟩, ⟨kl2, -⟩, ⟨kl3, -⟩, ⟨kl4, -⟩, ⟨kl5, -⟩, -⟩ : Lq Tb.ex (((G2 0).ss 0).v) ∧ Lq l1 (((G2 1).ss 0).v) ∧ Lq l2 (((G2 1).ss 1).v) ∧ Lq l3 (((G2 2).ss 0).v) ∧ Lq l4 (((G2 2).ss 1).v) ∧ True := kn kw2 (by kernel_rfl)
  clear kw2
  refine nm (Bg.sgn (21 : Int) : Int) fun n5 hn5 => ?_
  refine nm (Bg.dig (21 : Int).natAbs : List Int) fun l5 hl5 => ?_
  have hl5n := congrArg List.length hl5
  refine nm (Fr.rS ((Tb.RtT Tb.et Tb.ek Tb.ex ∧ Fr.FrB n5 l5 (1 : Int) l2) ∧ (Tb.lin Tb.ek Tb.ex (Fr.fq n5 l5 l2)).isSome = true) ((Tb.lin Tb.ek Tb.ex (Fr.fq n5 l5 l2)).getD 0) : Int) fun n6 hn6 => ?_
  refine nm (Fr.rD ((Tb.RtT Tb.et Tb.ek Tb.ex ∧ Fr.FrB n5 l5 (1 : Int) l2) ∧ (Tb.lin Tb.ek Tb.ex (Fr.fq n5 l5 l2)).isSome = true) ((Tb.lin Tb.ek Tb.ex (Fr.fq n5 l5 l2)).getD 0) : List Int) fun l6 hl6 => ?_
  have hl6n := congrArg List.length hl6
  refine nm (Fr.rT ((Tb.RtT Tb.et Tb.ek Tb.ex ∧ Fr.FrB n5 l5 (1 : Int) l2) ∧ (Tb.lin Tb.ek Tb.ex (Fr.fq n5 l5 l2)).isSome = true) : Int) fun n7 hn7 => ?_
  refine nm (Fr.rE ((Tb.RtT Tb.et Tb.ek Tb.ex ∧ Fr.FrB n5 l5 (1 : Int) l2) ∧ (Tb.lin Tb.ek Tb.ex (Fr.fq n5 l5 l2)).isSome = true) ((Tb.lin Tb.ek Tb.ex (Fr.fq n5 l5 l2)).getD 0) : List Int) fun l7 hl7 => ?_
  have hl7n := congrArg List.length hl7
  refine nm (if ¬ (Tb.RtT Tb.et Tb.ek Tb.ex ∧ Fr.FrB n5 l5 (1 : Int) l2) then (1 : Int) else if (Tb.lin Tb.ek Tb.ex (Fr.fq n5 l5 l2)).isSome = true then 0 else 4 : Int) fun n8 hn8 => ?_
  have z2 : Fr.Fz n5 l5 1 l2 ((21 : Int) : Rat) := by subst_vars; exact Un.intz _
  have hl_z2 := z2.len (Fr.Hb.int (by first | assumption | decide)); have hl1_z2 := hl_z2.1; have hl2_z2 := hl_z2.2
  have e2 : n8 = 4 := by rw [hn8, if_neg (fun h => h ⟨Tb.exR, z2.rt⟩), z2.v, Tb.no2]; rfl
  refine V.r [.ct g0 0 63 false [] [] [] (fun _ G => example_ct ),.ct g0 1 16 false [] [] [] (fun _ G => r5int_ctv (21 : Int) (by omega) n5 hn5 l5 hl5 l2 hl2),.ct g0 2 35 false [] [] [(kf true (.g 0 0) Tb.ex (fun G => (G 0).ss 0)).a, (kf true (.g 1 0) l5 (fun G => (G 1).ss 0)).a, (kf true (.g 1 1) l2 (fun G => (G 1).ss 1)).a] (fun _ G => tline_ctv Tb.et Tb.ek Tb.ex ((G 0).ss 0) n5 l5 ((G 1).ss 0) (1 : Int) l2 ((G 1).ss 1) (by decide) (by decide) (by omega) (by omega) n6 hn6 l6 hl6 n7 hn7 l7 hl7 n8 hn8),.v fun G => .tuple #[ag (DFrac.mk (DBig.mk n6 ⟨l6, (G 2).ss 0⟩) (DBig.mk n7 ⟨l7, (G 2).ss 1⟩)), iv n8],.v fun G => ag (DFrac.mk (DBig.mk n6 ⟨l6, (G 2).ss 0⟩) (DBig.mk n7 ⟨l7, (G 2).ss 1⟩)),.k (iv n8),.nb 6 1 (fun b => pp b 0) 30 (fun _ => ca (DFrac.mk (DBig.mk 0 ⟨[], {}⟩) (DBig.mk 0 ⟨[], {}⟩))),.st 1 (fun G => .blk ((G 6).b) (ca (DFrac.mk (DBig.mk n6 ⟨l6, (G 2).ss 0⟩) (DBig.mk n7 ⟨l7, (G 2).ss 1⟩))) 30),.k (iv n8)] fun _ _ G3 kw3 => ?_
  intro S_ s_
  obtain ⟨⟨kl6, -⟩, ⟨kl7, -⟩, ⟨kl8, -⟩, ⟨kl9, -⟩, ⟨kl10, -⟩, -⟩ : Lq Tb.ex (((G3 0).ss 0).v) ∧ Lq l5 (((G3 1).ss 0).v) ∧ Lq l2 (((G3 1).ss 1).v) ∧ Lq l6 (((G3 2).ss 0).v) ∧ Lq l7 (((G3 2).ss 1).v) ∧ True := kn kw3 (by kernel_rfl)
  clear kw3
  refine nm (Fr.rS (Tb.RtT Tb.et Tb.ek Tb.ex) (((Tb.sumR (0 : Int) (10 : Int) Tb.ex : Int) : Rat) * Tb.uf Tb.ek) : Int) fun n9 hn9 => ?_
  refine nm (Fr.rD (Tb.RtT Tb.et Tb.ek Tb.ex) (((Tb.sumR (0 : Int) (10 : Int) Tb.ex : Int) : Rat) * Tb.uf Tb.ek) : List Int) fun l8 hl8 => ?_
  have hl8n := congrArg List.length hl8
  refine nm (Fr.rT (Tb.RtT Tb.et Tb.ek Tb.ex) : Int) fun n10 hn10 => ?_
  refine nm (Fr.rE (Tb.RtT Tb.et Tb.ek Tb.ex) (((Tb.sumR (0 : Int) (10 : Int) Tb.ex : Int) : Rat) * Tb.uf Tb.ek) : List Int) fun l9 hl9 => ?_
  have hl9n := congrArg List.length hl9
  refine nm (if Tb.RtT Tb.et Tb.ek Tb.ex then (0 : Int) else 1 : Int) fun n11 hn11 => ?_
  have e3 : n11 = 0 := by rw [hn11, if_pos Tb.exR]
  have z3 := Fr.Fz.of Tb.exR hn9 hl8 hn10 hl9
  rw [Tb.sm1] at z3
  refine V.r [.ct g0 0 63 false [] [] [] (fun _ G => example_ct ),.ct g0 1 34 false [] [] [(kf true (.g 0 0) Tb.ex (fun G => (G 0).ss 0)).a] (fun _ G => tsum_ctv Tb.et Tb.ek Tb.ex ((G 0).ss 0) (0 : Int) (10 : Int) (by decide) (by decide) n9 hn9 l8 hl8 n10 hn10 l9 hl9 n11 hn11),.v fun G => .tuple #[ag (DFrac.mk (DBig.mk n9 ⟨l8, (G 1).ss 0⟩) (DBig.mk n10 ⟨l9, (G 1).ss 1⟩)), iv n11],.v fun G => ag (DFrac.mk (DBig.mk n9 ⟨l8, (G 1).ss 0⟩) (DBig.mk n10 ⟨l9, (G 1).ss 1⟩)),.k (iv n11),.nb 5 2 (fun b => pp b 0) 30 (fun _ => ca (DFrac.mk (DBig.mk 0 ⟨[], {}⟩) (DBig.mk 0 ⟨[], {}⟩))),.st 2 (fun G => .blk ((G 5).b) (ca (DFrac.mk (DBig.mk n9 ⟨l8, (G 1).ss 0⟩) (DBig.mk n10 ⟨l9, (G 1).ss 1⟩))) 30),.k (iv n11)] fun _ _ G4 kw4 => ?_
  intro S_ s_
  obtain ⟨⟨kl11, -⟩, ⟨kl12, -⟩, ⟨kl13, -⟩, -⟩ : Lq Tb.ex (((G4 0).ss 0).v) ∧ Lq l8 (((G4 1).ss 0).v) ∧ Lq l9 (((G4 1).ss 1).v) ∧ True := kn kw4 (by kernel_rfl)
  clear kw4
  refine nm (Fr.rS (Tb.RtT Tb.et Tb.ek Tb.ex) (((Tb.sumR (1 : Int) (9 : Int) Tb.ex : Int) : Rat) * Tb.uf Tb.ek) : Int) fun n12 hn12 => ?_
  refine nm (Fr.rD (Tb.RtT Tb.et Tb.ek Tb.ex) (((Tb.sumR (1 : Int) (9 : Int) Tb.ex : Int) : Rat) * Tb.uf Tb.ek) : List Int) fun l10 hl10 => ?_
  have hl10n := congrArg List.length hl10
  refine nm (Fr.rE (Tb.RtT Tb.et Tb.ek Tb.ex) (((Tb.sumR (1 : Int) (9 : Int) Tb.ex : Int) : Rat) * Tb.uf Tb.ek) : List Int) fun l11 hl11 => ?_
  have hl11n := congrArg List.length hl11
  have e4 : n11 = 0 := by rw [hn11, if_pos Tb.exR]
  have z4 := Fr.Fz.of Tb.exR hn12 hl10 hn10 hl11
  rw [Tb.sm2] at z4
  refine V.r [.ct g0 0 63 false [] [] [] (fun _ G => example_ct ),.ct g0 1 34 false [] [] [(kf true (.g 0 0) Tb.ex (fun G => (G 0).ss 0)).a] (fun _ G => tsum_ctv Tb.et Tb.ek Tb.ex ((G 0).ss 0) (1 : Int) (9 : Int) (by decide) (by decide) n12 hn12 l10 hl10 n10 hn10 l11 hl11 n11 hn11),.v fun G => .tuple #[ag (DFrac.mk (DBig.mk n12 ⟨l10, (G 1).ss 0⟩) (DBig.mk n10 ⟨l11, (G 1).ss 1⟩)), iv n11],.v fun G => ag (DFrac.mk (DBig.mk n12 ⟨l10, (G 1).ss 0⟩) (DBig.mk n10 ⟨l11, (G 1).ss 1⟩)),.k (iv n11),.nb 5 3 (fun b => pp b 0) 30 (fun _ => ca (DFrac.mk (DBig.mk 0 ⟨[], {}⟩) (DBig.mk 0 ⟨[], {}⟩))),.st 3 (fun G => .blk ((G 5).b) (ca (DFrac.mk (DBig.mk n12 ⟨l10, (G 1).ss 0⟩) (DBig.mk n10 ⟨l11, (G 1).ss 1⟩))) 30),.k (iv n11)] fun _ _ G5 kw5 => ?_
  intro S_ s_
  obtain ⟨⟨kl14, -⟩, ⟨kl15, -⟩, ⟨kl16, -⟩, -⟩ : Lq Tb.ex (((G5 0).ss 0).v) ∧ Lq l10 (((G5 1).ss 0).v) ∧ Lq l11 (((G5 1).ss 1).v) ∧ True := kn kw5 (by kernel_rfl)
  clear kw5
  refine nm (Bg.sgn (1 : Int) : Int) fun n13 hn13 => ?_
  refine nm (Bg.dig (1 : Int).natAbs : List Int) fun l12 hl12 => ?_
  have hl12n := congrArg List.length hl12
  refine nm (Fr.rS ((Tb.RtT ⟨#[116]⟩ ⟨#[63]⟩ ([] : List DRow) ∧ Fr.FrB n13 l12 (1 : Int) l2) ∧ 0 < Tb.aft ([] : List DRow) (Fr.fq n13 l12 l2)) (Tb.lkR ⟨#[63]⟩ ([] : List DRow) (Fr.fq n13 l12 l2)) : Int) fun n14 hn14 => ?_
  refine nm (Fr.rD ((Tb.RtT ⟨#[116]⟩ ⟨#[63]⟩ ([] : List DRow) ∧ Fr.FrB n13 l12 (1 : Int) l2) ∧ 0 < Tb.aft ([] : List DRow) (Fr.fq n13 l12 l2)) (Tb.lkR ⟨#[63]⟩ ([] : List DRow) (Fr.fq n13 l12 l2)) : List Int) fun l13 hl13 => ?_
  have hl13n := congrArg List.length hl13
  refine nm (Fr.rT ((Tb.RtT ⟨#[116]⟩ ⟨#[63]⟩ ([] : List DRow) ∧ Fr.FrB n13 l12 (1 : Int) l2) ∧ 0 < Tb.aft ([] : List DRow) (Fr.fq n13 l12 l2)) : Int) fun n15 hn15 => ?_
  refine nm (Fr.rE ((Tb.RtT ⟨#[116]⟩ ⟨#[63]⟩ ([] : List DRow) ∧ Fr.FrB n13 l12 (1 : Int) l2) ∧ 0 < Tb.aft ([] : List DRow) (Fr.fq n13 l12 l2)) (Tb.lkR ⟨#[63]⟩ ([] : List DRow) (Fr.fq n13 l12 l2)) : List Int) fun l14 hl14 => ?_
  have hl14n := congrArg List.length hl14
  refine nm (if ¬ (Tb.RtT ⟨#[116]⟩ ⟨#[63]⟩ ([] : List DRow) ∧ Fr.FrB n13 l12 (1 : Int) l2) then (1 : Int) else if Tb.aft ([] : List DRow) (Fr.fq n13 l12 l2) = 0 then 4 else 0 : Int) fun n16 hn16 => ?_
  have z5 : Fr.Fz n13 l12 1 l2 ((1 : Int) : Rat) := by subst_vars; exact Un.intz _
  have hl_z5 := z5.len (Fr.Hb.int (by first | assumption | decide)); have hl1_z5 := hl_z5.1; have hl2_z5 := hl_z5.2
  have e5 : n16 = 1 := by rw [hn16, if_pos (fun h => Tb.bad h.1)]
  refine V.r [.k (ag (DTable.mk ⟨#[116]⟩ ⟨#[63]⟩ ⟨[], {}⟩)),.ct g0 1 16 false [] [] [] (fun _ G => r5int_ctv (1 : Int) (by omega) n13 hn13 l12 hl12 l2 hl2),.ct g0 2 29 false [] [] [(knil (α := DRow)).a, (kf true (.g 1 0) l12 (fun G => (G 1).ss 0)).a, (kf true (.g 1 1) l2 (fun G => (G 1).ss 1)).a] (fun _ G => tlook_ctv ⟨#[116]⟩ ⟨#[63]⟩ ([] : List DRow) ({}) n13 l12 ((G 1).ss 0) (1 : Int) l2 ((G 1).ss 1) (by decide) (by decide) (by omega) (by omega) n14 hn14 l13 hl13 n15 hn15 l14 hl14 n16 hn16),.v fun G => .tuple #[ag (DFrac.mk (DBig.mk n14 ⟨l13, (G 2).ss 0⟩) (DBig.mk n15 ⟨l14, (G 2).ss 1⟩)), iv n16],.v fun G => ag (DFrac.mk (DBig.mk n14 ⟨l13, (G 2).ss 0⟩) (DBig.mk n15 ⟨l14, (G 2).ss 1⟩)),.k (iv n16),.nb 6 4 (fun b => pp b 0) 30 (fun _ => ca (DFrac.mk (DBig.mk 0 ⟨[], {}⟩) (DBig.mk 0 ⟨[], {}⟩))),.st 4 (fun G => .blk ((G 6).b) (ca (DFrac.mk (DBig.mk n14 ⟨l13, (G 2).ss 0⟩) (DBig.mk n15 ⟨l14, (G 2).ss 1⟩))) 30),.k (iv n16)] fun _ _ G6 kw6 => ?_
  intro S_ s_
  obtain ⟨⟨kl17, -⟩, ⟨kl18, -⟩, ⟨kl19, -⟩, ⟨kl20, -⟩, -⟩ : Lq l12 (((G6 1).ss 0).v) ∧ Lq l2 (((G6 1).ss 1).v) ∧ Lq l13 (((G6 2).ss 0).v) ∧ Lq l14 (((G6 2).ss 1).v) ∧ True := kn kw6 (by kernel_rfl)
  clear kw6
  refine nm (Bg.sgn (40000 : Int) : Int) fun n17 hn17 => ?_
  refine nm (Bg.dig (40000 : Int).natAbs : List Int) fun l15 hl15 => ?_
  have hl15n := congrArg List.length hl15
  refine nm (((decide (n11 = 0)) && (decide (n11 = 0))) && true : Bool) fun p1 hp1 => ?_
  refine nm (Bg.sgn (0 : Int) : Int) fun n18 hn18 => ?_
  refine nm (Bg.dig (0 : Int).natAbs : List Int) fun l16 hl16 => ?_
  have hl16n := congrArg List.length hl16
  have z6a : Fr.Fz n17 l15 1 l2 ((40000 : Int) : Rat) := by subst_vars; exact Un.intz _
  have z6b : Fr.Fz n18 l16 1 l2 ((0 : Int) : Rat) := by subst_vars; exact Un.intz _
  have hs6a := Fr.Fz.inj z3 z6a; have hs6b := Fr.Fz.inj z4 z6b
  refine V.g [.k (iv n11),.k (bv (decide (n11 = 0))),.k (bv (decide (n11 = 0))),.k (iv n11),.k (bv (decide (n11 = 0))),.and g0 false (decide (n11 = 0)) (decide (n11 = 0)),.k (bv ((decide (n11 = 0)) && (decide (n11 = 0)))),.ld 2 0 true (fun _ => Dat.cells (DFrac.mk (DBig.mk n9 ⟨l8, (G4 1).ss 0⟩) (DBig.mk n10 ⟨l9, (G4 1).ss 1⟩))),.ct (gT (b := (decide (n11 = 0)) && (decide (n11 = 0))) (iAT iDT iDT)) 8 16 false [] [] [] (fun hg G => r5int_ctv (40000 : Int) (by omega) n17 hn17 l15 hl15 l2 hl2),.cp (gT (b := (decide (n11 = 0)) && (decide (n11 = 0))) (iAT iDT iDT)) 9 15 [(kf true (.f 11) l8 (fun _ => (G4 1).ss 0)).a, (kf true (.f 12) l9 (fun _ => (G4 1).ss 1)).a, (kf true (.g 8 0) l15 (fun G => (G 8).ss 0)).a, (kf true (.g 8 1) l2 (fun G => (G 8).ss 1)).a] (fun hg G => same5t_ct n9 l8 ((G4 1).ss 0) n10 l9 ((G4 1).ss 1) n17 l15 ((G 8).ss 0) (1 : Int) l2 ((G 8).ss 1) hs6a),.andn g0 false ((decide (n11 = 0)) && (decide (n11 = 0))) true p1 hp1,.k (bv p1),.ld 3 0 true (fun _ => Dat.cells (DFrac.mk (DBig.mk n12 ⟨l10, (G5 1).ss 0⟩) (DBig.mk n10 ⟨l11, (G5 1).ss 1⟩))),.ct (gT (b := p1) (iN hp1 (iAT (iAT iDT iDT) iTT))) 13 16 false [] [] [] (fun hg G => r5int_ctv (0 : Int) (by omega) n18 hn18 l16 hl16 l2 hl2),.cp (gT (b := p1) (iN hp1 (iAT (iAT iDT iDT) iTT))) 14 15 [(kf true (.f 14) l10 (fun _ => (G5 1).ss 0)).a, (kf true (.f 15) l11 (fun _ => (G5 1).ss 1)).a, (kf true (.g 13 0) l16 (fun G => (G 13).ss 0)).a, (kf true (.g 13 1) l2 (fun G => (G 13).ss 1)).a] (fun hg G => same5t_ct n12 l10 ((G5 1).ss 0) n10 l11 ((G5 1).ss 1) n18 l16 ((G 13).ss 0) (1 : Int) l2 ((G 13).ss 1) hs6b),.and g0 false p1 true,.k (bv (p1 && true))] fun _ _ G7 => ?_
  intro S_ s_
  refine V.g [.cp g0 0 64 [] (fun _ G => lookst_ct (0 : Int) (10000 : Int) ⟨by decide, by decide⟩ ⟨by decide, by decide⟩ Tb.looks1),.kb true,.cp g0 2 64 [] (fun _ G => lookst_ct (9 : Int) (10000 : Int) ⟨by decide, by decide⟩ ⟨by decide, by decide⟩ Tb.looks2),.kb true,.kb true,.cp g0 5 64 [] (fun _ G => lookst_ct (10 : Int) (30000 : Int) ⟨by decide, by decide⟩ ⟨by decide, by decide⟩ Tb.looks3),.kb true,.kb true,.cp g0 8 64 [] (fun _ G => lookst_ct (1000 : Int) (20000 : Int) ⟨by decide, by decide⟩ ⟨by decide, by decide⟩ Tb.looks4),.kb true,.kb true,.cp g0 11 65 [] (fun _ G => linest_ct (5 : Int) (20000 : Int) ⟨by decide, by decide⟩ ⟨by decide, by decide⟩ Tb.lines1),.kb true,.kb true,.cp g0 14 65 [] (fun _ G => linest_ct (15 : Int) (25000 : Int) ⟨by decide, by decide⟩ ⟨by decide, by decide⟩ Tb.lines2),.kb true,.kb true,.cp g0 17 65 [] (fun _ G => linest_ct (20 : Int) (20000 : Int) ⟨by decide, by decide⟩ ⟨by decide, by decide⟩ Tb.lines3),.kb true,.kb true] fun _ _ G8 => ?_
  intro S_ s_
  refine nm (((p1 && true) && (decide (n4 = 4))) && (decide (n8 = 4)) : Bool) fun p2 hp2 => ?_
  refine nm ((p2 && (decide (n16 = 1))) && (decide (Tb.RtT Tb.et Tb.ek Tb.ex)) : Bool) fun p3 hp3 => ?_
  refine V.g [.kb true,.kb true,.k (bv (p1 && true)),.k (bv (p1 && true)),.k (bv (p1 && true)),.k (iv n4),.k (bv (decide (n4 = 4))),.and g0 false (p1 && true) (decide (n4 = 4)),.k (bv ((p1 && true) && (decide (n4 = 4)))),.k (iv n8),.k (bv (decide (n8 = 4))),.andn g0 false ((p1 && true) && (decide (n4 = 4))) (decide (n8 = 4)) p2 hp2,.k (bv p2),.k (iv n16),.k (bv (decide (n16 = 1))),.and g0 false p2 (decide (n16 = 1)),.k (bv (p2 && (decide (n16 = 1)))),.ct (gT (b := p2 && (decide (n16 = 1))) (iAT (iN hp2 (iAT (iAT (iAT (iN hp1 (iAT (iAT iDT iDT) iTT)) iTT) iDT) iDT)) iDT)) 17 63 false [] [] [] (fun hg G => example_ct ),.cp (gT (b := p2 && (decide (n16 = 1))) (iAT (iN hp2 (iAT (iAT (iAT (iN hp1 (iAT (iAT iDT iDT) iTT)) iTT) iDT) iDT)) iDT)) 18 32 [(kf true (.g 17 0) Tb.ex (fun G => (G 17).ss 0)).a] (fun hg G => tright_ct Tb.et Tb.ek Tb.ex ((G 17).ss 0) (by decide) (by decide)),.andn g0 false (p2 && (decide (n16 = 1))) (decide (Tb.RtT Tb.et Tb.ek Tb.ex)) p3 hp3,.k (bv p3)] fun _ _ G9 => ?_
  intro S_ s_
  have e0 : p3 = true := by
    refine (iN hp3 (iAT (iAT (iN hp2 (iAT (iAT (iAT (iN hp1 (iAT (iAT iDT iDT) iTT)) iTT) iDT) iDT)) iDT) iDT)).2 ?_
    first | (simp only [e1, e2, e3, e4, e5, Tb.exR, hp6]; decide) | (simp [e1, e2, e3, e4, e5, Tb.exR])
  exact V.ret [0] [] [] [] [] [] (bv p3) (fun _ _ => by kernel_rfl) (fun _ _ => (Eq.trans (by kernel_rfl) (cong1 (fun (x0 : Bool) => (bv x0 : Value)) e0)).trans (by kernel_rfl)) (fun _ _ => trivial)
set_option maxRecDepth 10000 in
theorem few13_ct (t_Name t_Unit : ByteArray) (t_Rows : List DRow) (t_Rowss : SV) :
    Cp Try.prog 31 #[ag (DTable.mk t_Name t_Unit ⟨t_Rows, t_Rowss⟩)] [fs true t_Rows t_Rowss] (bv (decide ((t_Rows.length : Int) ≤ 110 ∧ (t_Name.size : Int) ≤ 40 ∧ (ByteArray.size t_Unit : Int) ≤ 40))) := by
  refine V.fn mo Try.func31 19 1 (by kernel_rfl) fun w H ε k0 => ?_
  obtain ⟨⟨kl1, -⟩, -⟩ : Lq t_Rows t_Rowss.v ∧ True := kn k0 (by kernel_rfl)
  clear k0
  refine V.g [.nb 0 0 (fun b => pp b 0) 55 (fun _ => ca (DTable.mk t_Name t_Unit ⟨t_Rows, t_Rowss⟩)),.kb false] fun _ _ G1 => ?_
  intro S_ s_
  refine nm ((decide ((t_Rows.length : Int) ≤ 110)) && (decide ((t_Name.size : Int) ≤ 40)) : Bool) fun p1 hp1 => ?_
  refine V.g [.k (pp ((G1 0).b) 2),.ld 0 2 false (fun _ => [t_Rowss.v]),.ln (kf false (.f 0) t_Rows (fun _ => t_Rowss)),.k (bv (decide ((t_Rows.length : Int) ≤ 110))),.k (bv (decide ((t_Rows.length : Int) ≤ 110))),.k (pp ((G1 0).b) 0),.ld 0 0 false (fun _ => [tv t_Name]),.k (iv (t_Name.size : Int)),.k (bv (decide ((t_Name.size : Int) ≤ 40))),.andn g0 false (decide ((t_Rows.length : Int) ≤ 110)) (decide ((t_Name.size : Int) ≤ 40)) p1 hp1,.k (bv p1),.k (pp ((G1 0).b) 1),.ld 0 1 false (fun _ => [tv t_Unit]),.k (iv (t_Unit.size : Int)),.k (bv (decide ((t_Unit.size : Int) ≤ 40))),.and g0 false p1 (decide ((t_Unit.size : Int) ≤ 40)),.k (bv (p1 && (decide ((t_Unit.size : Int) ≤ 40))))] fun _ _ G2 => ?_
  intro S_ s_
  have e0 : (p1 && (decide ((t_Unit.size : Int) ≤ 40))) = decide ((t_Rows.length : Int) ≤ 110 ∧ (t_Name.size : Int) ≤ 40 ∧ (ByteArray.size t_Unit : Int) ≤ 40) := by
    refine Bool.eq_iff_iff.2 (Iff.trans (iAT (iN hp1 (iAT iDT iDT)) iDT) (Iff.trans ?_ decide_eq_true_iff.symm))
    exact and_assoc
  exact V.ret [0] [] [] [] [] [] (bv (p1 && (decide ((t_Unit.size : Int) ≤ 40)))) (fun _ _ => by kernel_rfl) (fun _ _ => (Eq.trans (by kernel_rfl) (cong1 (fun (x0 : Bool) => (bv x0 : Value)) e0)).trans (by kernel_rfl)) (fun _ _ => trivial)

open Go Go.RowKit Go.WideShapes Go.ChangeShapes
section
variable {H : Type} {enc : TypeId × Value → H} {P : Program}
theorem law_post {f : Func} {s : ChangeSpec} {apart fresh handsOn again : Bool} {W W' : World} {args : Array Value} {v : Value} {ds gs : List (DataW H)} {before pa pv : List MemPlace}
    (hW : DataW.Whole enc P f.params.toList s.vars apart W args.toList ds gs before)
    (hres : ∀ (b : Nat) (sp : Nat → Bool) (hd : Bool), DataW.TrodAll enc P W' b sp hd f.resultTypes.toList (v.resultList f.resultTypes.size) (s.fn H (ds ++ gs)).results [])
    (hargs : ∀ sp : Nat → Bool, (∀ p ∈ before, sp p.block = true) → DataW.TrodAll enc P W' 0 sp true f.params.toList args.toList (s.fn H (ds ++ gs)).args pa)
    (hvars : ∀ sp : Nat → Bool, (∀ p ∈ before, sp p.block = true) → DataW.TrodVars enc P W' sp s.vars (s.fn H (ds ++ gs)).vars pv)
    (hps : before = pa ++ pv) (hb : Base [] W W')
    (hok : ∀ (j : Nat) (t : TypeId) (r : Value), f.resultTypes[j]? = some t → (v.resultList f.resultTypes.size)[j]? = some r → Value.okWide P W' .any 0 t r) :
    s.post enc P f apart fresh handsOn again W args v W' := by
  have low : ∀ p ∈ before, p.block < W.heap.size := fun p hp => hW.lt p hp
  have mark : ∀ p ∈ before, (fun b => decide (b < W.heap.size)) p.block = true := fun p hp => decide_eq_true (low p hp)
  have back := hb.below
  refine ⟨ds, gs, before, [], pa, pv, hW, hres _ _ _, hargs _ mark, hvars _ mark, World.keptBut_mono (fun p hp => ⟨hp, by rw [hps, List.mem_append] at hp; exact Or.inr hp⟩) (back.frame (· ∈ before)), fun _ => ?_⟩
  obtain ⟨_, _, _, _, _, hz, hn⟩ := hW
  refine ⟨hok, _, _, ([] ++ pa) ++ pv, ⟨[] ++ pa, pv, trodAll_append (hargs _ fun _ _ => rfl) (hres _ _ _), hvars _ fun _ _ => rfl, rfl, fun b off hp => ?_, fun ha => ?_⟩, fun p hp _ => ?_⟩
  · have hin : MemPlace.cell b off ∈ before := by rw [hps]; simpa using hp
    rw [back.frozen (low _ hin)]
    exact hz b off hin
  · have := hn ha
    rw [hps] at this; simpa using this
  · rw [hps]; simpa using hp
end

open Go Go.RowKit Go.WideShapes Go.ChangeShapes
theorem whole_agrees (w : World) : Agrees w (whole w) := fun _ _ h => h
theorem hcells_of {w : World} {a : Addr} {vs : List Value} (h0 : vs ≠ []) (h : ∀ (j : Nat) (v : Value), vs[j]? = some v → w.cell? (a.add j) = some v) : HCells (whole w) a vs := by
  obtain ⟨v0, vs', rfl⟩ := List.exists_cons_of_ne_nil h0
  have h1 := h 0 v0 rfl
  have e0 : a.add 0 = a := by simp [Addr.add]
  rw [e0] at h1
  have hs := World.cell?_spot h1
  unfold World.cell? at h1
  split at h1
  · rename_i c T fr hb
    refine ⟨hs, c, T, fr, hb, fun j v hj => ?_⟩
    have h2 := h j v hj
    rw [add_eq hs] at h2
    simpa [World.cell?, hb] using h2
  · cases h1
structure Opens (P : Program) (w : World) (e : TypeId) (α : Type) [Dat α] : Prop where
  cells : P.cellsOf e = Dat.size α
  full : 0 < Dat.size α
  data : ∀ {H : Type} {enc : TypeId × Value → H} {base : Nat} {sp : Nat → Bool} {held : Bool} {n : Nat} {cs : List Value} {x : DataW H × List MemPlace}, DataW.trod enc P w base sp held n e cs = some x → ∃ y : α, cs = Dat.cells y ∧ Dat.good (whole w) y
section
variable {H : Type} {enc : TypeId × Value → H} {P : Program} {w : World} {base : Nat} {sp : Nat → Bool} {held : Bool}
theorem cells_get {a : Addr} {n : Nat} {cs : List Value} (h : w.cells? base a n = some cs) : ∀ (j : Nat) (v : Value), cs[j]? = some v → w.cell? (a.add j) = some v := by
  intro j v hj
  unfold World.cells? at h
  split at h
  · have hl := mapM_some_length h
    have hlt := (List.getElem?_eq_some_iff.1 hj).1
    rw [hl, List.length_range] at hlt
    have := mapM_some_get h j j (by simp [hlt])
    rw [this, hj]
  · cases h
theorem opens_slice {α : Type} [Dat α] {t e : TypeId} (ht : P.underlying t = some (.slice e)) (o : Opens P w e α) {fuel : Nat} {cs : List Value} {x : DataW H × List MemPlace} (h : DataW.trod enc P w base sp held fuel t cs = some x) :
    ∃ (l : List α) (s : SV), cs = [s.v] ∧ RSl (whole w) l s.v := by
  rcases DataW.trod_slice ht h with ⟨rfl, _⟩ | ⟨a, len, cap, elems, rest, n, _, rfl, _, _, hl, hm, hlen, hel, _⟩
  · exact ⟨[], {}, rfl, RSl.nil⟩
  · have each : ∀ i, i < len → ∃ y : α, w.cells? base (a.add (i * Dat.size α)) (Dat.size α) = some (Dat.cells y) ∧ Dat.good (whole w) y := fun i hi => by
      have h1 := hel i hi
      rw [o.cells, List.getElem?_eq_getElem (by omega), Option.bind_eq_some_iff] at h1
      obtain ⟨cs', h2, h3⟩ := h1
      obtain ⟨y, rfl, hg⟩ := o.data h3
      exact ⟨y, h2, hg⟩
    have ⟨f, hf⟩ : ∃ f : Nat → α, ∀ i, i < len → w.cells? base (a.add (i * Dat.size α)) (Dat.size α) = some (Dat.cells (f i)) ∧ Dat.good (whole w) (f i) :=
      ⟨fun i => if hi : i < len then Classical.choose (each i hi) else default, fun i hi => by simp only [dif_pos hi]; exact Classical.choose_spec (each i hi)⟩
    refine ⟨(List.range len).map f, ⟨some a, len, cap⟩, rfl, ⟨⟨?_, ?_, some a, cap, ?_, ?_, hm, ?_, ?_⟩, ?_⟩⟩
    · intro r hr; simp [rows] at hr; obtain ⟨i, _, rfl⟩ := hr; exact Dat.len _
    · intro r hr; simp [rows] at hr; obtain ⟨i, hi, rfl⟩ := hr; exact Dat.one _ _ (hf i hi).2
    · simp [SV.v]
    · simpa using hl
    · intro h; cases h
    · intro b hb hne
      cases hb
      have hrl : ∀ r ∈ rows ((List.range len).map f), r.length = Dat.size α := by intro r hr; simp [rows] at hr; obtain ⟨i, _, rfl⟩ := hr; exact Dat.len _
      have h0 : 0 < len := by
        rcases Nat.eq_zero_or_pos len with h | h
        · subst h; simp [rows] at hne
        · exact h
      have hfl := flatten_len hrl
      simp only [rows_length, List.length_map, List.length_range] at hfl
      have hsz := o.full
      have hspot : a.spot = none := by
        have h1 := cells_get (hf 0 h0).1
        have h2 : (Dat.cells (f 0)).length = Dat.size α := Dat.len _
        have h3 := h1 0 _ (List.getElem?_eq_getElem (by omega))
        have := World.cell?_spot h3
        simpa [Addr.add] using this
      refine hcells_of (fun e => ?_) fun j v hj => ?_
      · rw [e] at hfl
        have := Nat.mul_pos h0 hsz
        simp at hfl; omega
      · have hj2 := (List.getElem?_eq_some_iff.1 hj).1
        rw [hfl] at hj2
        have hk : j / Dat.size α < len := Nat.div_lt_of_lt_mul (by rwa [Nat.mul_comm])
        have hr : j % Dat.size α < Dat.size α := Nat.mod_lt _ hsz
        have h2 : (Dat.cells (f (j / Dat.size α))).length = Dat.size α := Dat.len _
        have e1 : (rows ((List.range len).map f))[j / Dat.size α]? = some (Dat.cells (f (j / Dat.size α))) := by simp [rows, hk]
        have e2 := List.getElem?_eq_getElem (l := Dat.cells (f (j / Dat.size α))) (i := j % Dat.size α) (by omega)
        have e3 := flatten_get hrl _ _ _ _ e1 e2
        have ej : j / Dat.size α * Dat.size α + j % Dat.size α = j := by rw [Nat.mul_comm]; exact Nat.div_add_mod j _
        rw [ej, hj] at e3
        have h4 := cells_get (hf _ hk).1 _ _ e2
        rw [← Option.some.inj e3] at h4
        rw [← h4, add_eq hspot, add_eq (a := a.add _) (by rw [add_eq hspot]), add_eq hspot]
        simp only [Nat.add_assoc, ej]
    · intro y hy; simp at hy; obtain ⟨i, hi, rfl⟩ := hy; exact (hf i hi).2
theorem Opens.field {α : Type} [Dat α] {t : TypeId} {fs : Array Field} (ht : P.underlying t = some (.struct fs)) {fuel : Nat} {cs : List Value} {x : DataW H × List MemPlace} (h : DataW.trod enc P w base sp held fuel t cs = some x)
    (i : Nat) {f : Field} (hi : fs[i]? = some f) (o : Opens P w f.type α) : ∃ y : α, (cs.drop f.offset).take (Dat.size α) = Dat.cells y ∧ Dat.good (whole w) y := by
  obtain ⟨xs, n, _, _, _, hx, hf⟩ := DataW.trod_struct ht h
  have h1 := hf i f hi
  have hlt := (Array.getElem?_eq_some_iff.1 hi).1
  rw [List.getElem?_eq_getElem (by omega), o.cells] at h1
  exact o.data h1
theorem struct_len {t : TypeId} {fs : Array Field} (ht : P.underlying t = some (.struct fs)) {fuel : Nat} {cs : List Value} {x : DataW H × List MemPlace} (h : DataW.trod enc P w base sp held fuel t cs = some x) : cs.length = P.cellsOf t := by
  obtain ⟨xs, n, _, _, hl, _⟩ := DataW.trod_struct ht h
  exact hl
theorem arg_int {r : Reach} {b0 : Nat} {t : TypeId} {k : IntKind} (ht : P.underlying t = some (.int k)) {v : Value} {d : DataW H} {ps : List MemPlace} (hv : Value.okWide P w r b0 t v) (h : DataW.Trod enc P w base sp held t v d ps) : ∃ n, v = .int k n ∧ (Lit.int k n).wf = true := by
  obtain ⟨n, hn⟩ := h
  obtain ⟨m, rfl⟩ := okWide_int ht hv
  obtain ⟨n, h1, _, h2⟩ := DataW.trod_int ht hn
  cases h1
  exact ⟨_, rfl, h2⟩
theorem keep_all (hl : laidOutB P = true) {W W' : World} (hb : Below W.heap.size W W') : ∀ {ts : List TypeId} {vs : List Value} {ds : List (DataW H)} {ps : List MemPlace}, (ts.all fun t => P.readableRec t && decide (t < P.types.size)) = true →
    DataW.TrodAll enc P W 0 (fun _ => true) true ts vs ds ps → (∀ x ∈ ps, x.block < W.heap.size) → ∀ sp' : Nat → Bool, (∀ x ∈ ps, sp' x.block = true) → DataW.TrodAll enc P W' 0 sp' true ts vs ds ps
  | [], [], [], _, _, h, _, _, _ => h
  | t :: ts, _ :: _, _ :: _, _, ht, ⟨p, q, h1, h2, e⟩, hlt, sp', hs => by
    simp only [List.all_cons, Bool.and_eq_true, decide_eq_true_eq] at ht
    refine ⟨p, q, WideElems.Trod_stays hl ht.1.1 ht.1.2 h1 (fun x hx => hb.same (hlt x (by rw [e]; exact List.mem_append_left _ hx))) (fun x hx => hs x (by rw [e]; exact List.mem_append_left _ hx)), keep_all hl hb (by simpa using ht.2) h2 (fun x hx => hlt x (by rw [e]; exact List.mem_append_right _ hx)) sp' (fun x hx => hs x (by rw [e]; exact List.mem_append_right _ hx)), e⟩
theorem opens_fat {α : Type} [Dat α] {k e : TypeId} (ht : P.underlying k = some (.slice e)) (hc : P.cellsOf k = 1) (o : Opens P w e α) : Opens P w k (Fat α) :=
  ⟨hc, by show 0 < 1; decide, fun h => by
    obtain ⟨l, s, rfl, hr⟩ := opens_slice ht o h
    exact ⟨⟨l, s⟩, rfl, hr⟩⟩
theorem Cp.law {P : Program} {f : FuncId} {args : Array Value} {F : List FP} {v : Value} (h : Cp P f args F v) (W : World) (hF : conjL (F.map fun q => q.p (whole W))) : Calls P f args W fun e w' => e = .returned v ∧ Base [] W w' := by
  refine (h W (whole W) (fun _ => none) (whole_agrees W) (fun q hq => conjL_mem hF _ (List.mem_map_of_mem hq)) ⟨Base.refl _ _, fun K hK => ?_, fun k b o hk => ?_, fun k l b o o' hk _ => ?_⟩ fun r x hx => ?_).mono ?_
  · have : K = whole W := by simpa using hK
    subst this; exact whole_agrees W
  · simp [ents] at hk
  · simp [ents] at hk
  · simp at hx
  · rintro e w' ⟨g, C⟩
    exact ⟨C.ret, C.base⟩
theorem opens_int {k : TypeId} (ht : P.underlying k = some (.int .i64)) (hc : P.cellsOf k = 1) : Opens P w k Int :=
  ⟨hc, by decide, fun h => by obtain ⟨n, rfl, _, _⟩ := DataW.trod_int ht h; exact ⟨n, rfl, trivial⟩⟩
theorem opens_string {k : TypeId} (ht : P.underlying k = some .string) (hc : P.cellsOf k = 1) : Opens P w k ByteArray :=
  ⟨hc, by decide, fun h => by obtain ⟨s, rfl, _, _⟩ := DataW.trod_string ht h; exact ⟨s, rfl, trivial⟩⟩
end

open Go Go.RowKit Go.WideShapes Go.ChangeShapes
structure Six where
  a : Int := 0
  b : Int := 0
  c : Int := 0
  d : Int := 0
  e : Int := 0
  f : Int := 0
instance : Dat Six where
  default := {}
  size := 6
  cells x := [.int .i64 x.a, .int .i64 x.b, .int .i64 x.c, .int .i64 x.d, .int .i64 x.e, .int .i64 x.f]
  good H x := True
  len _ := rfl
  one H x h u hu := by
    simp only [List.mem_cons, List.not_mem_nil, or_false] at hu
    rcases hu with rfl | rfl | rfl | rfl | rfl | rfl <;> rfl
  mono _ _ _ _ h := h
  zero _ := trivial
section
variable {H : Type} {enc : TypeId × Value → H} {P : Program} {w : World} {base : Nat} {sp : Nat → Bool} {held : Bool}
theorem arg_agg {α : Type} [Dat α] {r : Reach} {b0 : Nat} {t : TypeId} {fs : Array Field} (ht : P.underlying t = some (.struct fs)) (o : Opens P w t α)
    {v : Value} {d : DataW H} {ps : List MemPlace} (hv : Value.okWide P w r b0 t v) (h : DataW.Trod enc P w base sp held t v d ps) :
    ∃ x : α, v = .agg (Dat.cells x).toArray ∧ Dat.good (whole w) x := by
  obtain ⟨n, hn⟩ := h
  obtain ⟨cs, rfl, hl⟩ := okWide_struct ht hv
  obtain ⟨x, h1, h2⟩ := o.data hn
  refine ⟨x, ?_, h2⟩
  have h1' : cs.toList = Dat.cells x := h1
  rw [← h1']
end

open Go Go.Proofs
theorem opens_60 (w : World) : Opens Try.prog w 60 DRow := ⟨by kernel_rfl, by decide, fun {_ _ _ _ _ _ cs _} h => by
  have hl : cs.length = 2 := (struct_len Try.underlying60 h).trans (by kernel_rfl)
  obtain ⟨y0, e0, g0⟩ := Opens.field Try.underlying60 h 0 rfl (Kb.opens_int Try.underlying3 (by kernel_rfl))
  obtain ⟨y1, e1, g1⟩ := Opens.field Try.underlying60 h 1 rfl (Kb.opens_int Try.underlying3 (by kernel_rfl))
  obtain ⟨c0, c1, rfl⟩ : ∃ c0 c1, cs = [c0, c1] := by
    rcases cs with _ | ⟨c0, _ | ⟨c1, _ | ⟨_, _⟩⟩⟩
    all_goals first | exact ⟨_, _, rfl⟩ | (simp at hl; done) | (simp at hl; omega)
  simp [Dat.cells, Dat.size] at e0 e1
  refine ⟨⟨y0, y1⟩, ?_, trivial⟩
  simp [Dat.cells, e0, e1]⟩
theorem opens_55 (w : World) : Opens Try.prog w 55 DTable := ⟨by kernel_rfl, by decide, fun {_ _ _ _ _ _ cs _} h => by
  have hl : cs.length = 3 := (struct_len Try.underlying55 h).trans (by kernel_rfl)
  obtain ⟨y0, e0, g0⟩ := Opens.field Try.underlying55 h 0 rfl (Kb.opens_string Try.underlying9 (by kernel_rfl))
  obtain ⟨y1, e1, g1⟩ := Opens.field Try.underlying55 h 1 rfl (Kb.opens_string Try.underlying9 (by kernel_rfl))
  obtain ⟨y2, e2, g2⟩ := Opens.field Try.underlying55 h 2 rfl (Kb.opens_fat Try.underlying53 (by kernel_rfl) (Kb.opens_60 w))
  obtain ⟨c0, c1, c2, rfl⟩ : ∃ c0 c1 c2, cs = [c0, c1, c2] := by
    rcases cs with _ | ⟨c0, _ | ⟨c1, _ | ⟨c2, _ | ⟨_, _⟩⟩⟩⟩
    all_goals first | exact ⟨_, _, _, rfl⟩ | (simp at hl; done) | (simp at hl; omega)
  simp [Dat.cells, Dat.size] at e0 e1 e2
  refine ⟨⟨y0, y1, y2⟩, ?_, g2⟩
  simp [Dat.cells, e0, e1, e2]⟩
end Kb
