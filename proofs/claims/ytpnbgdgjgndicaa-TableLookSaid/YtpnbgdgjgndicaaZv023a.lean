/- Texts for the claim, put together: the calculus of regions, its rules, and contracts of the functions that the law reaches. -/
import Derived.Test.YtpnbgdgjgndicaaZvwg
import Derived.Test.YtpnbgdgjgndicaaChecked
set_option linter.unusedVariables false
set_option linter.unusedSectionVars false
set_option linter.unusedSimpArgs false
namespace Kb
open Go Go.Proofs
set_option maxRecDepth 10000 in
theorem few5_ct (f_P_Sign : Int) (f_P_Digits : List Int) (f_P_Digitss : SV) (f_Q_Sign : Int) (f_Q_Digits : List Int) (f_Q_Digitss : SV) (n : Int) :
    Cp Try.prog 22 #[ag (DFrac.mk (DBig.mk f_P_Sign ⟨f_P_Digits, f_P_Digitss⟩) (DBig.mk f_Q_Sign ⟨f_Q_Digits, f_Q_Digitss⟩)), iv n] [fs true f_P_Digits f_P_Digitss, fs true f_Q_Digits f_Q_Digitss] (bv (decide ((f_P_Digits.length : Int) ≤ n ∧ (f_Q_Digits.length : Int) ≤ n))) := by
  refine V.fn mo Try.func22 19 1 (by kernel_rfl) fun w H ε k0 => ?_
  obtain ⟨⟨kl1, -⟩, ⟨kl2, -⟩, -⟩ : Lq f_P_Digits f_P_Digitss.v ∧ Lq f_Q_Digits f_Q_Digitss.v ∧ True := kn k0 (by kernel_rfl)
  clear k0
  refine V.g [.nb 0 0 (fun b => pp b 0) 30 (fun _ => ca (DFrac.mk (DBig.mk f_P_Sign ⟨f_P_Digits, f_P_Digitss⟩) (DBig.mk f_Q_Sign ⟨f_Q_Digits, f_Q_Digitss⟩))),.kb false] fun _ _ G1 => ?_
  intro S_ s_
  refine nm ((decide ((f_P_Digits.length : Int) ≤ n)) && (decide ((f_Q_Digits.length : Int) ≤ n)) : Bool) fun p1 hp1 => ?_
  refine V.g [.k (pp ((G1 0).b) 0),.k (pp ((G1 0).b) 1),.ld 0 1 false (fun _ => [f_P_Digitss.v]),.ln (kf false (.f 0) f_P_Digits (fun _ => f_P_Digitss)),.k (iv n),.k (bv (decide ((f_P_Digits.length : Int) ≤ n))),.k (bv (decide ((f_P_Digits.length : Int) ≤ n))),.k (pp ((G1 0).b) 2),.k (pp ((G1 0).b) 3),.ld 0 3 false (fun _ => [f_Q_Digitss.v]),.ln (kf false (.f 1) f_Q_Digits (fun _ => f_Q_Digitss)),.k (iv n),.k (bv (decide ((f_Q_Digits.length : Int) ≤ n))),.andn g0 false (decide ((f_P_Digits.length : Int) ≤ n)) (decide ((f_Q_Digits.length : Int) ≤ n)) p1 hp1,.k (bv p1)] fun _ _ G2 => ?_
  intro S_ s_
  have e0 : p1 = decide ((f_P_Digits.length : Int) ≤ n ∧ (f_Q_Digits.length : Int) ≤ n) := by
    refine Bool.eq_iff_iff.2 (Iff.trans (iN hp1 (iAT iDT iDT)) (Iff.trans ?_ decide_eq_true_iff.symm))
    exact Iff.rfl
  exact V.ret [0] [] [] [] [] [] (bv p1) (fun _ _ => by kernel_rfl) (fun _ _ => (Eq.trans (by kernel_rfl) (cong1 (fun (x0 : Bool) => (bv x0 : Value)) e0)).trans (by kernel_rfl)) (fun _ _ => trivial)

open Go Go.Proofs
theorem opens_28 (w : World) : Opens Try.prog w 28 DBig := ⟨by kernel_rfl, by decide, fun {_ _ _ _ _ _ cs _} h => by
  have hl : cs.length = 2 := (struct_len Try.underlying28 h).trans (by kernel_rfl)
  obtain ⟨y0, e0, g0⟩ := Opens.field Try.underlying28 h 0 rfl (Kb.opens_int Try.underlying3 (by kernel_rfl))
  obtain ⟨y1, e1, g1⟩ := Opens.field Try.underlying28 h 1 rfl (Kb.opens_fat Try.underlying26 (by kernel_rfl) (Kb.opens_int Try.underlying3 (by kernel_rfl)))
  obtain ⟨c0, c1, rfl⟩ : ∃ c0 c1, cs = [c0, c1] := by
    rcases cs with _ | ⟨c0, _ | ⟨c1, _ | ⟨_, _⟩⟩⟩
    all_goals first | exact ⟨_, _, rfl⟩ | (simp at hl; done) | (simp at hl; omega)
  simp [Dat.cells, Dat.size] at e0 e1
  refine ⟨⟨y0, y1⟩, ?_, g1⟩
  simp [Dat.cells, e0, e1]⟩
theorem opens_30 (w : World) : Opens Try.prog w 30 DFrac := ⟨by kernel_rfl, by decide, fun {_ _ _ _ _ _ cs _} h => by
  have hl : cs.length = 4 := (struct_len Try.underlying30 h).trans (by kernel_rfl)
  obtain ⟨y0, e0, g0⟩ := Opens.field Try.underlying30 h 0 rfl (Kb.opens_28 w)
  obtain ⟨y1, e1, g1⟩ := Opens.field Try.underlying30 h 1 rfl (Kb.opens_28 w)
  obtain ⟨c0, c1, c2, c3, rfl⟩ : ∃ c0 c1 c2 c3, cs = [c0, c1, c2, c3] := by
    rcases cs with _ | ⟨c0, _ | ⟨c1, _ | ⟨c2, _ | ⟨c3, _ | ⟨_, _⟩⟩⟩⟩⟩
    all_goals first | exact ⟨_, _, _, _, rfl⟩ | (simp at hl; done) | (simp at hl; omega)
  simp [Dat.cells, Dat.size] at e0 e1
  refine ⟨⟨y0, y1⟩, ?_, ⟨g0, g1⟩⟩
  simp [Dat.cells, e0, e1]⟩
end Kb
