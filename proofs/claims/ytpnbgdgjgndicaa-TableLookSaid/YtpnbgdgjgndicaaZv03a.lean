/- Texts for the claim, put together: the calculus of regions, its rules, and contracts of the functions that the law reaches. -/
import Derived.Test.YtpnbgdgjgndicaaZvwg
import Derived.Test.YtpnbgdgjgndicaaZv013a
import Derived.Test.YtpnbgdgjgndicaaZv023a
set_option linter.unusedVariables false
set_option linter.unusedSectionVars false
set_option linter.unusedSimpArgs false
namespace Kb
open Go
namespace Tb
open Fr Bg
theorem cmpQ_neg {a b : Rat} : cmpQ a b < 0 ↔ a < b := by
  unfold cmpQ
  by_cases h : a < b
  · rw [if_pos h]; exact ⟨fun _ => h, fun _ => by omega⟩
  · rw [if_neg h]
    refine ⟨fun k => ?_, fun k => (h k).elim⟩
    split at k <;> omega
end Tb

open Go Go.Proofs
set_option maxRecDepth 10000 in
theorem rrow_ct (t_Name t_Unit : ByteArray) (t_Rows : List DRow) (t_Rowss : SV) (i : Int) :
    Cp Try.prog 28 #[ag (DTable.mk t_Name t_Unit ⟨t_Rows, t_Rowss⟩), iv i] [fs true t_Rows t_Rowss] (bv (decide (((((t_Rows.length : Int) ≤ 110 ∧ (t_Name.size : Int) ≤ 40 ∧ (ByteArray.size t_Unit : Int) ≤ 40) ∧ Tb.RtT t_Name t_Unit t_Rows) ∧ 0 ≤ i) ∧ i < (t_Rows.length : Int)))) := by
  refine V.fn mo Try.func28 22 1 (by kernel_rfl) fun w H ε k0 => ?_
  obtain ⟨⟨kl1, -⟩, -⟩ : Lq t_Rows t_Rowss.v ∧ True := kn k0 (by kernel_rfl)
  clear k0
  refine V.g [.nb 0 0 (fun b => pp b 0) 55 (fun _ => ca (DTable.mk t_Name t_Unit ⟨t_Rows, t_Rowss⟩)),.kb false] fun _ _ G1 => ?_
  intro S_ s_
  refine nm ((decide ((t_Rows.length : Int) ≤ 110 ∧ (t_Name.size : Int) ≤ 40 ∧ (ByteArray.size t_Unit : Int) ≤ 40)) && (decide (Tb.RtT t_Name t_Unit t_Rows)) : Bool) fun p1 hp1 => ?_
  refine nm ((p1 && (decide (0 ≤ i))) && (decide (i < (t_Rows.length : Int))) : Bool) fun p2 hp2 => ?_
  refine V.g [.ld 0 0 true (fun _ => Dat.cells (DTable.mk t_Name t_Unit ⟨t_Rows, t_Rowss⟩)),.cp g0 1 31 [(kf false (.f 0) t_Rows (fun _ => t_Rowss)).a] (fun _ G => few13_ct t_Name t_Unit t_Rows t_Rowss),.k (bv (decide ((t_Rows.length : Int) ≤ 110 ∧ (t_Name.size : Int) ≤ 40 ∧ (ByteArray.size t_Unit : Int) ≤ 40))),.ld 0 0 true (fun _ => Dat.cells (DTable.mk t_Name t_Unit ⟨t_Rows, t_Rowss⟩)),.cp (gT (b := decide ((t_Rows.length : Int) ≤ 110 ∧ (t_Name.size : Int) ≤ 40 ∧ (ByteArray.size t_Unit : Int) ≤ 40)) iDT) 4 32 [(kf false (.f 0) t_Rows (fun _ => t_Rowss)).a] (fun hg G => tright_ct t_Name t_Unit t_Rows t_Rowss (by omega) (by omega)),.andn g0 false (decide ((t_Rows.length : Int) ≤ 110 ∧ (t_Name.size : Int) ≤ 40 ∧ (ByteArray.size t_Unit : Int) ≤ 40)) (decide (Tb.RtT t_Name t_Unit t_Rows)) p1 hp1,.k (bv p1),.k (iv i),.k (bv (decide (0 ≤ i))),.and g0 false p1 (decide (0 ≤ i)),.k (bv (p1 && (decide (0 ≤ i)))),.k (iv i),.k (pp ((G1 0).b) 2),.ld 0 2 false (fun _ => [t_Rowss.v]),.ln (kf false (.f 0) t_Rows (fun _ => t_Rowss)),.k (bv (decide (i < (t_Rows.length : Int)))),.andn g0 false (p1 && (decide (0 ≤ i))) (decide (i < (t_Rows.length : Int))) p2 hp2,.k (bv p2)] fun _ _ G2 => ?_
  intro S_ s_
  have e0 : p2 = decide (((((t_Rows.length : Int) ≤ 110 ∧ (t_Name.size : Int) ≤ 40 ∧ (ByteArray.size t_Unit : Int) ≤ 40) ∧ Tb.RtT t_Name t_Unit t_Rows) ∧ 0 ≤ i) ∧ i < (t_Rows.length : Int)) := by
    refine Bool.eq_iff_iff.2 (Iff.trans (iN hp2 (iAT (iAT (iN hp1 (iAT iDT iDT)) iDT) iDT)) (Iff.trans ?_ decide_eq_true_iff.symm))
    exact Iff.rfl
  exact V.ret [0] [] [] [] [] [] (bv p2) (fun _ _ => by kernel_rfl) (fun _ _ => (Eq.trans (by kernel_rfl) (cong1 (fun (x0 : Bool) => (bv x0 : Value)) e0)).trans (by kernel_rfl)) (fun _ _ => trivial)
end Kb
