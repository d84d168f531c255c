/- Texts for the claim, put together: the calculus of regions, its rules, and contracts of the functions that the law reaches. -/
import Derived.Test.YtpnbgdgjgndicaaZuwf
import Derived.Laws.Cover3
import Derived.ChangeKeysEq
import Derived.Laws.StructEq
set_option linter.unusedVariables false
set_option linter.unusedSectionVars false
set_option linter.unusedSimpArgs false
namespace Kb
open Go
theorem iFT : false = true ↔ False := by simp
theorem iFF : false = false ↔ True := by simp
namespace Hint
variable {P : Program}
def aeq (neq : Bool) (t : TypeId) (xs ys : Array Value) (b : Bool) (he : ∀ w, (Op.equal t (.agg xs) (.agg ys)).run P w = .ok b w) : Hint P where
  d := { val := fun _ => .bool (bif neq then !b else b) }
  τ := Option (Bool × TypeId × Value × Value) × Bool × Value
  lhs c i G _ _ := (c.R.bir G i, P.eqGuardType P.depth t, c.R.val i (RC.put G i {}))
  rhs _ _ _ _ _ := (some (neq, t, .agg xs, .agg ys), false, .bool (bif neq then !b else b))
  sound c i _ _ hi h := fun o ho G w hs => by
    have h0 := h G {} w
    simp only [Prod.mk.injEq] at h0
    obtain ⟨e1, e2, e3⟩ := h0
    refine Cx.still hi rfl (fun _ => ⟨rfl, rfl⟩) ho ?_ e3
    unfold RC.bir at e1
    rw [ho] at e1
    obtain ⟨dst, op, type, pos, after, guard⟩ := o
    have he' : ∀ w, (Op.equalIn 10000 t (.agg xs) (.agg ys)).run P w = .ok b w := he
    simp only [Option.map_some] at e1
    split at e1
    · rename_i t' x y ty heq
      simp only [Option.some.injEq] at heq
      subst heq
      simp only [Option.some.injEq, Prod.mk.injEq] at e1
      obtain ⟨rfl, rfl, hx, hy⟩ := e1
      simp [execOp, hx, hy, run_eqGuard_agg w .eql t' x y xs ys e2, run_eql_struct, he']
    · rename_i t' x y ty heq
      simp only [Option.some.injEq] at heq
      subst heq
      simp only [Option.some.injEq, Prod.mk.injEq] at e1
      obtain ⟨rfl, rfl, hx, hy⟩ := e1
      simp [execOp, hx, hy, run_eqGuard_agg w .neq t' x y xs ys e2, run_neq_struct, he']
    · cases e1
end Hint

open Go Go.Proofs
theorem dim_equal (w : World) (a0 a1 a2 a3 a4 a5 b0 b1 b2 b3 b4 b5 : Int) : (Op.equal 23 (.agg #[iv a0, iv a1, iv a2, iv a3, iv a4, iv a5]) (.agg #[iv b0, iv b1, iv b2, iv b3, iv b4, iv b5])).run Try.prog w = .ok (decide (a0 = b0 ∧ a1 = b1 ∧ a2 = b2 ∧ a3 = b3 ∧ a4 = b4 ∧ a5 = b5)) w := by
  have hu : Try.prog.underlying 23 = some (.array 6 3) := by kernel_rfl
  have u3 : Try.prog.underlying 3 = some (.int .i64) := by kernel_rfl
  obtain ⟨i, hi⟩ : ∃ i, Try.prog.info? 3 = some i := info_of_underlying u3
  have hc : Try.prog.cellsOf 3 = 1 := by kernel_rfl
  have p3 : ∀ (xs : Array Value) (o : Nat) (v : Value), xs[o]? = some v → (part 3 xs o).run Try.prog w = .ok v w := fun xs o v hv => by
    have h : (isAgg 3).run Try.prog w = .ok false w := by rw [run_isAgg (by kernel_rfl), show aggB Try.prog 3 = false from by kernel_rfl]
    simp [part, h, hv]
  show (Op.equalIn (9999 + 1) 23 _ _).run Try.prog w = _
  rw [run_equalIn_array w 9999 _ _ hu hi, hc]
  have ei := fun a b => run_equalIn_int (P := Try.prog) w 9998 3 .i64 .i64 a b u3
  have q0 : ∀ c0 c1 c2 c3 c4 c5 : Value, (part 3 #[c0, c1, c2, c3, c4, c5] 0).run Try.prog w = .ok c0 w := fun _ _ _ _ _ _ => p3 _ 0 _ rfl
  have q1 : ∀ c0 c1 c2 c3 c4 c5 : Value, (part 3 #[c0, c1, c2, c3, c4, c5] 1).run Try.prog w = .ok c1 w := fun _ _ _ _ _ _ => p3 _ 1 _ rfl
  have q2 : ∀ c0 c1 c2 c3 c4 c5 : Value, (part 3 #[c0, c1, c2, c3, c4, c5] 2).run Try.prog w = .ok c2 w := fun _ _ _ _ _ _ => p3 _ 2 _ rfl
  have q3 : ∀ c0 c1 c2 c3 c4 c5 : Value, (part 3 #[c0, c1, c2, c3, c4, c5] 3).run Try.prog w = .ok c3 w := fun _ _ _ _ _ _ => p3 _ 3 _ rfl
  have q4 : ∀ c0 c1 c2 c3 c4 c5 : Value, (part 3 #[c0, c1, c2, c3, c4, c5] 4).run Try.prog w = .ok c4 w := fun _ _ _ _ _ _ => p3 _ 4 _ rfl
  have q5 : ∀ c0 c1 c2 c3 c4 c5 : Value, (part 3 #[c0, c1, c2, c3, c4, c5] 5).run Try.prog w = .ok c5 w := fun _ _ _ _ _ _ => p3 _ 5 _ rfl
  rw [show List.range 6 = [0, 1, 2, 3, 4, 5] from rfl]
  simp only [Op.eqItems]
  simp [q0, q1, q2, q3, q4, q5, ei]
  by_cases h0 : a0 = b0 <;> by_cases h1 : a1 = b1 <;> by_cases h2 : a2 = b2 <;> by_cases h3 : a3 = b3 <;> by_cases h4 : a4 = b4 <;> by_cases h5 : a5 = b5 <;> simp [h0, h1, h2, h3, h4, h5]

open Go Go.Proofs
set_option maxRecDepth 10000 in
theorem same9_ct (a_Dim0 a_Dim1 a_Dim2 a_Dim3 a_Dim4 a_Dim5 a_Factor_P_Sign : Int) (a_Factor_P_Digits : List Int) (a_Factor_P_Digitss : SV) (a_Factor_Q_Sign : Int) (a_Factor_Q_Digits : List Int) (a_Factor_Q_Digitss : SV) (b_Dim0 b_Dim1 b_Dim2 b_Dim3 b_Dim4 b_Dim5 b_Factor_P_Sign : Int) (b_Factor_P_Digits : List Int) (b_Factor_P_Digitss : SV) (b_Factor_Q_Sign : Int) (b_Factor_Q_Digits : List Int) (b_Factor_Q_Digitss : SV) :
    Cp Try.prog 19 #[.agg #[iv a_Dim0, iv a_Dim1, iv a_Dim2, iv a_Dim3, iv a_Dim4, iv a_Dim5, iv a_Factor_P_Sign, a_Factor_P_Digitss.v, iv a_Factor_Q_Sign, a_Factor_Q_Digitss.v], .agg #[iv b_Dim0, iv b_Dim1, iv b_Dim2, iv b_Dim3, iv b_Dim4, iv b_Dim5, iv b_Factor_P_Sign, b_Factor_P_Digitss.v, iv b_Factor_Q_Sign, b_Factor_Q_Digitss.v]] [fs true a_Factor_P_Digits a_Factor_P_Digitss, fs true a_Factor_Q_Digits a_Factor_Q_Digitss, fs true b_Factor_P_Digits b_Factor_P_Digitss, fs true b_Factor_Q_Digits b_Factor_Q_Digitss] (bv (decide ((a_Dim0 = b_Dim0 ∧ a_Dim1 = b_Dim1 ∧ a_Dim2 = b_Dim2 ∧ a_Dim3 = b_Dim3 ∧ a_Dim4 = b_Dim4 ∧ a_Dim5 = b_Dim5) ∧ a_Factor_P_Sign = b_Factor_P_Sign ∧ a_Factor_P_Digits = b_Factor_P_Digits ∧ a_Factor_Q_Sign = b_Factor_Q_Sign ∧ a_Factor_Q_Digits = b_Factor_Q_Digits))) := by
  refine V.fn mo Try.func19 17 2 (by kernel_rfl) fun w H ε k0 => ?_
  obtain ⟨⟨kl1, -⟩, ⟨kl2, -⟩, ⟨kl3, -⟩, ⟨kl4, -⟩, -⟩ : Lq a_Factor_P_Digits a_Factor_P_Digitss.v ∧ Lq a_Factor_Q_Digits a_Factor_Q_Digitss.v ∧ Lq b_Factor_P_Digits b_Factor_P_Digitss.v ∧ Lq b_Factor_Q_Digits b_Factor_Q_Digitss.v ∧ True := kn k0 (by kernel_rfl)
  clear k0
  refine V.g [.nb 0 0 (fun b => pp b 0) 32 (fun _ => #[iv a_Dim0, iv a_Dim1, iv a_Dim2, iv a_Dim3, iv a_Dim4, iv a_Dim5, iv a_Factor_P_Sign, a_Factor_P_Digitss.v, iv a_Factor_Q_Sign, a_Factor_Q_Digitss.v]),.nb 1 1 (fun b => pp b 0) 32 (fun _ => #[iv b_Dim0, iv b_Dim1, iv b_Dim2, iv b_Dim3, iv b_Dim4, iv b_Dim5, iv b_Factor_P_Sign, b_Factor_P_Digitss.v, iv b_Factor_Q_Sign, b_Factor_Q_Digitss.v]),.kb false] fun _ _ G1 => ?_
  intro S_ s_
  refine nm ((decide (a_Dim0 = b_Dim0 ∧ a_Dim1 = b_Dim1 ∧ a_Dim2 = b_Dim2 ∧ a_Dim3 = b_Dim3 ∧ a_Dim4 = b_Dim4 ∧ a_Dim5 = b_Dim5)) && (decide (a_Factor_P_Sign = b_Factor_P_Sign ∧ a_Factor_P_Digits = b_Factor_P_Digits ∧ a_Factor_Q_Sign = b_Factor_Q_Sign ∧ a_Factor_Q_Digits = b_Factor_Q_Digits)) : Bool) fun p1 hp1 => ?_
  refine V.g [.k (pp ((G1 0).b) 0),.ld 0 0 true (fun _ => [iv a_Dim0, iv a_Dim1, iv a_Dim2, iv a_Dim3, iv a_Dim4, iv a_Dim5]),.k (pp ((G1 1).b) 0),.ld 1 0 true (fun _ => [iv b_Dim0, iv b_Dim1, iv b_Dim2, iv b_Dim3, iv b_Dim4, iv b_Dim5]),.aeq false 23 #[iv a_Dim0, iv a_Dim1, iv a_Dim2, iv a_Dim3, iv a_Dim4, iv a_Dim5] #[iv b_Dim0, iv b_Dim1, iv b_Dim2, iv b_Dim3, iv b_Dim4, iv b_Dim5] _ fun w => dim_equal w a_Dim0 a_Dim1 a_Dim2 a_Dim3 a_Dim4 a_Dim5 b_Dim0 b_Dim1 b_Dim2 b_Dim3 b_Dim4 b_Dim5,.k (bv (decide (a_Dim0 = b_Dim0 ∧ a_Dim1 = b_Dim1 ∧ a_Dim2 = b_Dim2 ∧ a_Dim3 = b_Dim3 ∧ a_Dim4 = b_Dim4 ∧ a_Dim5 = b_Dim5))),.k (pp ((G1 0).b) 6),.ld 0 6 true (fun _ => Dat.cells (DFrac.mk (DBig.mk a_Factor_P_Sign ⟨a_Factor_P_Digits, a_Factor_P_Digitss⟩) (DBig.mk a_Factor_Q_Sign ⟨a_Factor_Q_Digits, a_Factor_Q_Digitss⟩))),.k (pp ((G1 1).b) 6),.ld 1 6 true (fun _ => Dat.cells (DFrac.mk (DBig.mk b_Factor_P_Sign ⟨b_Factor_P_Digits, b_Factor_P_Digitss⟩) (DBig.mk b_Factor_Q_Sign ⟨b_Factor_Q_Digits, b_Factor_Q_Digitss⟩))),.cp (gT (b := decide (a_Dim0 = b_Dim0 ∧ a_Dim1 = b_Dim1 ∧ a_Dim2 = b_Dim2 ∧ a_Dim3 = b_Dim3 ∧ a_Dim4 = b_Dim4 ∧ a_Dim5 = b_Dim5)) iDT) 10 15 [(kf false (.f 0) a_Factor_P_Digits (fun _ => a_Factor_P_Digitss)).a, (kf false (.f 1) a_Factor_Q_Digits (fun _ => a_Factor_Q_Digitss)).a, (kf false (.f 2) b_Factor_P_Digits (fun _ => b_Factor_P_Digitss)).a, (kf false (.f 3) b_Factor_Q_Digits (fun _ => b_Factor_Q_Digitss)).a] (fun hg G => same5_ct a_Factor_P_Sign a_Factor_P_Digits a_Factor_P_Digitss a_Factor_Q_Sign a_Factor_Q_Digits a_Factor_Q_Digitss b_Factor_P_Sign b_Factor_P_Digits b_Factor_P_Digitss b_Factor_Q_Sign b_Factor_Q_Digits b_Factor_Q_Digitss),.andn g0 false (decide (a_Dim0 = b_Dim0 ∧ a_Dim1 = b_Dim1 ∧ a_Dim2 = b_Dim2 ∧ a_Dim3 = b_Dim3 ∧ a_Dim4 = b_Dim4 ∧ a_Dim5 = b_Dim5)) (decide (a_Factor_P_Sign = b_Factor_P_Sign ∧ a_Factor_P_Digits = b_Factor_P_Digits ∧ a_Factor_Q_Sign = b_Factor_Q_Sign ∧ a_Factor_Q_Digits = b_Factor_Q_Digits)) p1 hp1,.k (bv p1)] fun _ _ G2 => ?_
  intro S_ s_
  have e0 : p1 = decide ((a_Dim0 = b_Dim0 ∧ a_Dim1 = b_Dim1 ∧ a_Dim2 = b_Dim2 ∧ a_Dim3 = b_Dim3 ∧ a_Dim4 = b_Dim4 ∧ a_Dim5 = b_Dim5) ∧ a_Factor_P_Sign = b_Factor_P_Sign ∧ a_Factor_P_Digits = b_Factor_P_Digits ∧ a_Factor_Q_Sign = b_Factor_Q_Sign ∧ a_Factor_Q_Digits = b_Factor_Q_Digits) := by
    refine Bool.eq_iff_iff.2 (Iff.trans (iN hp1 (iAT iDT iDT)) (Iff.trans ?_ decide_eq_true_iff.symm))
    exact Iff.rfl
  exact V.ret [0] [] [] [] [] [] (bv p1) (fun _ _ => by kernel_rfl) (fun _ _ => (Eq.trans (by kernel_rfl) (cong1 (fun (x0 : Bool) => (bv x0 : Value)) e0)).trans (by kernel_rfl)) (fun _ _ => trivial)
theorem same9t_ct (a_Dim0 a_Dim1 a_Dim2 a_Dim3 a_Dim4 a_Dim5 a_Factor_P_Sign : Int) (a_Factor_P_Digits : List Int) (a_Factor_P_Digitss : SV) (a_Factor_Q_Sign : Int) (a_Factor_Q_Digits : List Int) (a_Factor_Q_Digitss : SV) (b_Dim0 b_Dim1 b_Dim2 b_Dim3 b_Dim4 b_Dim5 b_Factor_P_Sign : Int) (b_Factor_P_Digits : List Int) (b_Factor_P_Digitss : SV) (b_Factor_Q_Sign : Int) (b_Factor_Q_Digits : List Int) (b_Factor_Q_Digitss : SV) (hT : (a_Dim0 = b_Dim0 ∧ a_Dim1 = b_Dim1 ∧ a_Dim2 = b_Dim2 ∧ a_Dim3 = b_Dim3 ∧ a_Dim4 = b_Dim4 ∧ a_Dim5 = b_Dim5) ∧ a_Factor_P_Sign = b_Factor_P_Sign ∧ a_Factor_P_Digits = b_Factor_P_Digits ∧ a_Factor_Q_Sign = b_Factor_Q_Sign ∧ a_Factor_Q_Digits = b_Factor_Q_Digits) :
    Cp Try.prog 19 #[.agg #[iv a_Dim0, iv a_Dim1, iv a_Dim2, iv a_Dim3, iv a_Dim4, iv a_Dim5, iv a_Factor_P_Sign, a_Factor_P_Digitss.v, iv a_Factor_Q_Sign, a_Factor_Q_Digitss.v], .agg #[iv b_Dim0, iv b_Dim1, iv b_Dim2, iv b_Dim3, iv b_Dim4, iv b_Dim5, iv b_Factor_P_Sign, b_Factor_P_Digitss.v, iv b_Factor_Q_Sign, b_Factor_Q_Digitss.v]] [fs true a_Factor_P_Digits a_Factor_P_Digitss, fs true a_Factor_Q_Digits a_Factor_Q_Digitss, fs true b_Factor_P_Digits b_Factor_P_Digitss, fs true b_Factor_Q_Digits b_Factor_Q_Digitss] (bv (true)) := by
  have h := same9_ct  a_Dim0 a_Dim1 a_Dim2 a_Dim3 a_Dim4 a_Dim5 a_Factor_P_Sign a_Factor_P_Digits a_Factor_P_Digitss a_Factor_Q_Sign a_Factor_Q_Digits a_Factor_Q_Digitss b_Dim0 b_Dim1 b_Dim2 b_Dim3 b_Dim4 b_Dim5 b_Factor_P_Sign b_Factor_P_Digits b_Factor_P_Digitss b_Factor_Q_Sign b_Factor_Q_Digits b_Factor_Q_Digitss ; rw [decide_eq_true hT] at h; exact h
end Kb
