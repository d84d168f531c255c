/- What strings.Join computes, as a contract; equality of dimensions. -/
import Derived.Test.YtmoekalfmahljaaDm
import Derived.Test.YtmoekalfmahljaaSh
import Derived.ChangeKeysEq
import Derived.Laws.StructEq
set_option linter.unusedVariables false
set_option linter.unusedSectionVars false
set_option linter.unusedSimpArgs false
namespace Kb
open Go Go.Proofs
theorem join_ct (elems : List ByteArray) (elemss : SV) (sep : ByteArray) (hN : elems.length ≤ 140737488355328) (hlen : (Lib.join (elems.map (·.data.toList)) sep.data.toList).length ≤ 140737488355328) :
    Cp Try.prog 15 #[elemss.v, tv sep] [fs true elems elemss] (tv (Dm.jn elems sep)) := Cp.of fun w H hA hF => by
  have h : RSl H elems elemss.v := hF (fs true elems elemss) (by simp)
  by_cases e : elems = []
  · subst e
    have hn : elemss.v = .slice elemss.a 0 elemss.c := by
      obtain ⟨a, c, e, _⟩ := h.sl.val
      unfold SV.v at e ⊢
      injection e with e1 e2 e3
      rw [e2]; rfl
    rw [hn]
    refine (Try.strings_Join_none elemss.a elemss.c sep w).mono fun e w' ⟨h1, h2⟩ => ?_
    subst h2
    exact ⟨h1, Base.refl _ _⟩
  · obtain ⟨bk, o, c, e1, h1, h2, h3⟩ := cells_at hA h rfl (enc := fun s => .string s) (fun _ => rfl) e
    rw [e1]
    refine (Try.strings_Join bk o c elems sep w h3 h1 hN h2 hlen).mono fun e w' ⟨h1, h2⟩ => ?_
    exact ⟨h1, Base.of_below h2⟩
theorem dim_equal (w : World) (a0 a1 a2 a3 a4 a5 b0 b1 b2 b3 b4 b5 : Int) : (Op.equal 23 (.agg #[iv a0, iv a1, iv a2, iv a3, iv a4, iv a5]) (.agg #[iv b0, iv b1, iv b2, iv b3, iv b4, iv b5])).run Try.prog w = .ok (decide (a0 = b0 ∧ a1 = b1 ∧ a2 = b2 ∧ a3 = b3 ∧ a4 = b4 ∧ a5 = b5)) w := by
  have hu : Try.prog.underlying 23 = some (.array 6 3) := by kernel_rfl
  have u3 : Try.prog.underlying 3 = some (.int .i64) := by kernel_rfl
  obtain ⟨i, hi⟩ : ∃ i, Try.prog.info? 3 = some i := info_of_underlying u3
  have hc : Try.prog.cellsOf 3 = 1 := by kernel_rfl
  have p3 : ∀ (xs : Array Value) (o : Nat) (v : Value), xs[o]? = some v → (part 3 xs o).run Try.prog w = .ok v w := fun xs o v hv => by
    have h : (isAgg 3).run Try.prog w = .ok false w := by rw [run_isAgg (by kernel_rfl), show aggB Try.prog 3 = false from by kernel_rfl]
    simp [part, h, hv]
  show (Op.equalIn (9999 + 1) 23 _ _).run Try.prog w = _
  rw [run_equalIn_array w 9999 _ _ hu hi, hc]
  have ei := fun a b => run_equalIn_int (P := Try.prog) w 9998 3 .i64 .i64 a b u3
  have q0 : ∀ c0 c1 c2 c3 c4 c5 : Value, (part 3 #[c0, c1, c2, c3, c4, c5] 0).run Try.prog w = .ok c0 w := fun _ _ _ _ _ _ => p3 _ 0 _ rfl
  have q1 : ∀ c0 c1 c2 c3 c4 c5 : Value, (part 3 #[c0, c1, c2, c3, c4, c5] 1).run Try.prog w = .ok c1 w := fun _ _ _ _ _ _ => p3 _ 1 _ rfl
  have q2 : ∀ c0 c1 c2 c3 c4 c5 : Value, (part 3 #[c0, c1, c2, c3, c4, c5] 2).run Try.prog w = .ok c2 w := fun _ _ _ _ _ _ => p3 _ 2 _ rfl
  have q3 : ∀ c0 c1 c2 c3 c4 c5 : Value, (part 3 #[c0, c1, c2, c3, c4, c5] 3).run Try.prog w = .ok c3 w := fun _ _ _ _ _ _ => p3 _ 3 _ rfl
  have q4 : ∀ c0 c1 c2 c3 c4 c5 : Value, (part 3 #[c0, c1, c2, c3, c4, c5] 4).run Try.prog w = .ok c4 w := fun _ _ _ _ _ _ => p3 _ 4 _ rfl
  have q5 : ∀ c0 c1 c2 c3 c4 c5 : Value, (part 3 #[c0, c1, c2, c3, c4, c5] 5).run Try.prog w = .ok c5 w := fun _ _ _ _ _ _ => p3 _ 5 _ rfl
  rw [show List.range 6 = [0, 1, 2, 3, 4, 5] from rfl]
  simp only [Op.eqItems]
  simp [q0, q1, q2, q3, q4, q5, ei]
  by_cases h0 : a0 = b0 <;> by_cases h1 : a1 = b1 <;> by_cases h2 : a2 = b2 <;> by_cases h3 : a3 = b3 <;> by_cases h4 : a4 = b4 <;> by_cases h5 : a5 = b5 <;> simp [h0, h1, h2, h3, h4, h5]
end Kb
