/- Plain laws of dimensions: products, powers. No program in sight. -/
import Derived.Test.YtmoekalfmahljaaDm
set_option linter.unusedVariables false
set_option linter.unusedSectionVars false
set_option linter.unusedSimpArgs false
namespace Kb
namespace Dm
section
variable {p q : Prop} [Decidable p] [Decidable q] {l m : List Int}
theorem op_y (hp : p) (hl : Rt l) : opE p l = 0 ∧ ∀ i, opV p l i = l.getD i 0 := ⟨by rw [opE_y hp, mkE_y hl], fun i => by rw [opV_y hp, mk_y hl]⟩
theorem op_n (h : opE p l ≠ 0) : ∀ i, opV p l i = 0 := fun i => by
  by_cases hp : p
  · rw [opE_y hp] at h
    have hl : ¬ Rt l := fun hl => h (mkE_y hl)
    rw [opV_y hp, mk_n hl]
  · exact opV_n hp l i
theorem op_ok (h : opE p l = 0) : p ∧ Rt l := by
  by_cases hp : p
  · refine ⟨hp, ?_⟩
    rw [opE_y hp] at h
    unfold mkE at h
    split at h
    · assumption
    · omega
  · rw [opE_n hp] at h; omega
theorem op_1 : opE p l = 1 ↔ ¬ p := by
  by_cases hp : p
  · rw [opE_y hp]; unfold mkE; split <;> simp [hp]
  · rw [opE_n hp]; simp [hp]
theorem op_rt (hl : l.length = 6) : Rt [opV p l 0, opV p l 1, opV p l 2, opV p l 3, opV p l 4, opV p l 5] := by
  by_cases h : opE p l = 0
  · obtain ⟨hp, hr⟩ := op_ok h
    have hv := (op_y hp hr).2
    have key : ∀ i : Nat, i < 6 → -9 ≤ opV p l i ∧ opV p l i ≤ 9 := fun i hi => by
      rw [hv i]
      refine hr _ ?_
      simp [List.getD_eq_getElem?_getD, show i < l.length by omega]
    rw [Rt6]
    exact ⟨key 0 (by omega), key 1 (by omega), key 2 (by omega), key 3 (by omega), key 4 (by omega), key 5 (by omega)⟩
  · have hz := op_n h
    rw [hz 0, hz 1, hz 2, hz 3, hz 4, hz 5, Rt6]; omega
theorem op_eq (h : p ↔ q) (e : l = m) : opE p l = opE q m ∧ ∀ i, opV p l i = opV q m i := by
  subst e
  by_cases hp : p
  · have hq := h.1 hp
    exact ⟨by rw [opE_y hp, opE_y hq], fun i => by rw [opV_y hp, opV_y hq]⟩
  · have hq : ¬ q := fun hq => hp (h.2 hq)
    exact ⟨by rw [opE_n hp, opE_n hq], fun i => by rw [opV_n hp, opV_n hq]⟩
end
section
variable {a0 a1 a2 a3 a4 a5 b0 b1 b2 b3 b4 b5 c0 c1 c2 c3 c4 c5 : Int}
theorem six_comm : [b0 + a0, b1 + a1, b2 + a2, b3 + a3, b4 + a4, b5 + a5] = [a0 + b0, a1 + b1, a2 + b2, a3 + b3, a4 + b4, a5 + b5] := by
  simp only [Int.add_comm]
theorem mul8 {n m k : Int} (hn : -128 ≤ n ∧ n ≤ 127) (hm : -128 ≤ m ∧ m ≤ 127) (hk : k = n * m) : -9223372036854775808 ≤ k ∧ k ≤ 9223372036854775807 := by
  have h1 : (n * m).natAbs ≤ 128 * 128 := by rw [Int.natAbs_mul]; exact Nat.mul_le_mul (by omega) (by omega)
  omega
theorem nand {p q : Prop} [Decidable p] : ¬ (p ∧ q) ↔ ¬ p ∨ ¬ q := ⟨fun h => by by_cases hp : p; exact .inr fun hq => h ⟨hp, hq⟩; exact .inl hp, fun h ⟨x, y⟩ => h.elim (fun k => k x) (fun k => k y)⟩
theorem rt_zero : Rt [0, 0, 0, 0, 0, 0] := by decide
end
end Dm
end Kb
