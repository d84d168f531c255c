/- Limits and sameness of disclosures, places. No program in sight. -/
import Derived.Test.YtaolgnmpgnamnaaRn
import Derived.Test.YtaolgnmpgnamnaaTp
set_option linter.unusedSimpArgs false
set_option linter.unusedVariables false
namespace Kb
open Go
namespace Rv
open Tm
section
variable {α : Type} [Dat α] {a b : List (Fat α)} {k : Int} {x y : Fat α}
theorem ls_at (hx : x = a.getD k.toNat default) : (ls a).getD k.toNat [] = x.l := by rw [hx]; exact getD_l a k.toNat
theorem ls_ne (hx : x = a.getD k.toNat default) (hy : y = b.getD k.toNat default) (h : ¬ x.l = y.l) : ¬ ls a = ls b := fun e => h (by rw [← ls_at hx, ← ls_at hy, e])
theorem ls_step (h : ∀ j, j < k.toNat → (a.getD j default).l = (b.getD j default).l) (h0 : 0 ≤ k) (hx : x = a.getD k.toNat default) (hy : y = b.getD k.toNat default) (e : x.l = y.l) : ∀ j, j < (k + 1).toNat → (a.getD j default).l = (b.getD j default).l := fun j hj => by
  by_cases e2 : j < k.toNat
  · exact h j e2
  · rw [show j = k.toNat by omega, ← hx, ← hy]; exact e
theorem ls_eq (h : ∀ j, j < k.toNat → (a.getD j default).l = (b.getD j default).l) (hl : a.length = b.length) (hk : (a.length : Int) ≤ k) : ls a = ls b := by
  refine List.ext_getElem? fun j => ?_
  unfold ls
  rw [List.getElem?_map, List.getElem?_map]
  by_cases hj : j < a.length
  · have := h j (by omega)
    simp only [List.getD_eq_getElem?_getD] at this
    rw [List.getElem?_eq_getElem hj, List.getElem?_eq_getElem (by omega)] at this ⊢
    exact congrArg some this
  · rw [List.getElem?_eq_none (by omega), List.getElem?_eq_none (by omega)]
theorem all_step {P : Fat α → Prop} (h : ∀ j, j < k.toNat → P (a.getD j default)) (h0 : 0 ≤ k) (hx : x = a.getD k.toNat default) (e : P x) : ∀ j, j < (k + 1).toNat → P (a.getD j default) := fun j hj => by
  by_cases e2 : j < k.toNat
  · exact h j e2
  · rw [show j = k.toNat by omega, ← hx]; exact e
end
def rowF (s : List DThing) : Prop := s.length ≤ 10 ∧ ∀ k, k < s.length → ¬ longT (te s k).Text.size
instance (s : List DThing) : Decidable (rowF s) := by unfold rowF; infer_instance
def fewD (P : List (List Int)) (S : List (List DThing)) : Prop := (∀ i, i < P.length → i < 71 → (pl P i).length ≤ 10) ∧ (∀ i, i < S.length → i < 71 → rowF (sl S i)) ∧ (P.length ≤ 8 ∨ 64 < P.length) ∧ P.length ≤ 70 ∧ S.length ≤ 70
instance (P : List (List Int)) (S : List (List DThing)) : Decidable (fewD P S) := by unfold fewD; infer_instance
section
variable {p : List (Fat Int)} {q : List (Fat DThing)} {k j : Int} {x : Fat Int} {y : Fat DThing} {z : DThing}
theorem fewD_no1 (h0 : 0 ≤ k) (hk : k < p.length) (h71 : k < 71) (hx : x = p.getD k.toNat default) (h : 10 < (x.l.length : Int)) : ¬ fewD (ls p) (ls q) := fun f => by
  have := f.1 k.toNat (by rw [ls_length]; omega) (by omega)
  rw [pl_ls hx] at this; omega
theorem fewD_no2 (h0 : 0 ≤ k) (hk : k < q.length) (h71 : k < 71) (hy : y = q.getD k.toNat default) (h : ¬ rowF y.l) : ¬ fewD (ls p) (ls q) := fun f => by
  have := f.2.1 k.toNat (by rw [ls_length]; omega) (by omega)
  rw [sl_ls hy] at this; exact h this
theorem rowF_no (h0 : 0 ≤ j) (hj : j < y.l.length) (hz : z = y.l.getD j.toNat default) (h : 100 < (z.Text.size : Int) ∧ ((z.Text.size : Int) ≤ 8000 ∨ 8100 < (z.Text.size : Int))) : ¬ rowF y.l := fun f => f.2 j.toNat (by omega) (by
  have e : te y.l j.toNat = z := by rw [hz]; rfl
  rw [e]; unfold longT; exact h)
theorem rowF_step (hp : ∀ i, i < j.toNat → ¬ longT (te y.l i).Text.size) (h0 : 0 ≤ j) (hz : z = y.l.getD j.toNat default) (h : ¬ 100 < (z.Text.size : Int) ∨ (¬ (z.Text.size : Int) ≤ 8000 ∧ ¬ 8100 < (z.Text.size : Int))) : ∀ i, i < (j + 1).toNat → ¬ longT (te y.l i).Text.size := fun i hi => by
  by_cases e : i < j.toNat
  · exact hp i e
  · rw [show i = j.toNat by omega]
    have e : te y.l j.toNat = z := by rw [hz]; rfl
    rw [e]; unfold longT; omega
theorem fewD_end {k2 : Int} (hp : ∀ i, i < k.toNat → (p.getD i default).l.length ≤ 10) (hk : ¬ (k < p.length ∧ k < 71)) (hq : ∀ i, i < k2.toNat → rowF (q.getD i default).l) (hk2 : ¬ (k2 < q.length ∧ k2 < 71)) (h0 : 0 ≤ k) (h2 : 0 ≤ k2) :
    fewD (ls p) (ls q) ↔ (((p.length : Int) ≤ 8 ∨ 64 < (p.length : Int)) ∧ (p.length : Int) ≤ 70) ∧ (q.length : Int) ≤ 70 := by
  unfold fewD
  rw [ls_length, ls_length]
  constructor
  · rintro ⟨_, _, a, b, c⟩; omega
  · rintro ⟨⟨a, b⟩, c⟩
    exact ⟨fun i hi _ => by rw [pl_ls']; exact hp i (by omega), fun i hi _ => by rw [sl_ls']; exact hq i (by omega), by omega, by omega, by omega⟩
end
/-! ### places -/
def plS (l : List Int) (s : List Int × List Int) (a : UInt8) : List Int × List Int := if (a.toNat : Int) % l.length ∈ s.2 then s else (s.1 ++ [l.getD ((a.toNat : Int) % l.length).toNat default], s.2 ++ [(a.toNat : Int) % l.length])
def plN (l : List Int) (as' : List UInt8) : List Int × List Int := if l.length = 0 then ([], []) else as'.foldl (plS l) ([], [])
theorem plN_step {l : List Int} {as' : List UInt8} {k n : Int} {x : UInt8} (h0 : 0 ≤ k) (hk : k < as'.length) (hl : 0 < (l.length : Int)) (hx : x = as'.getD k.toNat default) (hn : n = (x.toNat : Int) % l.length) : plN l (as'.take (k + 1).toNat) = if n ∈ (plN l (as'.take k.toNat)).2 then plN l (as'.take k.toNat) else ((plN l (as'.take k.toNat)).1 ++ [l.getD n.toNat default], (plN l (as'.take k.toNat)).2 ++ [n]) := by
  rw [show (k + 1).toNat = k.toNat + 1 by omega]
  have hk' : k.toNat < as'.length := by omega
  have e : as'[k.toNat] = x := by rw [hx, List.getD_eq_getElem?_getD, List.getElem?_eq_getElem hk']; rfl
  have hl' : ¬ l.length = 0 := by omega
  unfold plN
  simp only [if_neg hl']
  rw [List.take_add_one, List.getElem?_eq_getElem hk', e, List.foldl_append, hn]
  rfl
theorem plN_end {l : List Int} {as' : List UInt8} {k : Int} (h0 : 0 ≤ k) (h : ¬ (k < as'.length ∧ 0 < (l.length : Int))) : plN l (as'.take k.toNat) = plN l as' := by
  by_cases e : l.length = 0
  · unfold plN; rw [if_pos e, if_pos e]
  · rw [List.take_of_length_le (by omega)]
theorem plN_zero (l : List Int) : plN l [] = ([], []) := by unfold plN; split <;> rfl
end Rv
end Kb
