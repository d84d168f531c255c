/- Plain laws: what a walk down a tree of sums bounds. -/
import Derived.Test.YtaolgnmpgnamnaaTp
set_option linter.unusedVariables false
set_option linter.unusedSimpArgs false
namespace Kb
namespace Tm
/-- one thing lies under another -/
inductive Down (l : List DThing) : Int → Int → Prop
  | refl {a : Int} : has l a → Down l a a
  | step {r c a : Int} : has l r → has l c → ((el l r).Left = c ∨ (el l r).Right = c) → Down l c a → Down l r a
theorem Down.has1 {l : List DThing} {r a : Int} (h : Down l r a) : has l r := by cases h <;> assumption
theorem Down.has2 {l : List DThing} {r a : Int} (h : Down l r a) : has l a := by induction h <;> assumption
theorem down_path {l : List DThing} {p : List Int} (hw : walksTo l p p.length) : ∀ d i : Nat, i + d < p.length → Down l (pe p i) (pe p (i + d))
  | 0, i, h => .refl (hw i h).1
  | d + 1, i, h => by
    have h1 := hw (i + 1) (by omega)
    have h2 := h1.2 (by omega)
    rw [show i + 1 - 1 = i by omega] at h2
    have := down_path hw d (i + 1) (by omega)
    rw [show i + 1 + d = i + (d + 1) by omega] at this
    exact .step (hw i (by omega)).1 h1.1 h2 this
/-- what a thing with a half has -/
theorem half {l : List DThing} (hS : Sound l) {r c : Int} (hr : has l r) (hc : has l c) (h : (el l r).Left = c ∨ (el l r).Right = c) :
    ¬ (el l r).Left = -1 ∧ c < r ∧ (el l r).Value = (el l (el l r).Left).Value + (el l (el l r).Right).Value ∧ (el l r).Blind = (el l (el l r).Left).Blind + (el l (el l r).Right).Blind ∧ has l (el l r).Left ∧ has l (el l r).Right ∧ (el l r).Left < r ∧ (el l r).Right < r := by
  unfold has at *
  rcases sound_cases hS (k := r.toNat) (by omega) with h1 | h1
  · unfold isLeaf at h1; unfold el at h; omega
  · unfold el at *
    obtain ⟨a1, a2, a3, a4, _, a5, a6⟩ := h1
    refine ⟨by omega, by omega, a5, a6, ?_, ?_, by omega, by omega⟩ <;> omega
theorem bd_el {l : List DThing} (hS : Sound l) {r : Int} (hr : has l r) : 0 ≤ (el l r).Value ∧ (el l r).Value ≤ 1125899906842624 ∧ 0 ≤ (el l r).Blind ∧ (el l r).Blind ≤ 1125899906842624 := by
  unfold has at hr
  have := bd_of hS.2 (Nat.le_refl _) r.toNat (by omega)
  exact this
theorem down_le {l : List DThing} (hS : Sound l) {r a : Int} (h : Down l r a) : (el l a).Value ≤ (el l r).Value ∧ (el l a).Blind ≤ (el l r).Blind := by
  induction h with
  | refl _ => exact ⟨Int.le_refl _, Int.le_refl _⟩
  | step hr hc hx hd ih =>
    have h1 := half hS hr hc hx
    have b1 := bd_el hS h1.2.2.2.2.1
    have b2 := bd_el hS h1.2.2.2.2.2.1
    rcases hx with e | e <;> rw [← e] at ih <;> omega
theorem down_two {l : List DThing} (hS : Sound l) {r a : Int} (h : Down l r a) (ha : (el l a).Left = -1) : ∀ {b : Int}, Down l r b → (el l b).Left = -1 → a ≠ b → (el l a).Value + (el l b).Value ≤ (el l r).Value := by
  induction h with
  | refl _ =>
    intro b h hb hab
    cases h with
    | refl _ => exact absurd rfl hab
    | step hr hc hx hd => exact absurd ha (half hS hr hc hx).1
  | @step r c a hr hc hx hd ih =>
    intro b h hb hab
    have h1 := half hS hr hc hx
    cases h with
    | refl _ => exact absurd hb h1.1
    | @step _ c' _ _ hc' hx' hd' =>
      have b1 := bd_el hS h1.2.2.2.2.1
      have b2 := bd_el hS h1.2.2.2.2.2.1
      have l1 := down_le hS hd
      have l2 := down_le hS hd'
      by_cases e : c = c'
      · subst e
        have := ih ha hd' hb hab
        rcases hx with e | e <;> rw [← e] at this <;> omega
      · rcases hx with e1 | e1 <;> rcases hx' with e2 | e2
        · exact absurd (e1.symm.trans e2) e
        · rw [← e1] at l1; rw [← e2] at l2; omega
        · rw [← e1] at l1; rw [← e2] at l2; omega
        · exact absurd (e1.symm.trans e2) e
theorem check_down {l : List DThing} {p : List Int} {total blind value own : Int} {text : ByteArray} (h : checkP l p total blind text value own) : Down l (pe p 0) (lastI p) := by
  have hne := h.1.2.1
  have := down_path h.1.2.2 (p.length - 1) 0 (by omega)
  rwa [Nat.zero_add] at this
theorem check_le {l : List DThing} {p : List Int} {total blind value own : Int} {text : ByteArray} (h : checkP l p total blind text value own) : 0 ≤ value ∧ value ≤ total ∧ total ≤ 1125899906842624 ∧ 0 < p.length ∧ Sound l := by
  have hd := check_down h
  obtain ⟨⟨hS, hne, hw⟩, h1, h2, h3, h4⟩ := h
  obtain ⟨_, hh, _, h5, h6⟩ := h4
  have b1 := bd_el hS hh
  have b2 := bd_el hS hd.has1
  have := down_le hS hd
  exact ⟨by omega, by omega, by omega, by omega, hS⟩
theorem check_two {l : List DThing} {a b : List Int} {total blind x y own other : Int} {text text' : ByteArray} (h : checkP l a total blind text x own) (h' : checkP l b total blind text' y other) (h0 : pe a 0 = pe b 0) (h1 : lastI a ≠ lastI b) : x + y ≤ total := by
  have hd := check_down h
  have hd' := check_down h'
  obtain ⟨⟨hS, hne, hw⟩, g1, g2, g3, _, hh, _, g5, g6⟩ := h
  obtain ⟨_, f1, f2, f3, _, hh', _, f5, f6⟩ := h'
  rw [← h0] at hd'
  have := down_two hS hd g3 hd' f3 h1
  omega
/-- how an element is named -/
theorem last_of {p : List Int} {n m x : Int} (hn : n = p.length) (hm : m = n - 1) (h0 : 0 < p.length) (hx : x = p.getD m.toNat default) : lastI p = x := by
  subst hm hn hx
  unfold lastI pe
  rw [show ((p.length : Int) - 1).toNat = p.length - 1 by omega]; rfl
end Tm
end Kb
