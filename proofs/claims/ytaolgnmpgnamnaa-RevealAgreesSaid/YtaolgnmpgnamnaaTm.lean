/- Plain laws of vaults and trees of sums. -/
import Derived.Test.YtaolgnmpgnamnaaDt
set_option linter.unusedVariables false
set_option linter.unusedSimpArgs false
namespace Kb
namespace Tm
def inB (n hi : Int) : Bool := decide (0 ≤ n ∧ n ≤ hi)
theorem inB_iff {n hi : Int} : inB n hi = true ↔ 0 ≤ n ∧ n ≤ hi := decide_eq_true_iff
def isLeaf (x : DThing) : Prop := x.Left = -1 ∧ x.Right = -1 ∧ (x.Text.size : Int) ≤ 8000 ∧ 0 ≤ x.Value ∧ x.Value ≤ 1099511627776 ∧ 0 ≤ x.Blind ∧ x.Blind ≤ 1099511627776
instance (x : DThing) : Decidable (isLeaf x) := by unfold isLeaf; infer_instance
def el (l : List DThing) (k : Int) : DThing := l.getD k.toNat default
def has (l : List DThing) (k : Int) : Prop := 0 ≤ k ∧ k < l.length
instance (l : List DThing) (k : Int) : Decidable (has l k) := by unfold has; infer_instance
/-- the pair of two things -/
def pairX (l : List DThing) (a b : Int) : DThing := { Value := (el l a).Value + (el l b).Value, Blind := (el l a).Blind + (el l b).Blind, Left := a, Right := b }
def pairE (l : List DThing) (a b : Int) : Int := if ¬ (has l a ∧ has l b) then 4 else if 1125899906842624 < (pairX l a b).Value ∨ 1125899906842624 < (pairX l a b).Blind then 3 else 0
def pairT (l : List DThing) (a b : Int) : DThing := if pairE l a b = 0 then pairX l a b else {}
def okT (l : List DThing) (x : DThing) : Prop := isLeaf x ∨ (pairE l x.Left x.Right = 0 ∧ x = pairX l x.Left x.Right)
theorem thing_ext (x y : DThing) : x = y ↔ x.Text = y.Text ∧ x.Value = y.Value ∧ x.Blind = y.Blind ∧ x.Left = y.Left ∧ x.Right = y.Right := by
  cases x; cases y; simp
instance : DecidableEq DThing := fun x y => decidable_of_iff _ (thing_ext x y).symm
instance (l : List DThing) (x : DThing) : Decidable (okT l x) := by unfold okT; infer_instance
theorem pairE_no {l : List DThing} {a b : Int} (h : ¬ (has l a ∧ has l b)) : pairE l a b = 4 := by unfold pairE; rw [if_pos h]
theorem pairE_big {l : List DThing} {a b : Int} {x y : DThing} (hx : x = l.getD a.toNat default) (hy : y = l.getD b.toNat default) (h : has l a ∧ has l b) (hb : 1125899906842624 < x.Value + y.Value ∨ 1125899906842624 < x.Blind + y.Blind) : pairE l a b = 3 := by
  subst hx hy
  unfold pairE; rw [if_neg (by simpa using h)]; exact if_pos hb
theorem pairE_ok {l : List DThing} {a b : Int} {x y : DThing} (hx : x = l.getD a.toNat default) (hy : y = l.getD b.toNat default) (h : has l a ∧ has l b) (hb : ¬ (1125899906842624 < x.Value + y.Value ∨ 1125899906842624 < x.Blind + y.Blind)) : pairE l a b = 0 := by
  subst hx hy
  unfold pairE; rw [if_neg (by simpa using h)]; exact if_neg hb
theorem pairT_no {l : List DThing} {a b : Int} (h : pairE l a b ≠ 0) : pairT l a b = {} := by unfold pairT; rw [if_neg h]
theorem pairT_ok {l : List DThing} {a b v w : Int} {x y : DThing} (hx : x = l.getD a.toNat default) (hy : y = l.getD b.toNat default) (h : pairE l a b = 0) (hv : v = x.Value + y.Value) (hw : w = x.Blind + y.Blind) : pairT l a b = ⟨ByteArray.empty, v, w, a, b⟩ := by
  subst hx hy hv hw
  unfold pairT; rw [if_pos h]; rfl
def Bd (x : DThing) : Prop := 0 ≤ x.Value ∧ x.Value ≤ 1125899906842624 ∧ 0 ≤ x.Blind ∧ x.Blind ≤ 1125899906842624
/-- the first n things are sound -/
def okTo (l : List DThing) (n : Nat) : Prop := ∀ i, i < n → okT (l.take i) (l.getD i default)
instance (l : List DThing) (n : Nat) : Decidable (okTo l n) := by unfold okTo; infer_instance
def Sound (l : List DThing) : Prop := l.length ≤ 2000 ∧ okTo l l.length
instance (l : List DThing) : Decidable (Sound l) := by unfold Sound; infer_instance
def soundB (l : List DThing) : Bool := decide (Sound l)
theorem el_take {l : List DThing} {i : Nat} {k : Int} (h0 : 0 ≤ k) (h : k < i) : el (l.take i) k = el l k := by
  unfold el
  simp only [List.getD_eq_getElem?_getD, List.getElem?_take]
  rw [if_pos (by omega)]
theorem has_take {l : List DThing} {i : Nat} (hi : i ≤ l.length) {k : Int} : has (l.take i) k ↔ 0 ≤ k ∧ k < i := by
  unfold has; simp; omega
theorem bd_of {l : List DThing} {n : Nat} (h : okTo l n) (hn : n ≤ l.length) : ∀ i, i < n → Bd (l.getD i default) := by
  intro i
  induction i using Nat.strongRecOn with
  | _ i ih =>
    intro hi
    rcases h i hi with h1 | ⟨h1, h2⟩
    · unfold isLeaf at h1; unfold Bd; omega
    · have hhas : has (l.take i) (l.getD i default).Left ∧ has (l.take i) (l.getD i default).Right := by
        unfold pairE at h1
        split at h1
        · omega
        · rename_i hh; exact Decidable.not_not.1 hh
      have hle : ¬ (1125899906842624 < (pairX (l.take i) (l.getD i default).Left (l.getD i default).Right).Value ∨ 1125899906842624 < (pairX (l.take i) (l.getD i default).Left (l.getD i default).Right).Blind) := by
        unfold pairE at h1
        rw [if_neg (by simpa using hhas)] at h1
        split at h1
        · omega
        · assumption
      rw [← h2] at hle
      rw [has_take (by omega), has_take (by omega)] at hhas
      obtain ⟨⟨a1, a2⟩, b1, b2⟩ := hhas
      have ea := el_take (l := l) a1 a2
      have eb := el_take (l := l) b1 b2
      have ba := ih (l.getD i default).Left.toNat (by omega) (by omega)
      have bb := ih (l.getD i default).Right.toNat (by omega) (by omega)
      have hv : (l.getD i default).Value = (el l (l.getD i default).Left).Value + (el l (l.getD i default).Right).Value := by
        rw [← ea, ← eb]; exact congrArg DThing.Value h2
      have hb : (l.getD i default).Blind = (el l (l.getD i default).Left).Blind + (el l (l.getD i default).Right).Blind := by
        rw [← ea, ← eb]; exact congrArg DThing.Blind h2
      unfold Bd at *
      unfold el at hv hb
      omega
theorem bd_take {l : List DThing} {n : Nat} (h : okTo l n) (hn : n ≤ l.length) : ∀ x ∈ l.take n, Bd x := by
  intro x hx
  obtain ⟨i, hi, rfl⟩ := List.mem_iff_getElem.1 hx
  have hi' : i < n := by simp at hi; omega
  have := bd_of h hn i hi'
  have hl : i < l.length := by omega
  simpa [hl] using this
theorem bd_sound {l : List DThing} (h : Sound l) : ∀ x ∈ l, Bd x := by
  have := bd_take h.2 (Nat.le_refl _)
  rwa [List.take_length] at this
theorem okTo_succ {l : List DThing} {n : Nat} (h : okTo l n) (h2 : okT (l.take n) (l.getD n default)) : okTo l (n + 1) := fun i hi => by
  by_cases e : i = n
  · subst e; exact h2
  · exact h i (by omega)
theorem okT_iff {l : List DThing} {x : DThing} : okT l x ↔ isLeaf x ∨ (pairE l x.Left x.Right = 0 ∧ x.Text = (pairT l x.Left x.Right).Text ∧ x.Value = (pairT l x.Left x.Right).Value ∧ x.Blind = (pairT l x.Left x.Right).Blind ∧ x.Left = (pairT l x.Left x.Right).Left ∧ x.Right = (pairT l x.Left x.Right).Right) := by
  unfold okT
  refine or_congr Iff.rfl ⟨fun ⟨h1, h2⟩ => ⟨h1, ?_⟩, fun ⟨h1, h2⟩ => ⟨h1, ?_⟩⟩
  · unfold pairT; rw [if_pos h1]; exact (thing_ext _ _).1 h2
  · unfold pairT at h2; rw [if_pos h1] at h2; exact (thing_ext _ _).2 h2
theorem sound_len {l : List DThing} (h : (2000 : Int) < l.length) : false = decide (Sound l) := by
  symm; rw [decide_eq_false_iff_not]; intro hs; have := hs.1; omega
theorem sound_step {l : List DThing} {k k' : Int} {x : DThing} (h : okTo l k.toNat) (h0 : 0 ≤ k) (hx : x = l.getD k.toNat default) (hk : k' = k + 1) (ho : okT (l.take k.toNat) x) : okTo l k'.toNat := by
  subst hk hx
  rw [show (k + 1).toNat = k.toNat + 1 by omega]
  exact okTo_succ h ho
theorem sound_no {l : List DThing} {k : Int} {x : DThing} (h0 : 0 ≤ k) (hk : k < l.length) (hx : x = l.getD k.toNat default) (h1 : ¬ isLeaf x)
    (h2 : ¬ (pairE (l.take k.toNat) x.Left x.Right = 0) ∨ ¬ (x.Text = (pairT (l.take k.toNat) x.Left x.Right).Text ∧ x.Value = (pairT (l.take k.toNat) x.Left x.Right).Value ∧ x.Blind = (pairT (l.take k.toNat) x.Left x.Right).Blind ∧ x.Left = (pairT (l.take k.toNat) x.Left x.Right).Left ∧ x.Right = (pairT (l.take k.toNat) x.Left x.Right).Right)) : false = decide (Sound l) := by
  symm; rw [decide_eq_false_iff_not]; intro hs
  have := hs.2 k.toNat (by omega)
  rw [← hx, okT_iff] at this
  rcases this with h | ⟨h, h'⟩
  · exact h1 h
  · rcases h2 with h2 | h2
    · exact h2 h
    · exact h2 h'
theorem sound_yes {l : List DThing} {k n : Int} (h : okTo l k.toNat) (h0 : 0 ≤ k) (hn : n = l.length) (hk : k ≤ n) (hk2 : ¬ k < n) (hl : ¬ 2000 < n) : true = decide (Sound l) := by
  symm; rw [decide_eq_true_iff]
  refine ⟨by omega, ?_⟩
  rwa [show l.length = k.toNat by omega]
end Tm
end Kb
