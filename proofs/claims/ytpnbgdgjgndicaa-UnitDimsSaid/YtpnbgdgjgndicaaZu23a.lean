/- Texts for the claim, put together: the calculus of regions, its rules, and contracts of the functions that the law reaches. -/
import Derived.Test.YtpnbgdgjgndicaaZuwf
import Derived.Test.YtpnbgdgjgndicaaZu123a
import Derived.ChangeArms
import Derived.WideKeyArgs
import Derived.Carry
import Derived.OpenShut
set_option linter.unusedVariables false
set_option linter.unusedSectionVars false
set_option linter.unusedSimpArgs false
namespace Kb
open Go
namespace Un
open Fr Bg
def Sg (q : ByteArray) : Prop := bl q = [] ∨ ∃ c l, bl q = c :: l ∧ ((c.toNat : Int) = 42 ∨ (c.toNat : Int) = 47)
theorem Sg.nl {q : ByteArray} (h : Sg q) : nlL (bl q) = 0 := by
  rcases h with h | ⟨c, l, h, k⟩
  · rw [h]; rfl
  · rw [h]; unfold nlL; rw [if_neg]; unfold ltr; omega
theorem Sg.num {q : ByteArray} (h : Sg q) : ¬ num q := by
  rintro ⟨⟨h1, h2⟩, h3⟩
  rcases h with h | ⟨c, l, h, k⟩
  · exact h1 (bl_inj h)
  · rw [h] at h2; have e : (c :: l).getD 0 default = c := rfl
    rw [e] at h2; omega
end Un

open Go Go.RowKit Go.WideShapes Go.ChangeShapes
section
variable {H : Type} {enc : TypeId × Value → H} {P : Program} {w : World} {base : Nat} {sp : Nat → Bool} {held : Bool}
theorem arg_string {r : Reach} {b0 : Nat} {t : TypeId} (ht : P.underlying t = some .string) {v : Value} {d : DataW H} {ps : List MemPlace} (hv : Value.okWide P w r b0 t v) (h : DataW.Trod enc P w base sp held t v d ps) : ∃ s, v = .string s ∧ s.size ≤ maxLen := by
  obtain ⟨n, hn⟩ := h
  obtain ⟨m, rfl⟩ := okWide_string ht hv
  obtain ⟨n, h1, _, h2⟩ := DataW.trod_string ht hn
  cases h1
  exact ⟨_, rfl, h2⟩
end

open Go
namespace Un
open Fr Bg
def ofs (s : ByteArray) (a : Nat) : ByteArray := s.extract a s.size
theorem bl_ofs {s : ByteArray} {a : Nat} : bl (ofs s a) = (bl s).drop a := by
  unfold ofs; rw [bl_extract, ← bl_len, List.take_length]
theorem ofs_size {s : ByteArray} {a : Nat} : (ofs s a).size = s.size - a := by
  rw [← bl_len, bl_ofs, List.length_drop, bl_len]
theorem ofs_get {s : ByteArray} {a j : Nat} : (bl (ofs s a)).getD j default = (bl s).getD (a + j) default := by
  rw [bl_ofs, List.getD_eq_getElem?_getD, List.getElem?_drop, ← List.getD_eq_getElem?_getD]
theorem ofs_end {s : ByteArray} {a : Nat} (h : s.size ≤ a) : ofs s a = ByteArray.empty := bl_inj (by rw [bl_ofs, List.drop_of_length_le (by rw [bl_len]; exact h)]; rfl)
theorem ofs_ne {s : ByteArray} {a : Nat} (h : a < s.size) : ¬ ofs s a = ByteArray.empty := fun e => by
  have := congrArg ByteArray.size e
  rw [ofs_size] at this
  have h0 : (ByteArray.empty).size = 0 := rfl
  omega
theorem ofs_ofs {s : ByteArray} {a b : Nat} : (ofs s a).extract b (ofs s a).size = ofs s (a + b) := bl_inj (by
  rw [bl_extract, ← bl_len, List.take_length, bl_ofs, bl_ofs, List.drop_drop])
def spN (s : ByteArray) (a : Nat) : Nat := a + nl (ofs s a) + (if num (rest (ofs s a)) then 1 else 0)
theorem rest_ofs {s : ByteArray} {a : Nat} : rest (ofs s a) = ofs s (a + nl (ofs s a)) := by unfold rest; exact ofs_ofs
theorem num_ofs {s : ByteArray} {i : Nat} : num (ofs s i) ↔ i < s.size ∧ 50 ≤ (((bl s).getD i default).toNat : Int) ∧ (((bl s).getD i default).toNat : Int) ≤ 57 := by
  unfold num
  rw [ofs_get, Nat.add_zero]
  constructor
  · rintro ⟨⟨h1, h2⟩, h3⟩
    exact ⟨Classical.byContradiction fun h => h1 (ofs_end (by omega)), h2, h3⟩
  · rintro ⟨h1, h2, h3⟩
    exact ⟨⟨ofs_ne h1, h2⟩, h3⟩
structure Spl (s : ByteArray) (a i : Nat) : Prop where
  n : nl (ofs s a) = i - a
  le : a ≤ i
  sz : i ≤ s.size
theorem Spl.no {s : ByteArray} {a i : Nat} (h : Spl s a i) (k : ¬ (i < s.size ∧ 50 ≤ (((bl s).getD i default).toNat : Int) ∧ (((bl s).getD i default).toNat : Int) ≤ 57)) : cuE (ofs s a) = 1 ∧ spN s a = i := by
  have e : rest (ofs s a) = ofs s i := by rw [rest_ofs, h.n]; congr 1; have := h.le; omega
  have hn : ¬ num (rest (ofs s a)) := by rw [e]; exact fun x => k (num_ofs.1 x)
  have hle := h.le
  unfold cuE spN
  rw [if_neg hn, if_neg hn, h.n]
  exact ⟨rfl, by omega⟩
end Un
end Kb
