/- What reveal.Show computes, said of lists. No program in sight. -/
import Derived.Test.YtaolgnmpgnamnaaRm
import Derived.Test.YtaolgnmpgnamnaaTr
set_option linter.unusedSimpArgs false
set_option linter.unusedVariables false
namespace Kb
open Go
namespace Rv
open Tm
def oe (o : List Int) (i : Nat) : Int := o.getD i default
def argS (v : List DThing) (r : Int) (o : List Int) : Prop := Sound v ∧ (0 ≤ r ∧ r < v.length) ∧ o.length ≠ 0 ∧ o.length ≤ 64
instance (v : List DThing) (r : Int) (o : List Int) : Decidable (argS v r o) := by unfold argS; infer_instance
def stepE (v : List DThing) (r : Int) (o : List Int) (i : Nat) : Int := if (pathF v r (oe o i)).length = 0 ∨ ¬ (el v (oe o i)).Left = -1 then 4 else if oe o i ∈ o.take i then 5 else 0
def scanE (v : List DThing) (r : Int) (o : List Int) : Nat → Int
  | 0 => 0
  | n + 1 => if scanE v r o n = 0 then stepE v r o n else scanE v r o n
def showE (v : List DThing) (r : Int) (o : List Int) : Int := if argS v r o then scanE v r o o.length else 1
def showP (v : List DThing) (r : Int) (o : List Int) : List (List Int) := if showE v r o = 0 then o.map (pathF v r) else []
def showS (v : List DThing) (r : Int) (o : List Int) : List (List DThing) := if showE v r o = 0 then o.map fun a => viewF v (pathF v r a) else []
theorem scan_stop {v : List DThing} {r : Int} {o : List Int} {k : Nat} (h : scanE v r o k = 0) (hs : stepE v r o k ≠ 0) : ∀ n, k < n → scanE v r o n = stepE v r o k
  | n + 1, hn => by
    unfold scanE
    by_cases e : k = n
    · subst e; rw [if_pos h]
    · rw [scan_stop h hs n (by omega), if_neg hs]
section
variable {v : List DThing} {r : Int} {o : List Int} {k a : Int} {x : DThing}
theorem show_arg (h : ¬ argS v r o) : showE v r o = 1 ∧ showP v r o = [] ∧ showS v r o = [] := by
  have e : showE v r o = 1 := by unfold showE; rw [if_neg h]
  exact ⟨e, by unfold showP; rw [e]; rfl, by unfold showS; rw [e]; rfl⟩
theorem show_stop (h : argS v r o) (hk : k.toNat < o.length) (hs : scanE v r o k.toNat = 0) {e : Int} (he : stepE v r o k.toNat = e) (hn : e ≠ 0) : showE v r o = e ∧ showP v r o = [] ∧ showS v r o = [] := by
  have e1 : showE v r o = e := by unfold showE; rw [if_pos h, scan_stop hs (by rw [he]; exact hn) _ hk, he]
  exact ⟨e1, by unfold showP; rw [e1, if_neg hn], by unfold showS; rw [e1, if_neg hn]⟩
theorem show_ok (h : argS v r o) (hk : k.toNat = o.length) (hs : scanE v r o k.toNat = 0) : showE v r o = 0 ∧ showP v r o = o.map (pathF v r) ∧ showS v r o = o.map fun a => viewF v (pathF v r a) := by
  have e1 : showE v r o = 0 := by unfold showE; rw [if_pos h, ← hk, hs]
  exact ⟨e1, by unfold showP; rw [e1, if_pos rfl], by unfold showS; rw [e1, if_pos rfl]⟩
theorem step_4 (ha : a = o.getD k.toNat default) (hx : x = v.getD a.toNat default) (hq : ((pathF v r a).length : Int) = 0 ∨ ¬ x.Left = -1) : stepE v r o k.toNat = 4 := by
  unfold stepE oe el
  rw [← ha, ← hx, if_pos (by rcases hq with h | h; exact .inl (by omega); exact .inr h)]
theorem step_5 (ha : a = o.getD k.toNat default) (hx : x = v.getD a.toNat default) (hq : ¬ ((pathF v r a).length : Int) = 0 ∧ x.Left = -1) (hm : a ∈ o.take k.toNat) : stepE v r o k.toNat = 5 := by
  unfold stepE oe el
  rw [← ha, ← hx, if_neg (by rintro (h | h); exact hq.1 (by omega); exact h hq.2), if_pos hm]
theorem step_0 (ha : a = o.getD k.toNat default) (hx : x = v.getD a.toNat default) (hq : ¬ ((pathF v r a).length : Int) = 0 ∧ x.Left = -1) (hm : ¬ a ∈ o.take k.toNat) (h0 : 0 ≤ k) (hs : scanE v r o k.toNat = 0) : scanE v r o (k + 1).toNat = 0 := by
  rw [show (k + 1).toNat = k.toNat + 1 by omega]
  unfold scanE
  rw [if_pos hs]
  unfold stepE oe el
  rw [← ha, ← hx, if_neg (by rintro (h | h); exact hq.1 (by omega); exact h hq.2), if_neg hm]
theorem path_has (h : ¬ ((pathF v r a).length : Int) = 0) : 0 ≤ a ∧ a < v.length := (pathF_cond (l := v) (root := r) (leaf := a) (fun e => h (by omega))).2.2.1
theorem take_map {β : Type} {f : Int → List β} {m m2 : List (Fat β)} {s : SV} (h0 : 0 ≤ k) (hk : k < o.length) (ha : a = o.getD k.toNat default) (h : m.map (·.l) = (o.take k.toNat).map f) (h2 : m2 = m ++ [⟨f a, s⟩]) : m2.map (·.l) = (o.take (k + 1).toNat).map f := by
  rw [show (k + 1).toNat = k.toNat + 1 by omega]
  have hk' : k.toNat < o.length := by omega
  have e : o[k.toNat] = a := by rw [ha, List.getD_eq_getElem?_getD, List.getElem?_eq_getElem hk']; rfl
  rw [List.take_add_one, List.getElem?_eq_getElem hk', e, h2, List.map_append, h]
  simp
end
end Rv
end Kb
