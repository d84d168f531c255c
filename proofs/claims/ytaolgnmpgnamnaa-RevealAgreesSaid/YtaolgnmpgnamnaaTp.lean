/- Plain laws: the references of vault and tree. -/
import Derived.Test.YtaolgnmpgnamnaaTo
set_option linter.unusedVariables false
set_option linter.unusedSimpArgs false
namespace Kb
open Go (Value)
namespace Tm
def refOK (l : List DThing) (i : Int) (x : DThing) : Prop := x.Text = ByteArray.empty ∧ (0 ≤ x.Left ∧ x.Left < i) ∧ (0 ≤ x.Right ∧ x.Right < i) ∧ x.Value = (el l x.Left).Value + (el l x.Right).Value ∧ x.Blind = (el l x.Left).Blind + (el l x.Right).Blind ∧ x.Value ≤ 1125899906842624 ∧ x.Blind ≤ 1125899906842624
theorem pair_iff {l : List DThing} {i : Nat} (hi : i ≤ l.length) {x : DThing} : (pairE (l.take i) x.Left x.Right = 0 ∧ x = pairX (l.take i) x.Left x.Right) ↔ refOK l i x := by
  have e : ∀ a : Int, 0 ≤ a → a < i → el (l.take i) a = el l a := fun a h0 h => el_take h0 h
  constructor
  · rintro ⟨h1, h2⟩
    have hh : has (l.take i) x.Left ∧ has (l.take i) x.Right := by
      unfold pairE at h1
      split at h1
      · omega
      · rename_i hh; exact Decidable.not_not.1 hh
    have hb : ¬ (1125899906842624 < (pairX (l.take i) x.Left x.Right).Value ∨ 1125899906842624 < (pairX (l.take i) x.Left x.Right).Blind) := by
      unfold pairE at h1
      rw [if_neg (by simpa using hh)] at h1
      split at h1
      · omega
      · assumption
    rw [has_take hi, has_take hi] at hh
    rw [← h2] at hb
    refine ⟨congrArg DThing.Text h2, hh.1, hh.2, ?_, ?_, by omega, by omega⟩
    · rw [← e _ hh.1.1 hh.1.2, ← e _ hh.2.1 hh.2.2]; exact congrArg DThing.Value h2
    · rw [← e _ hh.1.1 hh.1.2, ← e _ hh.2.1 hh.2.2]; exact congrArg DThing.Blind h2
  · rintro ⟨h1, h2, h3, h4, h5, h6, h7⟩
    have hx : x = pairX (l.take i) x.Left x.Right := by
      rw [thing_ext]
      unfold pairX
      rw [e _ h2.1 h2.2, e _ h3.1 h3.2]
      exact ⟨h1, h4, h5, rfl, rfl⟩
    refine ⟨?_, hx⟩
    unfold pairE
    rw [if_neg (by rw [has_take hi, has_take hi]; simp; omega)]
    rw [← hx, if_neg (by omega)]
theorem okT_ref {l : List DThing} {k : Int} {x : DThing} (h0 : 0 ≤ k) (hk : k ≤ l.length) : okT (l.take k.toNat) x ↔ isLeaf x ∨ refOK l k x := by
  unfold okT
  rw [pair_iff (by omega), show ((k.toNat : Nat) : Int) = k by omega]
theorem sound_no_ref {l : List DThing} {k : Int} {x : DThing} (h0 : 0 ≤ k) (hk : k < l.length) (hx : x = l.getD k.toNat default) (h1 : ¬ isLeaf x) (h2 : ¬ refOK l k x) : false = decide (Sound l) := by
  symm; rw [decide_eq_false_iff_not]; intro hs
  have := hs.2 k.toNat (by omega)
  rw [← hx, okT_ref h0 (by omega)] at this
  rcases this with h | h
  · exact h1 h
  · exact h2 h
/-! ### putting things into a vault, one by one -/
def leafE (v : List DThing) (t : ByteArray) (a b : Int) : Int := if ¬ (Sound v ∧ isLeaf (leafT t a b)) then 1 else if (2000 : Int) ≤ v.length then 6 else 0
def leafV (v : List DThing) (t : ByteArray) (a b : Int) : List DThing := if leafE v t a b = 0 then v ++ [leafT t a b] else []
def leafI (v : List DThing) (t : ByteArray) (a b : Int) : Int := if leafE v t a b = 0 then v.length else -1
def pairRE (v : List DThing) (a b : Int) : Int := if ¬ Sound v then 1 else if ¬ (has v a ∧ has v b) then 4 else if (2000 : Int) ≤ v.length then 6 else if 1125899906842624 < (pairX v a b).Value ∨ 1125899906842624 < (pairX v a b).Blind then 3 else 0
def pairV (v : List DThing) (a b : Int) : List DThing := if pairRE v a b = 0 then v ++ [pairX v a b] else []
def pairI (v : List DThing) (a b : Int) : Int := if pairRE v a b = 0 then v.length else -1
theorem leafV_no {v : List DThing} {t : ByteArray} {a b e : Int} (h : leafE v t a b = e) (he : e ≠ 0) : leafV v t a b = [] ∧ leafI v t a b = -1 := by unfold leafV leafI; rw [if_neg (by omega), if_neg (by omega)]; exact ⟨rfl, rfl⟩
theorem leafV_ok {v : List DThing} {t : ByteArray} {a b : Int} (h : leafE v t a b = 0) : leafV v t a b = v ++ [leafT t a b] ∧ leafI v t a b = v.length := by unfold leafV leafI; rw [if_pos h, if_pos h]; exact ⟨rfl, rfl⟩
theorem leafE_bad {v : List DThing} {t : ByteArray} {a b : Int} (h : ¬ (Sound v ∧ isLeaf (leafT t a b))) : leafE v t a b = 1 := if_pos h
theorem leafE_full {v : List DThing} {t : ByteArray} {a b : Int} (h : Sound v ∧ isLeaf (leafT t a b)) (h2 : (2000 : Int) ≤ v.length) : leafE v t a b = 6 := by unfold leafE; rw [if_neg (by simpa using h), if_pos h2]
theorem leafE_ok {v : List DThing} {t : ByteArray} {a b : Int} (h : Sound v ∧ isLeaf (leafT t a b)) (h2 : ¬ (2000 : Int) ≤ v.length) : leafE v t a b = 0 := by unfold leafE; rw [if_neg (by simpa using h), if_neg h2]
theorem pairV_no {v : List DThing} {a b e : Int} (h : pairRE v a b = e) (he : e ≠ 0) : pairV v a b = [] ∧ pairI v a b = -1 := by unfold pairV pairI; rw [if_neg (by omega), if_neg (by omega)]; exact ⟨rfl, rfl⟩
theorem pairV_ok {v : List DThing} {a b : Int} (h : pairRE v a b = 0) : pairV v a b = v ++ [pairX v a b] ∧ pairI v a b = v.length := by unfold pairV pairI; rw [if_pos h, if_pos h]; exact ⟨rfl, rfl⟩
theorem pairRE_1 {v : List DThing} {a b : Int} (h : ¬ Sound v) : pairRE v a b = 1 := if_pos h
theorem pairRE_4 {v : List DThing} {a b : Int} (h : Sound v) (h2 : ¬ (has v a ∧ has v b)) : pairRE v a b = 4 := by unfold pairRE; rw [if_neg (by simpa using h), if_pos h2]
theorem pairRE_6 {v : List DThing} {a b : Int} (h : Sound v) (h2 : has v a ∧ has v b) (h3 : (2000 : Int) ≤ v.length) : pairRE v a b = 6 := by unfold pairRE; rw [if_neg (by simpa using h), if_neg (by simpa using h2), if_pos h3]
theorem pairRE_3 {v : List DThing} {a b : Int} {x y : DThing} (hx : x = v.getD a.toNat default) (hy : y = v.getD b.toNat default) (h : Sound v) (h2 : has v a ∧ has v b) (h3 : ¬ (2000 : Int) ≤ v.length) (h4 : 1125899906842624 < x.Value + y.Value ∨ 1125899906842624 < x.Blind + y.Blind) : pairRE v a b = 3 := by
  subst hx hy
  unfold pairRE; rw [if_neg (by simpa using h), if_neg (by simpa using h2), if_neg h3]; exact if_pos h4
theorem pairRE_0 {v : List DThing} {a b : Int} {x y : DThing} (hx : x = v.getD a.toNat default) (hy : y = v.getD b.toNat default) (h : Sound v) (h2 : has v a ∧ has v b) (h3 : ¬ (2000 : Int) ≤ v.length) (h4 : ¬ (1125899906842624 < x.Value + y.Value ∨ 1125899906842624 < x.Blind + y.Blind)) : pairRE v a b = 0 := by
  subst hx hy
  unfold pairRE; rw [if_neg (by simpa using h), if_neg (by simpa using h2), if_neg h3]; exact if_neg h4
theorem pairX_mk {v : List DThing} {a b p q : Int} {x y : DThing} (hx : x = v.getD a.toNat default) (hy : y = v.getD b.toNat default) (hp : p = x.Value + y.Value) (hq : q = x.Blind + y.Blind) : DThing.mk ByteArray.empty p q a b = pairX v a b := by subst hx hy hp hq; rfl
theorem sound_append {v : List DThing} {x : DThing} (h : Sound v) (hl : v.length < 2000) (hx : okT v x) : Sound (v ++ [x]) := by
  refine ⟨by simp; omega, fun i hi => ?_⟩
  simp at hi
  by_cases e : i = v.length
  · subst e
    simpa using hx
  · have h1 := h.2 i (by omega)
    have e1 : (v ++ [x]).take i = v.take i := List.take_append_of_le_length (by omega)
    have e2 : (v ++ [x]).getD i default = v.getD i default := by
      rw [List.getD_eq_getElem?_getD, List.getElem?_append_left (by omega), ← List.getD_eq_getElem?_getD]
    rw [e1, e2]; exact h1
theorem okT_leaf {v : List DThing} {x : DThing} (h : isLeaf x) : okT v x := .inl h
theorem okT_pair {v : List DThing} {a b : Int} (h : has v a ∧ has v b) (h2 : ¬ (1125899906842624 < (pairX v a b).Value ∨ 1125899906842624 < (pairX v a b).Blind)) : okT v (pairX v a b) := by
  right
  refine ⟨?_, rfl⟩
  show pairE v a b = 0
  unfold pairE; rw [if_neg (by simpa using h), if_neg h2]
/-! ### bounds -/
def fewP (v : List DThing) (most : Int) : Prop := (∀ i, i < v.length → (i : Int) < most → (v.getD i default).Text.size ≤ 100) ∧ (v.length : Int) ≤ most
instance (v : List DThing) (most : Int) : Decidable (fewP v most) := by unfold fewP; infer_instance
theorem few_step {v : List DThing} {k k' : Int} {s : Int} {x : DThing} (hp : ∀ i, i < k.toNat → (v.getD i default).Text.size ≤ 100) (h0 : 0 ≤ k) (hk' : k' = k + 1) (hx : x = v.getD k.toNat default) (hs : s = x.Text.size) (h : ¬ 100 < s) : ∀ i, i < k'.toNat → (v.getD i default).Text.size ≤ 100 := by
  intro i hi
  by_cases e : i = k.toNat
  · subst e; rw [← hx]; omega
  · exact hp i (by omega)
theorem few_no {v : List DThing} {most k s : Int} {x : DThing} (h0 : 0 ≤ k) (hk : k < v.length) (hm : k < most) (hx : x = v.getD k.toNat default) (hs : s = x.Text.size) (h : 100 < s) : false = decide (fewP v most) := by
  symm; rw [decide_eq_false_iff_not]; rintro ⟨h1, _⟩
  have := h1 k.toNat (by omega) (by omega)
  rw [← hx] at this
  omega
theorem few_end {v : List DThing} {most k n : Int} {p : Bool} (hp : ∀ i, i < k.toNat → (v.getD i default).Text.size ≤ 100) (h0 : 0 ≤ k) (hk : ¬ (k < v.length ∧ k < most)) (hn : n = v.length) (hpp : p = decide (n ≤ most)) : p = decide (fewP v most) := by
  subst hpp hn
  rw [Bool.eq_iff_iff, decide_eq_true_iff, decide_eq_true_iff]
  exact ⟨fun h => ⟨fun i hi hm => hp i (by omega), h⟩, fun h => h.2⟩
def longT (n : Int) : Prop := 100 < n ∧ (n ≤ 8000 ∨ 8100 < n)
instance (n : Int) : Decidable (longT n) := by unfold longT; infer_instance
def fewS (texts : List ByteArray) (most : Int) : Prop := (∀ i, i < texts.length → (i : Int) ≤ most → ¬ longT (texts.getD i default).size) ∧ (texts.length : Int) ≤ most
instance (texts : List ByteArray) (most : Int) : Decidable (fewS texts most) := by unfold fewS; infer_instance
theorem fewS_no {texts : List ByteArray} {most k s : Int} {x : ByteArray} (h0 : 0 ≤ k) (hk : k < texts.length) (hm : k ≤ most) (hx : x = texts.getD k.toNat default) (hs : s = x.size) (h : 100 < s ∧ (s ≤ 8000 ∨ 8100 < s)) : false = decide (fewS texts most) := by
  symm; rw [decide_eq_false_iff_not]; rintro ⟨h1, _⟩
  have := h1 k.toNat (by omega) (by omega)
  rw [← hx, ← hs] at this
  exact this h
theorem fewS_step {texts : List ByteArray} {k k' s : Int} {x : ByteArray} (hp : ∀ i, i < k.toNat → ¬ longT (texts.getD i default).size) (h0 : 0 ≤ k) (hk' : k' = k + 1) (hx : x = texts.getD k.toNat default) (hs : s = x.size) (h : ¬ 100 < s ∨ (¬ s ≤ 8000 ∧ ¬ 8100 < s)) : ∀ i, i < k'.toNat → ¬ longT (texts.getD i default).size := by
  intro i hi
  by_cases e : i = k.toNat
  · subst e; rw [← hx, ← hs]; unfold longT; omega
  · exact hp i (by omega)
theorem fewS_end {texts : List ByteArray} {most k n : Int} {p : Bool} (hp : ∀ i, i < k.toNat → ¬ longT (texts.getD i default).size) (h0 : 0 ≤ k) (hk : ¬ (k < texts.length ∧ k ≤ most)) (hn : n = texts.length) (hpp : p = decide (n ≤ most)) : p = decide (fewS texts most) := by
  subst hpp hn
  rw [Bool.eq_iff_iff, decide_eq_true_iff, decide_eq_true_iff]
  exact ⟨fun h => ⟨fun i hi hm => hp i (by omega), h⟩, fun h => h.2⟩
/-! ### equal lists -/
theorem same_no_len {α : Type} [DecidableEq α] {a b : List α} {m n : Int} (hm : m = a.length) (hn : n = b.length) (h : ¬ m = n) : false = decide (a = b) := by
  symm; rw [decide_eq_false_iff_not]; intro e; subst e; omega
theorem same_no {α : Type} [Inhabited α] [DecidableEq α] {a b : List α} {k : Int} {x y : α} (hx : x = a.getD k.toNat default) (hy : y = b.getD k.toNat default) (h : ¬ x = y) : false = decide (a = b) := by
  symm; rw [decide_eq_false_iff_not]; intro e; subst e; exact h (hx.trans hy.symm)
theorem same_step {α : Type} [Inhabited α] {a b : List α} {k k' : Int} {x y : α} (hp : ∀ i, i < k.toNat → a.getD i default = b.getD i default) (h0 : 0 ≤ k) (hk' : k' = k + 1) (hx : x = a.getD k.toNat default) (hy : y = b.getD k.toNat default) (h : x = y) : ∀ i, i < k'.toNat → a.getD i default = b.getD i default := by
  intro i hi
  by_cases e : i = k.toNat
  · subst e; rw [← hx, ← hy]; exact h
  · exact hp i (by omega)
theorem same_yes {α : Type} [Inhabited α] [DecidableEq α] {a b : List α} {k : Int} (hp : ∀ i, i < k.toNat → a.getD i default = b.getD i default) (hl : a.length = b.length) (hk : (a.length : Int) ≤ k) : true = decide (a = b) := by
  symm; rw [decide_eq_true_iff]
  refine List.ext_getElem hl fun i h1 h2 => ?_
  have := hp i (by omega)
  simpa [h1, h2] using this
/-! ### the table of paths -/
theorem rest_len (l : List DThing) (leaf : Int) : ∀ (n : Nat) (i : Int), 1 ≤ (pathN l leaf n i).length ∧ (pathN l leaf n i).length ≤ n + 1
  | 0, i => by simp [pathN]
  | n + 1, i => by
    have ih := rest_len l leaf n (nxt l leaf i)
    rw [pathN]
    split
    · simp
    · simp; omega
def tabOK (l : List DThing) (leaf : Int) (tab : List (Fat Int)) (i : Int) : Prop :=
  tab.length = l.length ∧ ∀ j : Nat, j < l.length → (tab.getD j default).l = if (j : Int) < i ∧ near l leaf j = true then rest l leaf j else []
theorem tab_start {l : List DThing} {leaf : Int} {v : SV} (h0 : 0 ≤ leaf) (h : leaf < l.length) {t : List (Fat Int)} (ht : t = (List.replicate l.length default).set leaf.toNat ⟨[leaf], v⟩) : tabOK l leaf t (leaf + 1) := by
  subst ht
  refine ⟨by simp, fun j hj => ?_⟩
  by_cases e : j = leaf.toNat
  · subst e
    have ej : ((leaf.toNat : Nat) : Int) = leaf := by omega
    rw [ej, if_pos ⟨by omega, near_self h0 h⟩, rest_self]
    simp [hj]
  · have : ((List.replicate l.length (default : Fat Int)).set leaf.toNat ⟨[leaf], v⟩).getD j default = default := by
      rw [List.getD_eq_getElem?_getD, List.getElem?_set_ne (fun h => e h.symm)]
      simp [hj]
    rw [this]
    symm
    refine if_neg ?_
    rintro ⟨h1, h2⟩
    have := near_ge (by omega) (by omega) h2
    omega
theorem tab_get {l : List DThing} {leaf i a : Int} {tab : List (Fat Int)} {x : Fat Int} (h : tabOK l leaf tab i) (h0 : 0 ≤ a) (ha : a < i) (hi : i ≤ l.length) (hx : x = tab.getD a.toNat default) : x.l = if near l leaf a = true then rest l leaf a else [] := by
  have := h.2 a.toNat (by omega)
  rw [← hx, show ((a.toNat : Nat) : Int) = a by omega] at this
  rw [this]
  by_cases hn : near l leaf a = true
  · rw [if_pos ⟨ha, hn⟩, if_pos hn]
  · rw [if_neg (fun h => hn h.2), if_neg hn]
theorem tab_near {l : List DThing} {leaf i a n : Int} {tab : List (Fat Int)} {x : Fat Int} (h : tabOK l leaf tab i) (h0 : 0 ≤ a) (ha : a < i) (hi : i ≤ l.length) (hx : x = tab.getD a.toNat default) (hn : n = x.l.length) : (0 < n ↔ near l leaf a = true) ∧ (0 < n → x.l = rest l leaf a) ∧ n ≤ l.length := by
  have e := tab_get h h0 ha hi hx
  have hl := rest_len l leaf a.toNat a
  unfold rest at e
  by_cases hq : near l leaf a = true
  · rw [if_pos hq] at e
    rw [hn, e]
    exact ⟨⟨fun _ => hq, fun _ => by omega⟩, fun _ => rfl, by omega⟩
  · rw [if_neg hq] at e
    rw [hn, e]
    exact ⟨⟨fun h => by simp at h, fun h => absurd h hq⟩, fun h => by simp at h, by simp⟩
theorem tab_next {l : List DThing} {leaf i i' : Int} {tab tab' : List (Fat Int)} (h : tabOK l leaf tab i) (hl : tab'.length = tab.length) (hi' : i' = i + 1) (h0 : 0 ≤ i) (hi : i < l.length) (he : ∀ j : Nat, j ≠ i.toNat → tab'.getD j default = tab.getD j default)
    (hn : (tab'.getD i.toNat default).l = if near l leaf i = true then rest l leaf i else []) : tabOK l leaf tab' i' := by
  subst hi'
  refine ⟨hl.trans h.1, fun j hj => ?_⟩
  by_cases e : j = i.toNat
  · subst e
    have ej : ((i.toNat : Nat) : Int) = i := by omega
    rw [hn, ej]
    by_cases hq : near l leaf i = true
    · rw [if_pos hq, if_pos ⟨by omega, hq⟩]
    · rw [if_neg hq, if_neg (fun h => hq h.2)]
  · rw [he j e, h.2 j hj]
    by_cases hq : near l leaf j = true
    · by_cases hji : (j : Int) < i
      · rw [if_pos ⟨hji, hq⟩, if_pos ⟨by omega, hq⟩]
      · rw [if_neg (fun h => hji h.1), if_neg (fun h => hji (by omega))]
    · rw [if_neg (fun h => hq h.2), if_neg (fun h => hq h.2)]
theorem tab_same {l : List DThing} {leaf i i' : Int} {tab : List (Fat Int)} (h : tabOK l leaf tab i) (hi' : i' = i + 1) (h0 : 0 ≤ i) (hi : i < l.length) (hn : near l leaf i = false) : tabOK l leaf tab i' := by
  refine tab_next h rfl hi' h0 hi (fun _ _ => rfl) ?_
  rw [h.2 i.toNat (by omega), if_neg (by omega), hn]; rfl
theorem tab_skip {l : List DThing} {leaf i i' : Int} {tab : List (Fat Int)} {x : DThing} (hS : Sound l) (h : tabOK l leaf tab i) (hl : 0 ≤ leaf) (hli : leaf < i) (hi : i < l.length) (hx : x = l.getD i.toNat default) (hi' : i' = i + 1) (hq : x.Left = -1) : tabOK l leaf tab i' := by
  refine tab_same h hi' (by omega) hi ?_
  rw [near_up hS hl hli hi, show el l i = x from hx.symm, hq]; rfl
theorem near_not {l : List DThing} {leaf i : Int} {x : DThing} (hS : Sound l) (hl : 0 ≤ leaf) (hli : leaf < i) (hi : i < l.length) (hx : x = l.getD i.toNat default) (hq : ¬ x.Left = -1) : (near l leaf i = true ↔ near l leaf (min x.Left x.Right) = true ∨ near l leaf (max x.Left x.Right) = true) := by
  rw [near_up hS hl hli hi, show el l i = x from hx.symm, Bool.and_eq_true, Bool.or_eq_true]
  rcases Int.le_total x.Left x.Right with h | h
  · rw [Int.min_eq_left h, Int.max_eq_right h]; simp [hq]
  · rw [Int.min_eq_right h, Int.max_eq_left h]; simp [hq, or_comm]
theorem tab_none {l : List DThing} {leaf i i' a b : Int} {tab : List (Fat Int)} {x : DThing} (hS : Sound l) (h : tabOK l leaf tab i) (hl : 0 ≤ leaf) (hli : leaf < i) (hi : i < l.length) (hx : x = l.getD i.toNat default) (hi' : i' = i + 1) (hq : ¬ x.Left = -1) (ha : a = min x.Left x.Right) (hb : b = max x.Left x.Right)
    (h1 : ¬ near l leaf a = true) (h2 : ¬ near l leaf b = true) : tabOK l leaf tab i' := by
  refine tab_same h hi' (by omega) hi ?_
  have := near_not hS hl hli hi hx hq
  rw [← ha, ← hb] at this
  cases hn : near l leaf i with
  | false => rfl
  | true => rcases this.1 hn with h | h
            · exact absurd h h1
            · exact absurd h h2
theorem tab_set {l : List DThing} {leaf i i' a b c : Int} {tab tab' : List (Fat Int)} {x : DThing} {p : List Int} {v : SV} (hS : Sound l) (h : tabOK l leaf tab i) (hl : 0 ≤ leaf) (hli : leaf < i) (hi : i < l.length) (hx : x = l.getD i.toNat default) (hi' : i' = i + 1) (hq : ¬ x.Left = -1) (ha : a = min x.Left x.Right) (hb : b = max x.Left x.Right)
    (hc : (c = a ∧ near l leaf a = true) ∨ (c = b ∧ ¬ near l leaf a = true ∧ near l leaf b = true)) (hp : p = i :: rest l leaf c) (ht : tab' = tab.set i.toNat ⟨p, v⟩) : tabOK l leaf tab' i' := by
  subst ht
  have hn : near l leaf i = true := by
    rw [near_not hS hl hli hi hx hq, ← ha, ← hb]
    rcases hc with h | h
    · exact .inl h.2
    · exact .inr h.2.2
  have hlt : i.toNat < tab.length := by have := h.1; omega
  refine tab_next h (by simp) hi' (by omega) hi (fun j hj => ?_) ?_
  · rw [List.getD_eq_getElem?_getD, List.getElem?_set_ne (fun h => hj h.symm), ← List.getD_eq_getElem?_getD]
  · rw [if_pos hn]
    have : ((tab.set i.toNat ⟨p, v⟩).getD i.toNat default).l = p := by simp [hlt]
    rw [this, rest_step hS hl (by omega) hi hn (by omega), hp]
    have hnx : nxt l leaf i = c := by
      unfold nxt
      rw [show el l i = x from hx.symm, ← ha, ← hb]
      rcases hc with h | h
      · rw [if_pos h.2, h.1]
      · rw [if_neg h.2.1, h.1]
    rw [hnx]
theorem tab_end {l : List DThing} {leaf root i : Int} {tab : List (Fat Int)} {x : Fat Int} (hS : Sound l) (h : tabOK l leaf tab i) (h1 : 0 ≤ root ∧ root < l.length) (h2 : 0 ≤ leaf ∧ leaf < l.length) (hi : root < i) (hx : x = tab.getD root.toNat default) : x.l = pathF l root leaf := by
  have := h.2 root.toNat (by omega)
  rw [← hx, show ((root.toNat : Nat) : Int) = root by omega] at this
  rw [this]
  by_cases hn : near l leaf root = true
  · rw [if_pos ⟨hi, hn⟩, pathF_yes hS h1 h2 hn]
  · rw [if_neg (fun h => hn h.2), pathF_no (fun h => hn h.2.2.2)]
/-! ### building, thing by thing -/
theorem leaf_one {v texts : _} {values blinds : List Int} {b : List DThing} {k k' x y : Int} {s : ByteArray} {r : List DThing} (h : b = v ++ leavesN texts values blinds k.toNat) (hS : Sound b) (hlt : b.length < 2000) (h0 : 0 ≤ k) (hk' : k' = k + 1) (hs : s = texts.getD k.toNat default) (hx : x = values.getD k.toNat default) (hy : y = blinds.getD k.toNat default)
    (hl : isLeaf (leafAt texts values blinds k.toNat)) (hr : r = leafV b s x y) : leafE b s x y = 0 ∧ leafI b s x y = b.length ∧ r = v ++ leavesN texts values blinds k'.toNat ∧ Sound r := by
  have e : leafT s x y = leafAt texts values blinds k.toNat := by subst hs hx hy; rfl
  have h1 := leafE_ok (v := b) (t := s) (a := x) (b := y) ⟨hS, by rw [e]; exact hl⟩ (by omega)
  obtain ⟨h2, h3⟩ := leafV_ok h1
  refine ⟨h1, h3, ?_, ?_⟩
  · rw [hr, h2]
    exact leaves_step h h0 hk' hs hx hy rfl
  · rw [hr, h2]
    exact sound_append hS hlt (okT_leaf (by rw [e]; exact hl))
theorem pair_one {b r : List DThing} {x y : Int} (hS : Sound b) (hlt : b.length < 2000) (h : (0 ≤ x ∧ x < b.length) ∧ (0 ≤ y ∧ y < b.length)) (hv : (el b x).Value + (el b y).Value ≤ 1125899906842624) (hb : (el b x).Blind + (el b y).Blind ≤ 1125899906842624) (hr : r = pairV b x y) :
    pairRE b x y = 0 ∧ pairI b x y = b.length ∧ r = b ++ [pairX b x y] ∧ Sound r := by
  have hh : has b x ∧ has b y := h
  have h1 := pairRE_0 (v := b) (a := x) (b := y) rfl rfl hS hh (by omega) (by unfold el at hv hb; omega)
  obtain ⟨h2, h3⟩ := pairV_ok h1
  refine ⟨h1, h3, by rw [hr, h2], ?_⟩
  rw [hr, h2]
  exact sound_append hS hlt (okT_pair hh (by simp only [pairX]; omega))
theorem Lev.two_le {th : List DThing} {pre l rest : List Int} {x y S B : Int} (h : Lev th (pre ++ l) S B) (hd : l = x :: y :: rest) : (el th x).Value + (el th y).Value ≤ S ∧ (el th x).Blind + (el th y).Blind ≤ B := by
  subst hd
  have hv := h.v
  have hb := h.b
  have nn : ∀ (f : Int → Int) (m : List Int), (∀ a ∈ m, 0 ≤ f a) → 0 ≤ (m.map f).sum := by
    intro f m
    induction m with
    | nil => simp
    | cons a m ih =>
      intro h
      have := ih fun a ha => h a (by simp [ha])
      have := h a (by simp)
      simp; omega
  have p1 := nn (fun a => (el th a).Value) pre fun a ha => (h.has a (by simp [ha])).2.1
  have p2 := nn (fun a => (el th a).Value) rest fun a ha => (h.has a (by simp [ha])).2.1
  have q1 := nn (fun a => (el th a).Blind) pre fun a ha => (h.has a (by simp [ha])).2.2
  have q2 := nn (fun a => (el th a).Blind) rest fun a ha => (h.has a (by simp [ha])).2.2
  unfold sumV at hv
  unfold sumB at hb
  simp only [List.map_append, List.map_cons, List.sum_append, List.sum_cons] at hv hb
  omega
/-- the last one of a level of odd length -/
theorem pair_last {th b : List DThing} {l next next' : List Int} {i i' x S B : Int} (hL : Lev b (next ++ l.drop i.toNat) S B) (hP : pairUp th l = ((pairUp b (l.drop i.toNat)).1, next ++ (pairUp b (l.drop i.toNat)).2)) (h0 : 0 ≤ i) (hi : i = (l.length : Int) - 1) (hx : x = l.getD i.toNat default) (hi' : i' = i + 2) (hn : next' = next ++ [x]) :
    Lev b (next' ++ l.drop i'.toNat) S B ∧ pairUp th l = ((pairUp b (l.drop i'.toNat)).1, next' ++ (pairUp b (l.drop i'.toNat)).2) := by
  have h1 := pair_odd hP h0 hi rfl hx hn
  have h2 := lev_odd hL h0 hi rfl hx hn
  have hd : l.drop i'.toNat = [] := List.drop_of_length_le (by omega)
  rw [hd, h1]
  exact ⟨by simpa using h2, by simp [pairUp]⟩
theorem pair_over {th b : List DThing} {l next : List Int} {i S B : Int} (hL : Lev b (next ++ l.drop i.toNat) S B) (hP : pairUp th l = ((pairUp b (l.drop i.toNat)).1, next ++ (pairUp b (l.drop i.toNat)).2)) (hi : (l.length : Int) ≤ i) : pairUp th l = (b, next) ∧ Lev b next S B ∧ next.length = (l.length + 1) / 2 := by
  have hd : l.drop i.toNat = [] := List.drop_of_length_le (by omega)
  rw [hd] at hP hL
  have e : pairUp th l = (b, next) := by rw [hP]; simp [pairUp]
  refine ⟨e, by simpa using hL, ?_⟩
  have := pairUp_length th l
  rw [e] at this; exact this
def exT : List DThing := [⟨⟨#[97]⟩, 30, 7, -1, -1⟩, ⟨⟨#[98]⟩, 20, 8, -1, -1⟩, ⟨⟨#[99]⟩, 10, 9, -1, -1⟩, ⟨ByteArray.empty, 50, 15, 0, 1⟩, ⟨ByteArray.empty, 60, 24, 3, 2⟩]
end Tm
end Kb
