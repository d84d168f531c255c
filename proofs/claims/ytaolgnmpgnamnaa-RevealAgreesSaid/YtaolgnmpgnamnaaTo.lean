/- Plain laws: building trees of sums. -/
import Derived.Test.YtaolgnmpgnamnaaTn
set_option linter.unusedVariables false
set_option linter.unusedSimpArgs false
namespace Kb
namespace Tm
theorem sound_one {x : DThing} : Sound [x] ↔ isLeaf x := by
  unfold Sound okTo okT
  constructor
  · rintro ⟨_, h⟩
    rcases h 0 (by simp) with h | ⟨h, _⟩
    · simpa using h
    · exfalso; simp [pairE, has] at h
  · intro h
    refine ⟨by simp, fun i hi => ?_⟩
    have : i = 0 := by simp at hi; exact hi
    subst this
    exact .inl (by simpa using h)
def leafT (t : ByteArray) (v b : Int) : DThing := ⟨t, v, b, -1, -1⟩
def leafAt (texts : List ByteArray) (values blinds : List Int) (i : Nat) : DThing := leafT (texts.getD i default) (values.getD i default) (blinds.getD i default)
def leavesN (texts : List ByteArray) (values blinds : List Int) (n : Nat) : List DThing := (List.range n).map (leafAt texts values blinds)
def idsN (a n : Nat) : List Int := (List.range n).map fun i => ((a + i : Nat) : Int)
def pairUp : List DThing → List Int → List DThing × List Int
  | th, a :: b :: rest => ((pairUp (th ++ [pairX th a b]) rest).1, (th.length : Int) :: (pairUp (th ++ [pairX th a b]) rest).2)
  | th, l => (th, l)
def up : Nat → List DThing → List Int → List DThing × List Int
  | 0, th, l => (th, l)
  | n + 1, th, l => if 1 < l.length then up n (pairUp th l).1 (pairUp th l).2 else (th, l)
def argsOK (v : List DThing) (texts : List ByteArray) (values blinds : List Int) : Prop :=
  Sound v ∧ texts.length ≠ 0 ∧ values.length = texts.length ∧ blinds.length = texts.length ∧ ∀ i, i < texts.length → isLeaf (leafAt texts values blinds i)
instance (v : List DThing) (texts : List ByteArray) (values blinds : List Int) : Decidable (argsOK v texts values blinds) := by unfold argsOK; infer_instance
def buildE (v : List DThing) (texts : List ByteArray) (values blinds : List Int) : Int :=
  if ¬ argsOK v texts values blinds then 1 else if 64 < texts.length ∨ 2000 < (v.length : Int) + 2 * texts.length - 1 then 6 else 0
def built (v : List DThing) (texts : List ByteArray) (values blinds : List Int) : List DThing × List Int :=
  up texts.length (v ++ leavesN texts values blinds texts.length) (idsN v.length texts.length)
def buildT (v : List DThing) (texts : List ByteArray) (values blinds : List Int) : List DThing := if buildE v texts values blinds = 0 then (built v texts values blinds).1 else []
def buildR (v : List DThing) (texts : List ByteArray) (values blinds : List Int) : Int := if buildE v texts values blinds = 0 then (built v texts values blinds).2.getD 0 default else -1
def buildL (v : List DThing) (texts : List ByteArray) (values blinds : List Int) : List Int := if buildE v texts values blinds = 0 then idsN v.length texts.length else []
theorem build_arg {v : List DThing} {texts : List ByteArray} {values blinds : List Int} (h : ¬ argsOK v texts values blinds) : buildE v texts values blinds = 1 ∧ buildT v texts values blinds = [] ∧ buildR v texts values blinds = -1 ∧ buildL v texts values blinds = [] := by
  have e : buildE v texts values blinds = 1 := by unfold buildE; rw [if_pos h]
  refine ⟨e, ?_, ?_, ?_⟩
  · unfold buildT; rw [e]; rfl
  · unfold buildR; rw [e]; rfl
  · unfold buildL; rw [e]; rfl
theorem build_full {v : List DThing} {texts : List ByteArray} {values blinds : List Int} (h : argsOK v texts values blinds) (h2 : 64 < texts.length ∨ 2000 < (v.length : Int) + 2 * texts.length - 1) : buildE v texts values blinds = 6 ∧ buildT v texts values blinds = [] ∧ buildR v texts values blinds = -1 ∧ buildL v texts values blinds = [] := by
  have e : buildE v texts values blinds = 6 := by unfold buildE; rw [if_neg (by simpa using h), if_pos h2]
  refine ⟨e, ?_, ?_, ?_⟩
  · unfold buildT; rw [e]; rfl
  · unfold buildR; rw [e]; rfl
  · unfold buildL; rw [e]; rfl
theorem build_ok {v : List DThing} {texts : List ByteArray} {values blinds : List Int} (h : argsOK v texts values blinds) (h2 : ¬ (64 < texts.length ∨ 2000 < (v.length : Int) + 2 * texts.length - 1)) :
    buildE v texts values blinds = 0 ∧ buildT v texts values blinds = (built v texts values blinds).1 ∧ buildR v texts values blinds = (built v texts values blinds).2.getD 0 default ∧ buildL v texts values blinds = idsN v.length texts.length := by
  have e : buildE v texts values blinds = 0 := by unfold buildE; rw [if_neg (by simpa using h), if_neg h2]
  refine ⟨e, ?_, ?_, ?_⟩
  · unfold buildT; rw [e]; rfl
  · unfold buildR; rw [e]; rfl
  · unfold buildL; rw [e]; rfl
@[simp] theorem leavesN_length (texts : List ByteArray) (values blinds : List Int) (n : Nat) : (leavesN texts values blinds n).length = n := by simp [leavesN]
@[simp] theorem idsN_length (a n : Nat) : (idsN a n).length = n := by simp [idsN]
theorem leavesN_succ (texts : List ByteArray) (values blinds : List Int) (n : Nat) : leavesN texts values blinds (n + 1) = leavesN texts values blinds n ++ [leafAt texts values blinds n] := by
  unfold leavesN; rw [List.range_succ, List.map_append]; rfl
theorem idsN_succ (a n : Nat) : idsN a (n + 1) = idsN a n ++ [((a + n : Nat) : Int)] := by unfold idsN; rw [List.range_succ, List.map_append]; rfl
/-! ### what holds of a level -/
def sumV (th : List DThing) (l : List Int) : Int := (l.map fun a => (el th a).Value).sum
def sumB (th : List DThing) (l : List Int) : Int := (l.map fun a => (el th a).Blind).sum
structure Lev (th : List DThing) (l : List Int) (S B : Int) : Prop where
  has : ∀ a ∈ l, has th a ∧ 0 ≤ (el th a).Value ∧ 0 ≤ (el th a).Blind
  v : sumV th l = S
  b : sumB th l = B
theorem el_append {th : List DThing} {x : DThing} {a : Int} (h : Tm.has th a) : el (th ++ [x]) a = el th a := by
  unfold Tm.has at h
  unfold el
  rw [List.getD_eq_getElem?_getD, List.getElem?_append_left (by omega), ← List.getD_eq_getElem?_getD]
theorem el_append_more {th m : List DThing} {a : Int} (h : Tm.has th a) : el (th ++ m) a = el th a := by
  unfold Tm.has at h
  unfold el
  rw [List.getD_eq_getElem?_getD, List.getElem?_append_left (by omega), ← List.getD_eq_getElem?_getD]
theorem el_last {th : List DThing} {x : DThing} : el (th ++ [x]) (th.length : Int) = x := by unfold el; simp
theorem has_append {th m : List DThing} {a : Int} (h : Tm.has th a) : Tm.has (th ++ m) a := by unfold Tm.has at *; simp; omega
theorem sum_le {f : Int → Int} : ∀ {l : List Int}, (∀ a ∈ l, 0 ≤ f a) → ∀ a ∈ l, f a ≤ (l.map f).sum
  | [], _, a, h => by cases h
  | x :: l, h0, a, h => by
    have h1 := h0 x (by simp)
    have hs : 0 ≤ (l.map f).sum := by
      clear h
      induction l with
      | nil => simp
      | cons y l ih =>
        have := ih fun a ha => h0 a (by simp at ha ⊢; rcases ha with ha | ha <;> simp [ha])
        have := h0 y (by simp)
        simp; omega
    rcases List.mem_cons.1 h with rfl | h
    · simp; omega
    · have := sum_le (fun a ha => h0 a (by simp [ha])) a h
      simp; omega
theorem Lev.le {th : List DThing} {l : List Int} {S B : Int} (h : Lev th l S B) {a : Int} (ha : a ∈ l) : Tm.has th a ∧ 0 ≤ (el th a).Value ∧ (el th a).Value ≤ S ∧ 0 ≤ (el th a).Blind ∧ (el th a).Blind ≤ B := by
  have h1 := h.has a ha
  have h2 := sum_le (f := fun a => (el th a).Value) (fun a ha => (h.has a ha).2.1) a ha
  have h3 := sum_le (f := fun a => (el th a).Blind) (fun a ha => (h.has a ha).2.2) a ha
  have := h.v; have := h.b
  unfold sumV at *; unfold sumB at *
  exact ⟨h1.1, h1.2.1, by omega, h1.2.2, by omega⟩
theorem map_el {th : List DThing} {x : DThing} {f : DThing → Int} {l : List Int} (h : ∀ a ∈ l, Tm.has th a) : (l.map fun a => f (el (th ++ [x]) a)) = l.map fun a => f (el th a) :=
  List.map_congr_left fun a ha => by rw [el_append (h a ha)]
/-- a pair takes the place of its halves -/
theorem Lev.pair {th : List DThing} {pre post : List Int} {a b S B : Int} (h : Lev th (pre ++ a :: b :: post) S B) : Lev (th ++ [pairX th a b]) (pre ++ (th.length : Int) :: post) S B := by
  have hh : ∀ c ∈ pre ++ a :: b :: post, Tm.has th c := fun c hc => (h.has c hc).1
  have hpre : ∀ c ∈ pre, Tm.has th c := fun c hc => hh c (by simp [hc])
  have hpost : ∀ c ∈ post, Tm.has th c := fun c hc => hh c (by simp [hc])
  have ha := h.has a (by simp)
  have hb := h.has b (by simp)
  refine ⟨fun c hc => ?_, ?_, ?_⟩
  · simp only [List.mem_append, List.mem_cons] at hc
    rcases hc with hc | rfl | hc
    · rw [el_append (hpre c hc)]; exact ⟨has_append (hpre c hc), (h.has c (by simp [hc])).2⟩
    · rw [el_last]; unfold Tm.has pairX; simp; omega
    · rw [el_append (hpost c hc)]; exact ⟨has_append (hpost c hc), (h.has c (by simp [hc])).2⟩
  · have := h.v
    unfold sumV at *
    rw [List.map_append, List.map_cons, map_el (f := DThing.Value) hpre, map_el (f := DThing.Value) hpost, el_last]
    simp only [List.map_append, List.map_cons, List.sum_append, List.sum_cons, pairX] at *
    omega
  · have := h.b
    unfold sumB at *
    rw [List.map_append, List.map_cons, map_el (f := DThing.Blind) hpre, map_el (f := DThing.Blind) hpost, el_last]
    simp only [List.map_append, List.map_cons, List.sum_append, List.sum_cons, pairX] at *
    omega
theorem sum_bound {f : Nat → Int} {c : Int} : ∀ n : Nat, (∀ i, i < n → 0 ≤ f i ∧ f i ≤ c) → 0 ≤ ((List.range n).map f).sum ∧ ((List.range n).map f).sum ≤ n * c
  | 0, _ => by simp
  | n + 1, h => by
    have ih := sum_bound n fun i hi => h i (by omega)
    have := h n (by omega)
    rw [List.range_succ, List.map_append, List.sum_append]
    simp only [List.map_cons, List.map_nil, List.sum_cons, List.sum_nil]
    have e : ((n + 1 : Nat) : Int) * c = n * c + c := by rw [Int.natCast_add, Int.add_mul]; simp
    omega
def totV (values : List Int) (n : Nat) : Int := ((List.range n).map fun i => values.getD i default).sum
theorem el_leaf {v : List DThing} {texts : List ByteArray} {values blinds : List Int} {n i : Nat} (h : i < n) : el (v ++ leavesN texts values blinds n) ((v.length + i : Nat) : Int) = leafAt texts values blinds i := by
  unfold el leavesN
  rw [Int.toNat_natCast, List.getD_eq_getElem?_getD, List.getElem?_append_right (by omega), Nat.add_sub_cancel_left]
  simp [h]
theorem lev_start {v : List DThing} {texts : List ByteArray} {values blinds : List Int} (h : argsOK v texts values blinds) : Lev (v ++ leavesN texts values blinds texts.length) (idsN v.length texts.length) (totV values texts.length) (totV blinds texts.length) := by
  refine ⟨fun a ha => ?_, ?_, ?_⟩
  · obtain ⟨i, hi, rfl⟩ := List.mem_map.1 ha
    have hi := List.mem_range.1 hi
    have hl := h.2.2.2.2 i hi
    rw [el_leaf hi]
    unfold isLeaf at hl
    refine ⟨?_, by omega, by omega⟩
    unfold Tm.has; simp; omega
  · unfold sumV totV idsN
    rw [List.map_map]
    congr 1
    refine List.map_congr_left fun i hi => ?_
    simp only [Function.comp]
    rw [el_leaf (List.mem_range.1 hi)]; rfl
  · unfold sumB totV idsN
    rw [List.map_map]
    congr 1
    refine List.map_congr_left fun i hi => ?_
    simp only [Function.comp]
    rw [el_leaf (List.mem_range.1 hi)]; rfl
theorem tot_bound {v : List DThing} {texts : List ByteArray} {values blinds : List Int} (h : argsOK v texts values blinds) : (0 ≤ totV values texts.length ∧ totV values texts.length ≤ texts.length * 1099511627776) ∧ 0 ≤ totV blinds texts.length ∧ totV blinds texts.length ≤ texts.length * 1099511627776 :=
  ⟨sum_bound _ fun i hi => ⟨(h.2.2.2.2 i hi).2.2.2.1, (h.2.2.2.2 i hi).2.2.2.2.1⟩, sum_bound _ fun i hi => ⟨(h.2.2.2.2 i hi).2.2.2.2.2.1, (h.2.2.2.2 i hi).2.2.2.2.2.2⟩⟩
theorem pairUp_length : ∀ (th : List DThing) (l : List Int), (pairUp th l).2.length = (l.length + 1) / 2
  | th, [] => rfl
  | th, [a] => by simp [pairUp]
  | th, a :: b :: rest => by
    rw [pairUp]
    simp only [List.length_cons]
    rw [pairUp_length _ rest]; omega
theorem ids_step {l m : List Int} {k k' n : Int} {a : Nat} (h : l = idsN a k.toNat) (h0 : 0 ≤ k) (hk' : k' = k + 1) (hm : m = l ++ [n]) (hn : n = (a : Int) + k) : m = idsN a k'.toNat := by
  subst h hk' hm
  rw [show (k + 1).toNat = k.toNat + 1 by omega, idsN_succ, hn]
  congr 2; omega
theorem leaves_step {v b m : List DThing} {texts : List ByteArray} {values blinds : List Int} {k k' x y : Int} {s : ByteArray} (h : b = v ++ leavesN texts values blinds k.toNat) (h0 : 0 ≤ k) (hk' : k' = k + 1)
    (hs : s = texts.getD k.toNat default) (hx : x = values.getD k.toNat default) (hy : y = blinds.getD k.toNat default) (hm : m = b ++ [DThing.mk s x y (-1) (-1)]) : m = v ++ leavesN texts values blinds k'.toNat := by
  subst h hk' hm hs hx hy
  rw [show (k + 1).toNat = k.toNat + 1 by omega, leavesN_succ, List.append_assoc]
  rfl
theorem leaf_no {v : List DThing} {texts : List ByteArray} {values blinds : List Int} {k x y : Int} {s : ByteArray} (h0 : 0 ≤ k) (hk : k < texts.length) (hs : s = texts.getD k.toNat default) (hx : x = values.getD k.toNat default) (hy : y = blinds.getD k.toNat default)
    (h : ¬ Sound [DThing.mk s x y (-1) (-1)]) : ¬ argsOK v texts values blinds := by
  rintro ⟨_, _, _, _, h5⟩
  rw [sound_one] at h
  have := h5 k.toNat (by omega)
  subst hs hx hy
  exact h this
theorem leaf_step {texts : List ByteArray} {values blinds : List Int} {k k' x y : Int} {s : ByteArray} (hp : ∀ i, i < k.toNat → isLeaf (leafAt texts values blinds i)) (h0 : 0 ≤ k) (hk' : k' = k + 1) (hs : s = texts.getD k.toNat default) (hx : x = values.getD k.toNat default) (hy : y = blinds.getD k.toNat default)
    (h : Sound [DThing.mk s x y (-1) (-1)]) : ∀ i, i < k'.toNat → isLeaf (leafAt texts values blinds i) := by
  intro i hi
  by_cases e : i = k.toNat
  · subst e hs hx hy
    rw [sound_one] at h
    exact h
  · exact hp i (by omega)
theorem up_fuel : ∀ (n m : Nat) (th : List DThing) (l : List Int), l.length ≤ n → l.length ≤ m → up n th l = up m th l
  | 0, 0, _, _, _, _ => rfl
  | 0, m + 1, th, l, h, _ => by rw [up, up, if_neg (by omega)]
  | n + 1, 0, th, l, _, h => by rw [up, up, if_neg (by omega)]
  | n + 1, m + 1, th, l, h1, h2 => by
    rw [up, up]
    split
    · have := pairUp_length th l
      exact up_fuel n m _ _ (by omega) (by omega)
    · rfl
theorem up_step {th b : List DThing} {l m : List Int} (h : 1 < l.length) (hp : pairUp th l = (b, m)) : up l.length th l = up m.length b m := by
  have hl := pairUp_length th l
  rw [hp] at hl
  simp only at hl
  obtain ⟨n, hn⟩ : ∃ n, l.length = n + 1 := ⟨l.length - 1, by omega⟩
  rw [hn, up, if_pos h, hp]
  exact up_fuel _ _ _ _ (by simp only; omega) (Nat.le_refl _)
theorem drop2 {l : List Int} {i j x y : Int} (h0 : 0 ≤ i) (hj : j = i + 1) (h : j < l.length) (hx : x = l.getD i.toNat default) (hy : y = l.getD j.toNat default) : l.drop i.toNat = x :: y :: l.drop (i + 2).toNat := by
  subst hj hx hy
  have h1 : i.toNat < l.length := by omega
  have h2 : i.toNat + 1 < l.length := by omega
  rw [List.drop_eq_getElem_cons h1, List.drop_eq_getElem_cons h2, show (i + 1).toNat = i.toNat + 1 by omega, show (i + 2).toNat = i.toNat + 1 + 1 by omega]
  simp [h1, h2]
theorem Lev.two {th : List DThing} {pre l rest : List Int} {x y S B : Int} (h : Lev th (pre ++ l) S B) (hd : l = x :: y :: rest) (hS : S ≤ 1125899906842624) (hB : B ≤ 1125899906842624) :
    (0 ≤ x ∧ x < th.length) ∧ (0 ≤ y ∧ y < th.length) ∧ Bd (el th x) ∧ Bd (el th y) := by
  subst hd
  have hx := h.le (a := x) (by simp)
  have hy := h.le (a := y) (by simp)
  unfold Tm.has at hx hy
  refine ⟨hx.1, hy.1, ?_, ?_⟩ <;> unfold Bd <;> omega
/-- one pair in the midst of a level -/
theorem pair_step {th b m : List DThing} {l next next' : List Int} {i i' j x y n S B : Int} (hL : Lev b (next ++ l.drop i.toNat) S B) (hP : pairUp th l = ((pairUp b (l.drop i.toNat)).1, next ++ (pairUp b (l.drop i.toNat)).2))
    (h0 : 0 ≤ i) (hj : j = i + 1) (h : j < l.length) (hx : x = l.getD i.toNat default) (hy : y = l.getD j.toNat default) (hi' : i' = i + 2) (hm : m = b ++ [pairX b x y]) (hn : n = b.length) (hn' : next' = next ++ [n]) :
    Lev m (next' ++ l.drop i'.toNat) S B ∧ pairUp th l = ((pairUp m (l.drop i'.toNat)).1, next' ++ (pairUp m (l.drop i'.toNat)).2) := by
  have hd := drop2 h0 hj h hx hy
  rw [hd] at hL hP
  subst hi' hm hn hn'
  constructor
  · rw [List.append_assoc]; exact hL.pair
  · rw [hP, pairUp]; simp
theorem pair_end {th b : List DThing} {l next : List Int} {i : Int} (hP : pairUp th l = ((pairUp b (l.drop i.toNat)).1, next ++ (pairUp b (l.drop i.toNat)).2)) (hi : i = l.length) : pairUp th l = (b, next) := by
  rw [hP, hi]; simp [pairUp]
theorem pair_odd {th b : List DThing} {l next next' : List Int} {i k x : Int} (hP : pairUp th l = ((pairUp b (l.drop i.toNat)).1, next ++ (pairUp b (l.drop i.toNat)).2)) (h0 : 0 ≤ i) (hi : i = (l.length : Int) - 1) (hk : k = i) (hx : x = l.getD k.toNat default) (hn : next' = next ++ [x]) : pairUp th l = (b, next') := by
  have h1 : i.toNat < l.length := by omega
  have hd : l.drop i.toNat = [x] := by
    rw [List.drop_eq_getElem_cons h1, hx, hk, List.drop_of_length_le (by omega)]
    simp [h1]
  rw [hP, hd, hn]; simp [pairUp]
theorem lev_end {b : List DThing} {l next : List Int} {i S B : Int} (hL : Lev b (next ++ l.drop i.toNat) S B) (hi : i = l.length) : Lev b next S B := by
  have : l.drop i.toNat = [] := List.drop_of_length_le (by omega)
  rw [this, List.append_nil] at hL; exact hL
theorem lev_odd {b : List DThing} {l next next' : List Int} {i k x S B : Int} (hL : Lev b (next ++ l.drop i.toNat) S B) (h0 : 0 ≤ i) (hi : i = (l.length : Int) - 1) (hk : k = i) (hx : x = l.getD k.toNat default) (hn : next' = next ++ [x]) : Lev b next' S B := by
  have h1 : i.toNat < l.length := by omega
  have hd : l.drop i.toNat = [x] := by
    rw [List.drop_eq_getElem_cons h1, hx, hk, List.drop_of_length_le (by omega)]
    simp [h1]
  rw [hd] at hL; rw [hn]; exact hL
theorem up_one {b : List DThing} {l : List Int} (h : l.length ≤ 1) : up l.length b l = (b, l) := by
  match l, h with
  | [], _ => rfl
  | [a], _ => rw [List.length_singleton, up, if_neg (by simp)]
end Tm
end Kb
