/- Plain laws: paths and views in trees of sums. -/
import Derived.Test.YtaolgnmpgnamnaaTm
set_option linter.unusedVariables false
set_option linter.unusedSimpArgs false
namespace Kb
namespace Tm
def opensP (l : List DThing) (i : Int) (text : ByteArray) (value blind : Int) : Prop := Sound l ∧ has l i ∧ (el l i).Text = text ∧ (el l i).Value = value ∧ (el l i).Blind = blind
instance (l : List DThing) (i : Int) (text : ByteArray) (value blind : Int) : Decidable (opensP l i text value blind) := by unfold opensP; infer_instance
def pe (p : List Int) (i : Nat) : Int := p.getD i 0
def stepOK (l : List DThing) (p : List Int) (i : Nat) : Prop := has l (pe p i) ∧ (0 < i → (el l (pe p (i - 1))).Left = pe p i ∨ (el l (pe p (i - 1))).Right = pe p i)
instance (l : List DThing) (p : List Int) (i : Nat) : Decidable (stepOK l p i) := by unfold stepOK; infer_instance
def walksTo (l : List DThing) (p : List Int) (n : Nat) : Prop := ∀ i, i < n → stepOK l p i
instance (l : List DThing) (p : List Int) (n : Nat) : Decidable (walksTo l p n) := by unfold walksTo; infer_instance
def Walks (l : List DThing) (p : List Int) : Prop := Sound l ∧ p.length ≠ 0 ∧ walksTo l p p.length
instance (l : List DThing) (p : List Int) : Decidable (Walks l p) := by unfold Walks; infer_instance
def lastI (p : List Int) : Int := pe p (p.length - 1)
def checkP (l : List DThing) (p : List Int) (total blind : Int) (text : ByteArray) (value own : Int) : Prop :=
  Walks l p ∧ (el l (pe p 0)).Value = total ∧ (el l (pe p 0)).Blind = blind ∧ (el l (lastI p)).Left = -1 ∧ opensP l (lastI p) text value own
instance (l : List DThing) (p : List Int) (total blind : Int) (text : ByteArray) (value own : Int) : Decidable (checkP l p total blind text value own) := by unfold checkP; infer_instance
def viewEl (l : List DThing) (p : List Int) (i : Nat) : DThing :=
  if 0 < i ∧ i + 1 < p.length then { el l (pe p i) with Value := -1, Blind := -1 } else el l (pe p i)
def viewN (l : List DThing) (p : List Int) (n : Nat) : List DThing := (List.range n).map (viewEl l p)
def viewF (l : List DThing) (p : List Int) : List DThing := if Walks l p then viewN l p p.length else []
theorem walks_no_has {l : List DThing} {p : List Int} {k a : Int} (h0 : 0 ≤ k) (hk : k < p.length) (ha : a = p.getD k.toNat default) (h : ¬ (0 ≤ a ∧ a < l.length)) : false = decide (Walks l p) := by
  symm; rw [decide_eq_false_iff_not]; rintro ⟨_, _, hw⟩
  have := (hw k.toNat (by omega)).1
  unfold has at this
  rw [show pe p k.toNat = a from ha.symm] at this
  exact h this
theorem walks_no_step {l : List DThing} {p : List Int} {k a b c : Int} {x : DThing} (h0 : 0 < k) (hk : k < p.length) (ha : a = p.getD k.toNat default) (hc : c = k - 1) (hb : b = p.getD c.toNat default) (hx : x = l.getD b.toNat default) (h : ¬ x.Left = a ∧ ¬ x.Right = a) : false = decide (Walks l p) := by
  subst hc
  symm; rw [decide_eq_false_iff_not]; rintro ⟨_, _, hw⟩
  have := (hw k.toNat (by omega)).2 (by omega)
  rw [show k.toNat - 1 = (k - 1).toNat by omega] at this
  rw [show pe p k.toNat = a from ha.symm, show pe p (k - 1).toNat = b from hb.symm, show el l b = x from hx.symm] at this
  rcases this with e | e
  · exact h.1 e
  · exact h.2 e
theorem walks_step {l : List DThing} {p : List Int} {k k' a : Int} (hw : walksTo l p k.toNat) (h0 : 0 ≤ k) (hk' : k' = k + 1) (ha : a = p.getD k.toNat default) (hh : 0 ≤ a ∧ a < l.length)
    (h : 0 < k → ∃ c b x, c = k - 1 ∧ b = p.getD c.toNat default ∧ x = l.getD b.toNat default ∧ (x.Left = a ∨ x.Right = a)) : walksTo l p k'.toNat := by
  subst hk'
  intro i hi
  by_cases e : i = k.toNat
  · subst e
    refine ⟨?_, fun hp => ?_⟩
    · rw [show pe p k.toNat = a from ha.symm]; exact hh
    · obtain ⟨c, b, x, rfl, hb, hx, h⟩ := h (by omega)
      rw [show k.toNat - 1 = (k - 1).toNat by omega]
      rw [show pe p k.toNat = a from ha.symm, show pe p (k - 1).toNat = b from hb.symm, show el l b = x from hx.symm]
      exact h
  · exact hw i (by omega)
theorem walks_prev {l : List DThing} {p : List Int} {k a b : Int} (hw : walksTo l p k.toNat) (h0 : 0 < k) (ha : a = k - 1) (hb : b = p.getD a.toNat default) : 0 ≤ b ∧ b < l.length := by
  subst ha
  have := (hw (k - 1).toNat (by omega)).1
  rw [show pe p (k - 1).toNat = b from hb.symm] at this
  exact this
theorem walks_has {l : List DThing} {p : List Int} (hw : Walks l p) {k : Int} (h0 : 0 ≤ k) (hk : k < p.length) {a : Int} (ha : a = p.getD k.toNat default) : 0 ≤ a ∧ a < l.length := by
  have := (hw.2.2 k.toNat (by omega)).1
  rw [show pe p k.toNat = a from ha.symm] at this
  exact this
/-- in a sound vault a thing is a leaf, or has two halves before it -/
theorem sound_cases {l : List DThing} (h : Sound l) {k : Nat} (hk : k < l.length) : isLeaf (l.getD k default) ∨
    (0 ≤ (l.getD k default).Left ∧ (l.getD k default).Left < k ∧ 0 ≤ (l.getD k default).Right ∧ (l.getD k default).Right < k ∧ (l.getD k default).Text = ByteArray.empty ∧
      (l.getD k default).Value = (el l (l.getD k default).Left).Value + (el l (l.getD k default).Right).Value ∧ (l.getD k default).Blind = (el l (l.getD k default).Left).Blind + (el l (l.getD k default).Right).Blind) := by
  rcases h.2 k hk with h1 | ⟨h1, h2⟩
  · exact .inl h1
  · right
    have hh : has (l.take k) (l.getD k default).Left ∧ has (l.take k) (l.getD k default).Right := by
      unfold pairE at h1
      split at h1
      · omega
      · rename_i hh; exact Decidable.not_not.1 hh
    rw [has_take (by omega), has_take (by omega)] at hh
    obtain ⟨⟨a1, a2⟩, b1, b2⟩ := hh
    refine ⟨a1, a2, b1, b2, ?_, ?_, ?_⟩
    · exact congrArg DThing.Text h2
    · rw [← el_take (l := l) a1 a2, ← el_take (l := l) b1 b2]; exact congrArg DThing.Value h2
    · rw [← el_take (l := l) a1 a2, ← el_take (l := l) b1 b2]; exact congrArg DThing.Blind h2
theorem sound_pair {l : List DThing} (h : Sound l) {k : Int} (h0 : 0 ≤ k) (hk : k < l.length) {x : DThing} (hx : x = l.getD k.toNat default) (hl : ¬ x.Left = -1) : 0 ≤ x.Left ∧ x.Left < k ∧ 0 ≤ x.Right ∧ x.Right < k := by
  subst hx
  rcases sound_cases h (k := k.toNat) (by omega) with h1 | h1
  · exact absurd h1.1 hl
  · omega
theorem leafy_iff {l : List DThing} (h : Sound l) {k : Int} (h0 : 0 ≤ k) (hk : k < l.length) {x : DThing} (hx : x = l.getD k.toNat default) : (x.Left = -1 ∧ x.Right = -1) ↔ x.Left = -1 := by
  subst hx
  rcases sound_cases h (k := k.toNat) (by omega) with h1 | h1
  · unfold isLeaf at h1; omega
  · omega

/-! ### which things have a path to a leaf -/
def nearB (l : List DThing) (leaf : Int) (before : List Bool) : Bool :=
  if (before.length : Int) < leaf then false else if (before.length : Int) = leaf then true
  else !decide ((l.getD before.length default).Left = -1) && (before.getD (l.getD before.length default).Left.toNat false || before.getD (l.getD before.length default).Right.toNat false)
def reachN (l : List DThing) (leaf : Int) : Nat → List Bool
  | 0 => []
  | n + 1 => reachN l leaf n ++ [nearB l leaf (reachN l leaf n)]
@[simp] theorem reachN_length (l : List DThing) (leaf : Int) : ∀ n, (reachN l leaf n).length = n
  | 0 => rfl
  | n + 1 => by simp [reachN, reachN_length l leaf n]
theorem reachN_get {l : List DThing} {leaf : Int} {i : Nat} : ∀ {n m : Nat}, i < n → n ≤ m → (reachN l leaf m).getD i false = (reachN l leaf n).getD i false
  | n, 0, h, h2 => by omega
  | n, m + 1, h, h2 => by
    by_cases e : n = m + 1
    · rw [e]
    · rw [reachN, List.getD_eq_getElem?_getD, List.getElem?_append_left (by simp; omega), ← List.getD_eq_getElem?_getD]
      exact reachN_get h (by omega)
def near (l : List DThing) (leaf : Int) (i : Int) : Bool := (reachN l leaf l.length).getD i.toNat false
theorem near_eq {l : List DThing} {leaf i : Int} (h0 : 0 ≤ i) (hi : i < l.length) : near l leaf i = nearB l leaf (reachN l leaf i.toNat) := by
  unfold near
  rw [reachN_get (n := i.toNat + 1) (by omega) (by omega), reachN]
  simp
theorem near_lt {l : List DThing} {leaf i : Int} (h0 : 0 ≤ i) (hi : i < l.length) (h : i < leaf) : near l leaf i = false := by
  rw [near_eq h0 hi]; unfold nearB; rw [if_pos (by simp; omega)]
theorem near_self {l : List DThing} {leaf : Int} (h0 : 0 ≤ leaf) (hi : leaf < l.length) : near l leaf leaf = true := by
  rw [near_eq h0 hi]; unfold nearB; rw [if_neg (by simp; omega), if_pos (by simp; omega)]
theorem near_up {l : List DThing} (hS : Sound l) {leaf i : Int} (hl : 0 ≤ leaf) (h : leaf < i) (hi : i < l.length) : near l leaf i = (!decide ((el l i).Left = -1) && (near l leaf (el l i).Left || near l leaf (el l i).Right)) := by
  rw [near_eq (by omega) hi]; unfold nearB
  rw [if_neg (by simp; omega), if_neg (by simp; omega)]
  simp only [reachN_length]
  have e : l.getD i.toNat default = el l i := rfl
  rw [e]
  by_cases hq : (el l i).Left = -1
  · simp [hq]
  · have hp := sound_pair hS (by omega) hi (x := el l i) rfl hq
    have a := reachN_get (l := l) (leaf := leaf) (i := (el l i).Left.toNat) (n := i.toNat) (m := l.length) (by omega) (by omega)
    have b := reachN_get (l := l) (leaf := leaf) (i := (el l i).Right.toNat) (n := i.toNat) (m := l.length) (by omega) (by omega)
    unfold near
    rw [a, b]
def reachF (l : List DThing) (leaf : Int) : List Bool := reachN l leaf l.length
/-- the loop that fills the list -/
def reachW (l : List DThing) (leaf : Int) (k : Nat) : List Bool := reachN l leaf k ++ List.replicate (l.length - k) false
theorem reachN_low {l : List DThing} {leaf : Int} : ∀ n : Nat, (n : Int) ≤ leaf → reachN l leaf n = List.replicate n false
  | 0, _ => rfl
  | n + 1, h => by
    rw [reachN, reachN_low n (by omega)]
    have : nearB l leaf (List.replicate n false) = false := by unfold nearB; rw [if_pos (by simp; omega)]
    rw [this, ← List.replicate_succ']
theorem reachW_start {l : List DThing} {leaf : Int} (h0 : 0 ≤ leaf) (h : leaf < l.length) : (List.replicate l.length false).set leaf.toNat true = reachW l leaf (leaf + 1).toNat := by
  have e : (leaf + 1).toNat = leaf.toNat + 1 := by omega
  unfold reachW
  rw [e, reachN, reachN_low leaf.toNat (by omega)]
  have : nearB l leaf (List.replicate leaf.toNat false) = true := by unfold nearB; rw [if_neg (by simp; omega), if_pos (by simp; omega)]
  rw [this]
  have hs : List.replicate l.length false = List.replicate leaf.toNat false ++ (false :: List.replicate (l.length - (leaf.toNat + 1)) false) := by
    rw [← List.replicate_succ, List.replicate_append_replicate]; congr 1; omega
  rw [hs, List.set_append_right _ _ (by simp)]
  simp
theorem reachW_get {l : List DThing} {leaf : Int} {k : Nat} {i : Int} (h0 : 0 ≤ i) (hi : i < k) (hk : k ≤ l.length) : (reachW l leaf k).getD i.toNat false = near l leaf i := by
  unfold reachW near
  rw [List.getD_eq_getElem?_getD, List.getElem?_append_left (by simp; omega), ← List.getD_eq_getElem?_getD]
  exact (reachN_get (by omega) hk).symm
theorem reachW_step {l : List DThing} {leaf k : Int} {b : Bool} (h0 : 0 ≤ k) (hk : k < l.length) (hb : b = near l leaf k) : (reachW l leaf k.toNat).set k.toNat b = reachW l leaf (k + 1).toNat := by
  unfold reachW
  rw [show (k + 1).toNat = k.toNat + 1 by omega, reachN]
  rw [List.set_append_right _ _ (by simp)]
  simp only [reachN_length, Nat.sub_self]
  rw [show l.length - k.toNat = (l.length - (k.toNat + 1)) + 1 by omega, List.replicate_succ, List.set_cons_zero, hb, near_eq h0 hk]
  simp
theorem reachW_end {l : List DThing} {leaf k : Int} (hk : k = l.length) : reachW l leaf k.toNat = reachF l leaf := by
  unfold reachW reachF
  subst hk; simp
theorem reachW_length {l : List DThing} {leaf : Int} {k : Nat} (h : k ≤ l.length) : (reachW l leaf k).length = l.length := by
  simp [reachW]; omega

theorem reach_round {l : List DThing} {leaf k k' : Int} {x : DThing} {out : List Bool} {p : Bool} (hS : Sound l) (h0 : 0 ≤ leaf) (hk : leaf < k) (hk2 : k < l.length) (hx : x = l.getD k.toNat default) (ho : out = reachW l leaf k.toNat)
    (hp : p = ((!decide (x.Left = -1)) && (out.getD x.Left.toNat default || out.getD x.Right.toNat default))) (hk' : k' = k + 1) : out.set k.toNat p = reachW l leaf k'.toNat := by
  subst ho hk'
  refine reachW_step (by omega) hk2 ?_
  rw [near_up hS h0 hk hk2, hp]
  have e : el l k = x := hx.symm
  rw [e]
  by_cases hq : x.Left = -1
  · simp [hq]
  · have hs := sound_pair hS (by omega) hk2 hx hq
    have a : (reachW l leaf k.toNat).getD x.Left.toNat default = near l leaf x.Left := reachW_get (by omega) (by omega) (by omega)
    have b : (reachW l leaf k.toNat).getD x.Right.toNat default = near l leaf x.Right := reachW_get (by omega) (by omega) (by omega)
    rw [a, b]
/-! ### paths -/
def nxt (l : List DThing) (leaf i : Int) : Int := if near l leaf (min (el l i).Left (el l i).Right) = true then min (el l i).Left (el l i).Right else max (el l i).Left (el l i).Right
def pathN (l : List DThing) (leaf : Int) : Nat → Int → List Int
  | 0, i => [i]
  | n + 1, i => if i = leaf then [i] else i :: pathN l leaf n (nxt l leaf i)
def pathF (l : List DThing) (root leaf : Int) : List Int := if Sound l ∧ has l root ∧ has l leaf ∧ near l leaf root = true then pathN l leaf root.toNat root else []
theorem near_ge {l : List DThing} {leaf i : Int} (h0 : 0 ≤ i) (hi : i < l.length) (h : near l leaf i = true) : leaf ≤ i := by
  rcases Int.lt_or_le i leaf with h' | h'
  · rw [near_lt h0 hi h'] at h; cases h
  · exact h'
theorem nxt_near {l : List DThing} (hS : Sound l) {leaf i : Int} (hl : 0 ≤ leaf) (hi0 : 0 ≤ i) (hi : i < l.length) (hn : near l leaf i = true) (hne : i ≠ leaf) :
    near l leaf (nxt l leaf i) = true ∧ 0 ≤ nxt l leaf i ∧ nxt l leaf i < i ∧ leaf ≤ nxt l leaf i ∧ (el l i).Left ≠ -1 := by
  have hge := near_ge hi0 hi hn
  rw [near_up hS hl (by omega) hi, Bool.and_eq_true, Bool.or_eq_true] at hn
  obtain ⟨h1, h2⟩ := hn
  have hq : ¬ (el l i).Left = -1 := by simpa using h1
  have hp := sound_pair hS hi0 hi (x := el l i) rfl hq
  have key : near l leaf (nxt l leaf i) = true := by
    unfold nxt
    split
    · assumption
    · rename_i hm
      rcases Int.le_total (el l i).Left (el l i).Right with h | h
      · rw [Int.min_eq_left h] at hm; rw [Int.max_eq_right h]
        rcases h2 with h2 | h2
        · exact absurd h2 hm
        · exact h2
      · rw [Int.min_eq_right h] at hm; rw [Int.max_eq_left h]
        rcases h2 with h2 | h2
        · exact h2
        · exact absurd h2 hm
  have hb : 0 ≤ nxt l leaf i ∧ nxt l leaf i < i := by unfold nxt; split <;> omega
  exact ⟨key, hb.1, hb.2, near_ge hb.1 (by omega) key, hq⟩
theorem pathN_fuel {l : List DThing} (hS : Sound l) {leaf : Int} (hl : 0 ≤ leaf) : ∀ (n m : Nat) (i : Int), 0 ≤ i → i < l.length → near l leaf i = true → i.toNat ≤ n → i.toNat ≤ m → pathN l leaf n i = pathN l leaf m i
  | 0, 0, _, _, _, _, _, _ => rfl
  | 0, m + 1, i, h0, hi, hn, h1, h2 => by
    have := near_ge h0 hi hn
    have : i = leaf := by omega
    rw [pathN, pathN, if_pos this]
  | n + 1, 0, i, h0, hi, hn, h1, h2 => by
    have := near_ge h0 hi hn
    have : i = leaf := by omega
    rw [pathN, pathN, if_pos this]
  | n + 1, m + 1, i, h0, hi, hn, h1, h2 => by
    rw [pathN, pathN]
    split
    · rfl
    · rename_i hne
      obtain ⟨a, b, c, d, _⟩ := nxt_near hS hl h0 hi hn hne
      rw [pathN_fuel hS hl n m _ b (by omega) a (by omega) (by omega)]
/-- from a thing on, all the way -/
def rest (l : List DThing) (leaf i : Int) : List Int := pathN l leaf i.toNat i
theorem rest_self {l : List DThing} {leaf : Int} : rest l leaf leaf = [leaf] := by
  unfold rest
  cases h : leaf.toNat with
  | zero => rfl
  | succ n => rw [pathN, if_pos rfl]
theorem rest_step {l : List DThing} (hS : Sound l) {leaf i : Int} (hl : 0 ≤ leaf) (hi0 : 0 ≤ i) (hi : i < l.length) (hn : near l leaf i = true) (hne : i ≠ leaf) : rest l leaf i = i :: rest l leaf (nxt l leaf i) := by
  obtain ⟨a, b, c, d, _⟩ := nxt_near hS hl hi0 hi hn hne
  unfold rest
  have : i.toNat = (i.toNat - 1) + 1 := by omega
  rw [this, pathN, if_neg hne, pathN_fuel hS hl _ (nxt l leaf i).toNat _ b (by omega) a (by omega) (by omega)]
theorem pathF_yes {l : List DThing} {root leaf : Int} (hS : Sound l) (h1 : has l root) (h2 : has l leaf) (h3 : near l leaf root = true) : pathF l root leaf = rest l leaf root := by
  unfold pathF rest; rw [if_pos ⟨hS, h1, h2, h3⟩]
theorem reachF_length (l : List DThing) (leaf : Int) : (reachF l leaf).length = l.length := by unfold reachF; simp
theorem reachF_get {l : List DThing} {leaf i : Int} {p : Bool} {m : List Bool} (hm : m = reachF l leaf) (hp : p = m.getD i.toNat default) : p = near l leaf i := by subst hm hp; rfl
theorem reachF_at {l : List DThing} {leaf : Int} {m : List Bool} (hm : m = reachF l leaf) (i : Int) : m.getD i.toNat default = near l leaf i := by subst hm; rfl
/-- one step of the walk down: a, b are the lesser and the greater half -/
theorem down {l : List DThing} (hS : Sound l) {leaf i a b : Int} {x : DThing} (hl : 0 ≤ leaf) (hi0 : 0 ≤ i) (hi : i < l.length) (hn : near l leaf i = true) (hne : ¬ i = leaf) (hx : x = l.getD i.toNat default) (ha : a = min x.Left x.Right) (hb : b = max x.Left x.Right) :
    0 ≤ a ∧ a < i ∧ 0 ≤ b ∧ b < i ∧ nxt l leaf i = (if near l leaf a = true then a else b) ∧ near l leaf (nxt l leaf i) = true ∧ leaf ≤ nxt l leaf i ∧ rest l leaf i = i :: rest l leaf (nxt l leaf i) := by
  obtain ⟨a1, a2, a3, a4, a5⟩ := nxt_near hS hl hi0 hi hn hne
  have hs := sound_pair hS hi0 hi hx (by rw [hx]; exact a5)
  have e : el l i = x := hx.symm
  refine ⟨by omega, by omega, by omega, by omega, ?_, a1, a4, rest_step hS hl hi0 hi hn hne⟩
  unfold nxt; rw [e, ← ha, ← hb]
theorem pathF_no {l : List DThing} {root leaf : Int} (h : ¬ (Sound l ∧ has l root ∧ has l leaf ∧ near l leaf root = true)) : pathF l root leaf = [] := by unfold pathF; rw [if_neg h]
theorem check_iff {l : List DThing} {p : List Int} {total blind value own a k b : Int} {text : ByteArray} {x y : DThing} (hW : Walks l p) (ha : a = p.getD (0 : Int).toNat default) (hx : x = l.getD a.toNat default) (hk : k = (p.length : Int) - 1) (hb : b = p.getD k.toNat default) (hy : y = l.getD b.toNat default) :
    checkP l p total blind text value own ↔ ((x.Value = total ∧ x.Blind = blind) ∧ y.Left = -1) ∧ opensP l b text value own := by
  have hne := hW.2.1
  have e1 : pe p 0 = a := ha.symm
  have e2 : lastI p = b := by rw [hb, hk]; unfold lastI pe; rw [show ((p.length : Int) - 1).toNat = p.length - 1 by omega]; rfl
  unfold checkP
  rw [e1, e2, show el l a = x from hx.symm, show el l b = y from hy.symm]
  constructor
  · rintro ⟨_, h1, h2, h3, h4⟩; exact ⟨⟨⟨h1, h2⟩, h3⟩, h4⟩
  · rintro ⟨⟨⟨h1, h2⟩, h3⟩, h4⟩; exact ⟨hW, h1, h2, h3, h4⟩
/-! ### views -/
def viewW (l : List DThing) (p : List Int) (k : Nat) : List DThing := viewN l p k ++ List.replicate (p.length - k) default
@[simp] theorem viewN_length (l : List DThing) (p : List Int) (n : Nat) : (viewN l p n).length = n := by simp [viewN]
theorem viewW_length {l : List DThing} {p : List Int} {k : Nat} (h : k ≤ p.length) : (viewW l p k).length = p.length := by simp [viewW]; omega
theorem viewW_zero (l : List DThing) (p : List Int) : viewW l p 0 = List.replicate p.length default := by simp [viewW, viewN]
theorem viewW_step {l : List DThing} {p : List Int} {k : Int} {y : DThing} (h0 : 0 ≤ k) (hk : k < p.length) (hy : y = viewEl l p k.toNat) : (viewW l p k.toNat).set k.toNat y = viewW l p (k + 1).toNat := by
  unfold viewW
  rw [show (k + 1).toNat = k.toNat + 1 by omega, List.set_append_right _ _ (by simp)]
  simp only [viewN_length, Nat.sub_self]
  rw [show p.length - k.toNat = (p.length - (k.toNat + 1)) + 1 by omega, List.replicate_succ, List.set_cons_zero, hy]
  unfold viewN
  rw [List.range_succ, List.map_append]
  simp
theorem set_get {α : Type} [Inhabited α] {l m : List α} {k : Int} {x y : α} (hm : m = l.set k.toNat x) (h0 : 0 ≤ k) (hk : k < l.length) (hy : y = m.getD k.toNat default) : y = x := by
  subst hm hy
  have : k.toNat < l.length := by omega
  simp [this]
theorem view_end {l : List DThing} {p : List Int} {k k' a : Int} {x : DThing} {out m : List DThing} (h0 : 0 ≤ k) (hk : k < p.length) (ha : a = p.getD k.toNat default) (hx : x = l.getD a.toNat default) (ho : out = viewW l p k.toNat) (hm : m = out.set k.toNat x) (hk' : k' = k + 1)
    (he : ¬ (0 < k ∧ k < p.length - 1)) : m = viewW l p k'.toNat := by
  subst hm ho hk'
  refine viewW_step h0 hk ?_
  unfold viewEl
  rw [if_neg (by omega)]
  have : pe p k.toNat = a := ha.symm
  rw [this]; exact hx
theorem view_mid {l : List DThing} {p : List Int} {k k' a : Int} {x x2 x3 : DThing} {out m m2 m3 : List DThing} (h0 : 0 ≤ k) (hk : k < p.length) (ha : a = p.getD k.toNat default) (hx : x = l.getD a.toNat default) (ho : out = viewW l p k.toNat) (hm : m = out.set k.toNat x)
    (hx2 : x2 = m.getD k.toNat default) (hm2 : m2 = m.set k.toNat (DThing.mk x2.Text (-1) x2.Blind x2.Left x2.Right)) (hx3 : x3 = m2.getD k.toNat default) (hm3 : m3 = m2.set k.toNat (DThing.mk x3.Text x3.Value (-1) x3.Left x3.Right)) (hk' : k' = k + 1)
    (he : 0 < k ∧ k < p.length - 1) : m3 = viewW l p k'.toNat := by
  have hl : out.length = p.length := by rw [ho]; exact viewW_length (by omega)
  have e2 := set_get hm h0 (by omega) hx2
  have e3 := set_get hm2 h0 (by rw [hm, List.length_set]; omega) hx3
  rw [hm3, e3, hm2, e2, hm]
  simp only [List.set_set]
  subst ho hk'
  refine viewW_step h0 hk ?_
  unfold viewEl
  rw [if_pos (by omega)]
  have : pe p k.toNat = a := ha.symm
  rw [this, show el l a = x from hx.symm]
theorem viewF_yes {l : List DThing} {p : List Int} {k : Int} {out : List DThing} (hw : Walks l p) (ho : out = viewW l p k.toNat) (hk : k = p.length) : out = viewF l p := by
  subst ho hk
  unfold viewF viewW; rw [if_pos hw]; simp
theorem viewF_no {l : List DThing} {p : List Int} (hw : ¬ Walks l p) : viewF l p = [] := by unfold viewF; rw [if_neg hw]
end Tm
end Kb
