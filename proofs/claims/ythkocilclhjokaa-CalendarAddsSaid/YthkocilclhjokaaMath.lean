/- Plain mathematics of the calendar: the number of a date, and that a day has exactly one date. No program in sight. -/
namespace Cal
def bef (m : Int) : Int := (153 * m + 2) / 5
def num (y m d : Int) : Int :=
  (if m < 3 then y - 1 else y) * 365 + (if m < 3 then y - 1 else y) / 4 - (if m < 3 then y - 1 else y) / 100 + (if m < 3 then y - 1 else y) / 400 + bef ((m + 9) % 12) + d - 1 - 730425
theorem num_if (y m d : Int) : num y m d = if m < 3 then (y - 1) * 365 + (y - 1) / 4 - (y - 1) / 100 + (y - 1) / 400 + bef ((m + 9) % 12) + d - 1 - 730425
    else y * 365 + y / 4 - y / 100 + y / 400 + bef ((m + 9) % 12) + d - 1 - 730425 := by
  unfold num; split <;> rfl
def leapP (y : Int) : Prop := y % 4 = 0 ∧ (y % 100 ≠ 0 ∨ y % 400 = 0)
instance (y : Int) : Decidable (leapP y) := by unfold leapP; infer_instance
def len (y m : Int) : Int :=
  if m = 2 then (if leapP y then 29 else 28) else if m = 4 ∨ m = 6 ∨ m = 9 ∨ m = 11 then 30 else 31
theorem len_bd (y m : Int) : 28 ≤ len y m ∧ len y m ≤ 31 := by
  unfold len; split <;> (try split) <;> omega
theorem len12 (y : Int) : len y 12 = 31 := by simp [len]
theorem month_cases (m : Int) (h1 : 1 ≤ m) (h2 : m ≤ 12) : m = 1 ∨ m = 2 ∨ m = 3 ∨ m = 4 ∨ m = 5 ∨ m = 6 ∨ m = 7 ∨ m = 8 ∨ m = 9 ∨ m = 10 ∨ m = 11 ∨ m = 12 := by omega
theorem num_d (y m d : Int) : num y m d = num y m 1 + d - 1 := by unfold num; omega
theorem num_next (y m : Int) (h1 : 1 ≤ m) (h2 : m ≤ 11) : num y (m + 1) 1 = num y m 1 + len y m := by
  have hm := month_cases m h1 (by omega)
  rcases hm with rfl | rfl | rfl | rfl | rfl | rfl | rfl | rfl | rfl | rfl | rfl | rfl
  case inr.inl =>
    by_cases h : leapP y
    · simp [num, len, bef, h]; unfold leapP at h; omega
    · simp [num, len, bef, h]; unfold leapP at h; omega
  all_goals (simp [num, len, bef]; try omega)
theorem num_year (y : Int) : num (y + 1) 1 1 = num y 12 1 + 31 := by
  simp [num, bef]; omega
theorem num_year' (y : Int) : num (y + 1) 1 1 = num y 1 1 + 365 + (if leapP y then 1 else 0) := by
  by_cases h : leapP y
  · simp [num, bef, h]; unfold leapP at h; omega
  · simp [num, bef, h]; unfold leapP at h; omega
theorem num_2000 : num 2000 1 1 = 0 := by simp [num, bef]
/-- month index -/
def st (k : Int) : Int := num (k / 12) (k % 12 + 1) 1
def ln (k : Int) : Int := len (k / 12) (k % 12 + 1)
theorem st_of (y m : Int) (h1 : 1 ≤ m) (h2 : m ≤ 12) : st (y * 12 + (m - 1)) = num y m 1 ∧ ln (y * 12 + (m - 1)) = len y m := by
  unfold st ln
  have a : (y * 12 + (m - 1)) / 12 = y := by omega
  have b : (y * 12 + (m - 1)) % 12 + 1 = m := by omega
  rw [a, b]; exact ⟨rfl, rfl⟩
theorem st_succ (k : Int) : st (k + 1) = st k + ln k := by
  unfold st ln
  by_cases h : k % 12 = 11
  · have a : (k + 1) / 12 = k / 12 + 1 := by omega
    have b : (k + 1) % 12 = 0 := by omega
    rw [a, b, h]
    have := num_year (k / 12)
    have := len12 (k / 12)
    simp at *; omega
  · have a : (k + 1) / 12 = k / 12 := by omega
    have b : (k + 1) % 12 + 1 = (k % 12 + 1) + 1 := by omega
    rw [a, b]
    exact num_next _ _ (by omega) (by omega)
theorem ln_bd (k : Int) : 28 ≤ ln k ∧ ln k ≤ 31 := len_bd _ _
theorem st_add (k : Int) (n : Nat) : st k + 28 * n ≤ st (k + n) := by
  induction n with
  | zero => simp
  | succ n ih =>
    have := st_succ (k + n); have := ln_bd (k + n)
    have e : k + ((n + 1 : Nat) : Int) = k + n + 1 := by omega
    rw [e]; omega
theorem st_le (k l : Int) (h : k ≤ l) : st k + 28 * (l - k) ≤ st l := by
  have := st_add k (l - k).toNat
  have e : k + ((l - k).toNat : Int) = l := by omega
  rw [e] at this; omega
/-- d is the day with the date y-m-dom -/
structure IsDate (d y m dom : Int) : Prop where
  m1 : 1 ≤ m
  m2 : m ≤ 12
  d1 : 1 ≤ dom
  d2 : dom ≤ len y m
  eq : num y m dom = d
theorem IsDate.key {d y m dom : Int} (h : IsDate d y m dom) : st (y * 12 + (m - 1)) ≤ d ∧ d < st (y * 12 + (m - 1) + 1) ∧ d = st (y * 12 + (m - 1)) + dom - 1 := by
  have := st_succ (y * 12 + (m - 1))
  obtain ⟨a, b⟩ := st_of y m h.m1 h.m2
  have := num_d y m dom
  have := h.d1; have := h.d2; have := h.eq
  omega
theorem key_uniq {d k l : Int} (a1 : st k ≤ d) (a2 : d < st (k + 1)) (b1 : st l ≤ d) (b2 : d < st (l + 1)) : k = l := by
  by_cases h : k < l
  · have := st_le (k + 1) l (by omega); omega
  · by_cases h' : l < k
    · have := st_le (l + 1) k (by omega); omega
    · omega
theorem IsDate.uniq {d y m dom y' m' dom' : Int} (h : IsDate d y m dom) (h' : IsDate d y' m' dom') : y = y' ∧ m = m' ∧ dom = dom' := by
  obtain ⟨a1, a2, a3⟩ := h.key
  obtain ⟨b1, b2, b3⟩ := h'.key
  have e := key_uniq a1 a2 b1 b2
  have := h.m1; have := h.m2; have := h'.m1; have := h'.m2
  have ey : y = y' := by omega
  have em : m = m' := by omega
  subst ey em
  exact ⟨rfl, rfl, by omega⟩
/-- what the program's Date computes is the date -/
theorem date_ok (n0 m : Int) (n1 n2 n3 n4 q1 q3 y : Int)
    (e1 : n1 = n0 % 146097) (eq1 : q1 = min (n1 / 36524) 3) (e2 : n2 = n1 - q1 * 36524) (e3 : n3 = n2 % 1461) (eq3 : q3 = min (n3 / 365) 3)
    (e4 : n4 = n3 - q3 * 365) (ey : y = n0 / 146097 * 400 + q1 * 100 + n2 / 1461 * 4 + q3) (hm0 : 0 ≤ m) (hm1 : m ≤ 11) (hb : bef m ≤ n4) (hb' : m = 11 ∨ n4 < bef (m + 1)) :
    (10 ≤ m → IsDate (n0 - 730425) (y + 1) (m - 9) (n4 - bef m + 1)) ∧ (m < 10 → IsDate (n0 - 730425) y (m + 3) (n4 - bef m + 1)) := by
  have hn1 : 0 ≤ n1 ∧ n1 < 146097 := by omega
  have hq1 : 0 ≤ q1 ∧ q1 ≤ 3 := by omega
  have hn2 : 0 ≤ n2 ∧ n2 ≤ 36524 ∧ (n2 = 36524 → q1 = 3) := by omega
  have hc : 0 ≤ n2 / 1461 ∧ n2 / 1461 ≤ 24 := by omega
  have hn3 : 0 ≤ n3 ∧ n3 < 1461 := by omega
  have hq3 : 0 ≤ q3 ∧ q3 ≤ 3 := by omega
  have hn4 : 0 ≤ n4 ∧ n4 ≤ 365 ∧ (n4 = 365 → q3 = 3) := by omega
  have hy4 : y / 4 = n0 / 146097 * 100 + q1 * 25 + n2 / 1461 := by omega
  have hy100 : y / 100 = n0 / 146097 * 4 + q1 := by omega
  have hy400 : y / 400 = n0 / 146097 := by omega
  have htot : y * 365 + y / 4 - y / 100 + y / 400 + n4 = n0 := by omega
  have hleap : n4 = 365 → leapP (y + 1) := by
    intro h; unfold leapP
    have h3 := hn4.2.2 h
    have : n3 = 1460 := by omega
    -- n2 = 1461 * c + 1460
    by_cases hq : q1 = 3
    · have : n2 / 1461 ≤ 24 := hc.2
      refine ⟨by omega, ?_⟩
      by_cases hc24 : n2 / 1461 = 24
      · right; omega
      · left; omega
    · have : n2 < 36524 := by omega
      refine ⟨by omega, ?_⟩
      left; omega
  refine ⟨fun h => ?_, fun h => ?_⟩
  · have hm : m = 10 ∨ m = 11 := by omega
    rcases hm with rfl | rfl
    · refine ⟨by omega, by omega, by omega, ?_, ?_⟩
      · simp [len, bef] at *; omega
      · have : y + 1 - 1 = y := by omega
        simp [num, bef, this] at *; omega
    · refine ⟨by omega, by omega, by omega, ?_, ?_⟩
      · by_cases h5 : n4 = 365
        · have := hleap h5
          simp [len, this, bef] at *; omega
        · simp [len, bef] at *; split <;> omega
      · have : y + 1 - 1 = y := by omega
        simp [num, bef, this] at *; omega
  · have hm : m = 0 ∨ m = 1 ∨ m = 2 ∨ m = 3 ∨ m = 4 ∨ m = 5 ∨ m = 6 ∨ m = 7 ∨ m = 8 ∨ m = 9 := by omega
    rcases hm with rfl | rfl | rfl | rfl | rfl | rfl | rfl | rfl | rfl | rfl <;>
    · refine ⟨by omega, by omega, by omega, ?_, ?_⟩
      · simp [len, bef] at *; omega
      · simp [num, bef] at *; omega
/-- what is known of the year and the day of the year (both from March on) -/
def Good (d y n : Int) : Prop := 0 ≤ n ∧ n ≤ 365 ∧ 1900 ≤ y ∧ y ≤ 3000 ∧ ∀ m, 0 ≤ m → m ≤ 11 → bef m ≤ n → (m = 11 ∨ n < bef (m + 1)) →
  (10 ≤ m → IsDate d (y + 1) (m - 9) (n - bef m + 1)) ∧ (m < 10 → IsDate d y (m + 3) (n - bef m + 1))
theorem good_of (d n1 n2 n3 n4 q1 q3 y : Int) (h0 : 0 ≤ d) (h1 : d ≤ 100000)
    (e1 : n1 = (d + 730425) % 146097) (eq1 : q1 = min (n1 / 36524) 3) (e2 : n2 = n1 - q1 * 36524) (e3 : n3 = n2 % 1461) (eq3 : q3 = min (n3 / 365) 3)
    (e4 : n4 = n3 - q3 * 365) (ey : y = (d + 730425) / 146097 * 400 + q1 * 100 + n2 / 1461 * 4 + q3) : Good d y n4 := by
  have hn1 : 0 ≤ n1 ∧ n1 < 146097 := by omega
  have hq1 : 0 ≤ q1 ∧ q1 ≤ 3 := by omega
  have hn2 : 0 ≤ n2 ∧ n2 ≤ 36524 := by omega
  have hn3 : 0 ≤ n3 ∧ n3 < 1461 := by omega
  have hq3 : 0 ≤ q3 ∧ q3 ≤ 3 := by omega
  refine ⟨by omega, by omega, by omega, by omega, fun m a b c e => ?_⟩
  have := date_ok (d + 730425) m n1 n2 n3 n4 q1 q3 y e1 eq1 e2 e3 eq3 e4 ey a b c e
  have e : d + 730425 - 730425 = d := by omega
  rwa [e] at this
theorem good_ex (d : Int) (h0 : 0 ≤ d) (h1 : d ≤ 100000) : ∃ Y N : Int, Y = (d + 730425) / 146097 * 400 + min ((d + 730425) % 146097 / 36524) 3 * 100 + ((d + 730425) % 146097 - min ((d + 730425) % 146097 / 36524) 3 * 36524) / 1461 * 4
      + min (((d + 730425) % 146097 - min ((d + 730425) % 146097 / 36524) 3 * 36524) % 1461 / 365) 3
    ∧ N = ((d + 730425) % 146097 - min ((d + 730425) % 146097 / 36524) 3 * 36524) % 1461 - min (((d + 730425) % 146097 - min ((d + 730425) % 146097 / 36524) 3 * 36524) % 1461 / 365) 3 * 365 ∧ Good d Y N :=
  ⟨_, _, rfl, rfl, good_of d _ _ _ _ _ _ _ h0 h1 rfl rfl rfl rfl rfl rfl rfl⟩
def validB (d : Int) : Bool := decide (0 ≤ d) && decide (d ≤ 100000)
theorem bef_bd (m : Int) (h0 : 0 ≤ m) (h1 : m ≤ 11) : 0 ≤ bef m ∧ bef m ≤ 337 := by unfold bef; omega

/-! ### the functions that the program and the reference both compute -/
theorem valid_iff (d : Int) : validB d = true ↔ 0 ≤ d ∧ d ≤ 100000 := by simp [validB]
theorem valid_no {d : Int} (h : ¬ (0 ≤ d ∧ d ≤ 100000)) : validB d = false := by
  cases e : validB d with
  | false => rfl
  | true => exact absurd ((valid_iff d).1 e) h
theorem month_of (n : Int) (h0 : 0 ≤ n) : ∃ m, 0 ≤ m ∧ m ≤ 11 ∧ bef m ≤ n ∧ (m = 11 ∨ n < bef (m + 1)) := by
  have key : ∀ k : Nat, (∃ m, 0 ≤ m ∧ m ≤ 11 ∧ bef m ≤ n ∧ (m = 11 ∨ n < bef (m + 1))) ∨ (∀ m : Int, 11 - k < m → m ≤ 11 → n < bef m) ∨ 11 < k := by
    intro k
    induction k with
    | zero => right; left; intro m a b; omega
    | succ k ih =>
      rcases ih with h | h | h
      · exact .inl h
      · by_cases hk : 11 < k + 1
        · right; right; exact hk
        by_cases hb : bef (11 - k) ≤ n
        · left
          refine ⟨11 - k, by omega, by omega, hb, ?_⟩
          by_cases e : k = 0
          · left; omega
          · right
            exact h (11 - k + 1) (by omega) (by omega)
        · right; left; intro m a b
          by_cases e : m = 11 - k
          · subst e; omega
          · exact h m (by omega) b
      · right; right; omega
  rcases key 11 with h | h | h
  · exact h
  · exact ⟨0, by omega, by omega, by simp [bef]; omega, .inr (h 1 (by omega) (by omega))⟩
  · omega
theorem date_exists (d : Int) (h0 : 0 ≤ d) (h1 : d ≤ 100000) : ∃ t : Int × Int × Int, IsDate d t.1 t.2.1 t.2.2 := by
  obtain ⟨Y, N, _, _, hG⟩ := good_ex d h0 h1
  obtain ⟨m, a, b, c, e⟩ := month_of N hG.1
  have h := hG.2.2.2.2 m a b c e
  by_cases hm : 10 ≤ m
  · exact ⟨(_, _, _), h.1 hm⟩
  · exact ⟨(_, _, _), h.2 (by omega)⟩
noncomputable def tri (d : Int) : Int × Int × Int := @Classical.epsilon _ ⟨(0, 0, 0)⟩ fun t : Int × Int × Int => IsDate d t.1 t.2.1 t.2.2
noncomputable def dY (d : Int) : Int := if validB d then (tri d).1 else 0
noncomputable def dM (d : Int) : Int := if validB d then (tri d).2.1 else 0
noncomputable def dD (d : Int) : Int := if validB d then (tri d).2.2 else 0
def dE (d : Int) : Int := if validB d then 0 else 3
theorem dE_cases (d : Int) : (dE d = 0 ∧ 0 ≤ d ∧ d ≤ 100000) ∨ (dE d = 3 ∧ ¬ (0 ≤ d ∧ d ≤ 100000)) := by
  unfold dE
  by_cases h : validB d = true
  · left; rw [if_pos h]; exact ⟨rfl, (valid_iff d).1 h⟩
  · right; rw [if_neg h]; exact ⟨rfl, fun h' => h ((valid_iff d).2 h')⟩
theorem d_no {d : Int} (h : ¬ (0 ≤ d ∧ d ≤ 100000)) : dY d = 0 ∧ dM d = 0 ∧ dD d = 0 ∧ dE d = 3 := by
  have := valid_no h
  simp [dY, dM, dD, dE, this]
theorem d_is {d : Int} (h0 : 0 ≤ d) (h1 : d ≤ 100000) : IsDate d (dY d) (dM d) (dD d) ∧ dE d = 0 := by
  have hv := (valid_iff d).2 ⟨h0, h1⟩
  simp only [dY, dM, dD, dE, hv, if_true]
  exact ⟨Classical.epsilon_spec (date_exists d h0 h1), trivial⟩
theorem d_of {d y m dom : Int} (h0 : 0 ≤ d) (h1 : d ≤ 100000) (h : IsDate d y m dom) : dY d = y ∧ dM d = m ∧ dD d = dom ∧ dE d = 0 := by
  obtain ⟨a, b⟩ := d_is h0 h1
  obtain ⟨e1, e2, e3⟩ := a.uniq h
  exact ⟨e1, e2, e3, b⟩
/-- day of a date -/
def isDay (y m d : Int) : Prop := 2000 ≤ y ∧ y ≤ 2300 ∧ 1 ≤ m ∧ m ≤ 12 ∧ 1 ≤ d ∧ d ≤ len y m ∧ 0 ≤ num y m d ∧ num y m d ≤ 100000
instance (y m d : Int) : Decidable (isDay y m d) := by unfold isDay; infer_instance
def dayN (y m d : Int) : Int := if isDay y m d then num y m d else 0
def dayE (y m d : Int) : Int := if isDay y m d then 0 else 3
theorem day_no {y m d : Int} (h : ¬ isDay y m d) : dayN y m d = 0 ∧ dayE y m d = 3 := by simp [dayN, dayE, h]
theorem day_yes {y m d : Int} (h : isDay y m d) : dayN y m d = num y m d ∧ dayE y m d = 0 := by simp [dayN, dayE, h]
theorem isDay_date {y m d : Int} (h : isDay y m d) : IsDate (num y m d) y m d := ⟨h.2.2.1, h.2.2.2.1, h.2.2.2.2.1, h.2.2.2.2.2.1, rfl⟩
def weekN (d : Int) : Int := if validB d then (d + 5) % 7 else 0
theorem st_2000 : st 24000 = 0 := by simp [st, num, bef]
theorem st_2300 : st 27600 = 109573 := by simp [st, num, bef]
/-- the month of a day, and the day's place in it -/
theorem d_key {d : Int} (h0 : 0 ≤ d) (h1 : d ≤ 100000) : 2000 ≤ dY d ∧ dY d ≤ 2299 ∧ 1 ≤ dM d ∧ dM d ≤ 12 ∧ 1 ≤ dD d ∧ dD d ≤ 31 ∧ dD d ≤ ln (dY d * 12 + (dM d - 1)) ∧ d = st (dY d * 12 + (dM d - 1)) + dD d - 1 := by
  obtain ⟨a, _⟩ := d_is h0 h1
  obtain ⟨k1, k2, k3⟩ := a.key
  have m1 := a.m1; have m2 := a.m2; have d1 := a.d1
  have d2 := a.d2
  have l := (st_of (dY d) (dM d) m1 m2).2
  have lb := len_bd (dY d) (dM d)
  have y1 : 2000 ≤ dY d := by
    rcases Int.lt_or_le (dY d) 2000 with h | h
    · have := st_le (dY d * 12 + (dM d - 1) + 1) 24000 (by omega)
      have := st_2000; omega
    · exact h
  have y2 : dY d ≤ 2299 := by
    rcases Int.lt_or_le 2299 (dY d) with h | h
    · have := st_le 27600 (dY d * 12 + (dM d - 1)) (by omega)
      have := st_2300; omega
    · exact h
  exact ⟨y1, y2, m1, m2, d1, by omega, by omega, k3⟩
theorem y_le {y m : Int} (h1 : 1 ≤ m) (h2 : m ≤ 12) (h : num y m 1 ≤ 100000) : y ≤ 2299 := by
  rcases Int.lt_or_le 2299 y with h' | h'
  · have := st_le 27600 (y * 12 + (m - 1)) (by omega)
    have := st_2300
    have := (st_of y m h1 h2).1
    omega
  · exact h'
theorem nxt {y m y' m' : Int} (h1 : 1 ≤ m) (h2 : m ≤ 12) (h : (m ≤ 11 ∧ y' = y ∧ m' = m + 1) ∨ (m = 12 ∧ y' = y + 1 ∧ m' = 1)) : num y' m' 1 = num y m 1 + len y m := by
  rcases h with ⟨a, rfl, rfl⟩ | ⟨rfl, rfl, rfl⟩
  · exact num_next _ _ h1 a
  · rw [num_year, len12]
theorem st_num {n y m : Int} (h1 : 1 ≤ m) (h2 : m ≤ 12) (h : n = y * 12 + (m - 1)) : st n = num y m 1 ∧ ln n = len y m := by
  subst h; exact st_of y m h1 h2
noncomputable def isB (a y m d : Int) : Bool := decide (dE a = 0 ∧ dayE y m d = 0 ∧ dY a = y ∧ dM a = m ∧ dD a = d ∧ dayN y m d = a)
/-- some months later -/
noncomputable def addK (d k : Int) : Int := dY d * 12 + (dM d - 1) + k
noncomputable def addX (d k : Int) : Int := st (addK d k) + min (dD d) (ln (addK d k)) - 1
def okAdd (d k : Int) : Prop := (0 ≤ d ∧ d ≤ 100000) ∧ 24000 ≤ addK d k ∧ addK d k ≤ 27600 ∧ 0 ≤ addX d k ∧ addX d k ≤ 100000
noncomputable instance (d k : Int) : Decidable (okAdd d k) := Classical.propDecidable _
noncomputable def addN (d k : Int) : Int := if okAdd d k then addX d k else 0
noncomputable def addE (d k : Int) : Int := if okAdd d k then 0 else 3
theorem add_no {d k : Int} (h : ¬ okAdd d k) : addN d k = 0 ∧ addE d k = 3 := by simp [addN, addE, h]
theorem add_yes {d k : Int} (h : okAdd d k) : addN d k = addX d k ∧ addE d k = 0 := by simp [addN, addE, h]
/-- the month of a day -/
noncomputable def monF (d : Int) : Int := if validB d then d - dD d + 1 else 0
noncomputable def monL (d : Int) : Int := if validB d then min 100000 (st (dY d * 12 + (dM d - 1) + 1) - 1) else 0
theorem num_bd {y m : Int} (h1 : 1 ≤ y) (h2 : y ≤ 100000) (_h3 : 1 ≤ m) (_h4 : m ≤ 12) : -800000 ≤ num y m 1 ∧ num y m 1 ≤ 40000000 := by
  have := bef_bd ((m + 9) % 12) (by omega) (by omega)
  rw [num_if]; split <;> omega
/-- the reference's way to some months later -/
theorem add_of {d k y m : Int} (h0 : 0 ≤ d) (h1 : d ≤ 100000) (m1 : 1 ≤ m) (m2 : m ≤ 12) (h : y * 12 + m = dY d * 12 + dM d + k) :
    addN d k = dayN y m (min (dD d) (len y m)) ∧ addE d k = dayE y m (min (dD d) (len y m)) := by
  have hk := d_key h0 h1
  have hK : addK d k = y * 12 + (m - 1) := by unfold addK; omega
  obtain ⟨s1, s2⟩ := st_of y m m1 m2
  have hX : addX d k = num y m (min (dD d) (len y m)) := by
    unfold addX; rw [hK, s1, s2, num_d y m (min _ _)]
  have hl := len_bd y m
  by_cases ho : okAdd d k
  · obtain ⟨a, b, c, e, f⟩ := id ho
    have hd : isDay y m (min (dD d) (len y m)) := ⟨by omega, by omega, m1, m2, by omega, by omega, by omega, by omega⟩
    rw [(add_yes ho).1, (add_yes ho).2, (day_yes hd).1, (day_yes hd).2]; exact ⟨hX, rfl⟩
  · have hd : ¬ isDay y m (min (dD d) (len y m)) := fun hd => by
      obtain ⟨a, b, _, _, _, _, e, f⟩ := hd
      refine ho ⟨⟨h0, h1⟩, by omega, ?_, by omega, by omega⟩
      rcases Int.lt_or_le 27600 (addK d k) with hh | hh
      · have := st_le 27600 (addK d k) (by omega)
        have := st_2300
        have : addX d k = st (addK d k) + min (dD d) (ln (addK d k)) - 1 := rfl
        have := ln_bd (addK d k)
        omega
      · exact hh
    rw [(add_no ho).1, (add_no ho).2, (day_no hd).1, (day_no hd).2]; exact ⟨rfl, rfl⟩
end Cal
