/- Plain laws of the calendar. -/
import Derived.Test.YthkocilclhjokaaMath
namespace Cal
theorem date0 : dY 0 = 2000 ∧ dM 0 = 1 ∧ dD 0 = 1 ∧ dE 0 = 0 := d_of (by decide) (by decide) ⟨by decide, by decide, by decide, by decide, by decide⟩
theorem date30 : dY 30 = 2000 ∧ dM 30 = 1 ∧ dD 30 = 31 ∧ dE 30 = 0 := d_of (by decide) (by decide) ⟨by decide, by decide, by decide, by decide, by decide⟩
theorem date45 : dY 45 = 2000 ∧ dM 45 = 2 ∧ dD 45 = 15 ∧ dE 45 = 0 := d_of (by decide) (by decide) ⟨by decide, by decide, by decide, by decide, by decide⟩
theorem date59 : dY 59 = 2000 ∧ dM 59 = 2 ∧ dD 59 = 29 ∧ dE 59 = 0 := d_of (by decide) (by decide) ⟨by decide, by decide, by decide, by decide, by decide⟩
theorem date100000 : dY 100000 = 2273 ∧ dM 100000 = 10 ∧ dD 100000 = 16 ∧ dE 100000 = 0 := d_of (by decide) (by decide) ⟨by decide, by decide, by decide, by decide, by decide⟩
theorem sane_is : isB 0 2000 1 1 = true ∧ isB 59 2000 2 29 = true ∧ isB 100000 2273 10 16 = true := by
  obtain ⟨a1, a2, a3, a4⟩ := date0
  obtain ⟨b1, b2, b3, b4⟩ := date59
  obtain ⟨c1, c2, c3, c4⟩ := date100000
  unfold isB
  rw [a1, a2, a3, a4, b1, b2, b3, b4, c1, c2, c3, c4]
  refine ⟨?_, ?_, ?_⟩ <;> decide
theorem sane_add : addN 30 1 = 59 ∧ addE 30 1 = 0 := by
  obtain ⟨a1, a2, a3, a4⟩ := date30
  have h := add_of (d := 30) (k := 1) (y := 2000) (m := 2) (by decide) (by decide) (by decide) (by decide) (by rw [a1, a2]; decide)
  rw [h.1, h.2, a3]; decide
theorem sane_mon : monF 45 = 31 ∧ monL 45 = 59 ∧ monF 100000 = 99985 ∧ monL 100000 = 100000 := by
  obtain ⟨a1, a2, a3, a4⟩ := date45
  obtain ⟨c1, c2, c3, c4⟩ := date100000
  unfold monF monL
  rw [a1, a2, a3, c1, c2, c3]; decide
theorem back1 (a : Int) : dE a = 0 → dayE (dY a) (dM a) (dD a) = 0 ∧ dayN (dY a) (dM a) (dD a) = a := by
  intro h
  rcases dE_cases a with ⟨_, h0, h1⟩ | ⟨h3, _⟩
  · obtain ⟨hI, _⟩ := d_is h0 h1
    have hk := d_key h0 h1
    have e := hI.eq
    have hd : isDay (dY a) (dM a) (dD a) := ⟨by omega, by omega, hI.m1, hI.m2, hI.d1, hI.d2, by omega, by omega⟩
    exact ⟨(day_yes hd).2, (day_yes hd).1.trans e⟩
  · omega
theorem back2 (y m d : Int) : dayE y m d = 0 → dE (dayN y m d) = 0 ∧ dY (dayN y m d) = y ∧ dM (dayN y m d) = m ∧ dD (dayN y m d) = d := by
  intro h
  by_cases hd : isDay y m d
  · rw [(day_yes hd).1]
    obtain ⟨e1, e2, e3, e4⟩ := d_of hd.2.2.2.2.2.2.1 hd.2.2.2.2.2.2.2 (isDay_date hd)
    exact ⟨e4, e1, e2, e3⟩
  · rw [(day_no hd).2] at h; omega
theorem lt_key {k l : Int} (h : st k < st (l + 1)) : k ≤ l := by
  rcases Int.lt_or_le l k with h' | h'
  · have := st_le (l + 1) k (by omega); omega
  · exact h'
theorem back3 (a b : Int) : dE a = 0 → dE b = 0 → a < b → dY a < dY b ∨ (dY a = dY b ∧ (dM a < dM b ∨ (dM a = dM b ∧ dD a < dD b))) := by
  intro ha hb hab
  rcases dE_cases a with ⟨_, a0, a1⟩ | ⟨h3, _⟩
  · rcases dE_cases b with ⟨_, b0, b1⟩ | ⟨h3, _⟩
    · have ka := d_key a0 a1
      have kb := d_key b0 b1
      have sb := st_succ (dY b * 12 + (dM b - 1))
      have hle : dY a * 12 + (dM a - 1) ≤ dY b * 12 + (dM b - 1) := lt_key (by omega)
      by_cases e : dY a * 12 + (dM a - 1) = dY b * 12 + (dM b - 1)
      · rw [e] at ka; omega
      · omega
    · omega
  · omega
theorem week_of (a : Int) : 0 ≤ a → a ≤ 100000 → weekN a = (a + 5) % 7 ∧ dE a = 0 := by
  intro h0 h1
  have hv := (valid_iff a).2 ⟨h0, h1⟩
  simp [weekN, dE, hv]
theorem mon_eq {a : Int} (h0 : 0 ≤ a) (h1 : a ≤ 100000) : monF a = st (dY a * 12 + (dM a - 1)) ∧ monL a = min 100000 (st (dY a * 12 + (dM a - 1) + 1) - 1) := by
  have hv := (valid_iff a).2 ⟨h0, h1⟩
  have hk := d_key h0 h1
  simp only [monF, monL, hv, if_true]
  exact ⟨by omega, trivial⟩
theorem key_of {d k : Int} (h0 : 0 ≤ d) (h1 : d ≤ 100000) (a : st k ≤ d) (b : d < st (k + 1)) : dY d * 12 + (dM d - 1) = k := by
  have hk := d_key h0 h1
  have hs := st_succ (dY d * 12 + (dM d - 1))
  exact key_uniq (d := d) (by omega) (by omega) a b
/-- what the first to the last day of a month satisfy -/
structure MonOk (a : Int) : Prop where
  f0 : 0 ≤ monF a
  f1 : monF a ≤ a
  l0 : a ≤ monL a
  l1 : monL a ≤ 100000
  d : dD (monF a) = 1
  e : dE (monF a) = 0
  len : monL a - monF a ≤ 30
  len2 : monL a < 100000 → 27 ≤ monL a - monF a
  next : monL a < 100000 → monF (monL a + 1) = monL a + 1 ∧ dE (monL a + 1) = 0
theorem mon_ok {a : Int} (h0 : 0 ≤ a) (h1 : a ≤ 100000) : MonOk a := by
  obtain ⟨e1, e2⟩ := mon_eq h0 h1
  have hk := d_key h0 h1
  have hs := st_succ (dY a * 12 + (dM a - 1))
  have hl := ln_bd (dY a * 12 + (dM a - 1))
  have hlo := st_le 24000 (dY a * 12 + (dM a - 1)) (by omega)
  have h24 := st_2000
  have f0 : 0 ≤ monF a := by omega
  have hI : IsDate (monF a) (dY a) (dM a) 1 := by
    have hi := (d_is h0 h1).1
    have := hi.d2; have := hi.d1
    refine ⟨hi.m1, hi.m2, by omega, by omega, ?_⟩
    rw [e1]; exact (st_of _ _ hi.m1 hi.m2).1.symm
  obtain ⟨_, _, g3, g4⟩ := d_of f0 (by omega) hI
  refine ⟨f0, by omega, by omega, by omega, g3, g4, by omega, by omega, fun h => ?_⟩
  have hs2 := st_succ (dY a * 12 + (dM a - 1) + 1)
  have hl2 := ln_bd (dY a * 12 + (dM a - 1) + 1)
  have hn : monL a + 1 = st (dY a * 12 + (dM a - 1) + 1) := by omega
  have kk := key_of (d := monL a + 1) (by omega) (by omega) (by omega : st (dY a * 12 + (dM a - 1) + 1) ≤ _) (by omega)
  have m2 := (mon_eq (a := monL a + 1) (by omega) (by omega)).1
  rw [kk] at m2
  exact ⟨by omega, (d_is (d := monL a + 1) (by omega) (by omega)).2⟩
theorem mon_no {a : Int} (h : ¬ (0 ≤ a ∧ a ≤ 100000)) : monF a = 0 ∧ monL a = 0 := by
  have := valid_no h
  simp [monF, monL, this]
theorem mon_two {a b : Int} (h0 : 0 ≤ a) (h1 : a ≤ 100000) (g0 : 0 ≤ b) (g1 : b ≤ 100000) :
    (monF a ≤ b ∧ b ≤ monL a → monF b = monF a ∧ monL b = monL a) ∧ (¬ (monF a ≤ b ∧ b ≤ monL a) → monL a < monF b ∨ monL b < monF a) := by
  obtain ⟨a1, a2⟩ := mon_eq h0 h1
  obtain ⟨b1, b2⟩ := mon_eq g0 g1
  have ha := d_key h0 h1
  have hb := d_key g0 g1
  have sb := st_succ (dY b * 12 + (dM b - 1))
  refine ⟨fun ⟨x, y⟩ => ?_, fun h => ?_⟩
  · have := key_of (k := dY a * 12 + (dM a - 1)) g0 g1 (by omega) (by omega)
    rw [this] at b1 b2
    omega
  · by_cases hx : b < monF a
    · right
      have : dY b * 12 + (dM b - 1) + 1 ≤ dY a * 12 + (dM a - 1) := by
        rcases Int.lt_or_le (dY a * 12 + (dM a - 1)) (dY b * 12 + (dM b - 1) + 1) with h' | h'
        · have := st_le (dY a * 12 + (dM a - 1)) (dY b * 12 + (dM b - 1)) (by omega); omega
        · exact h'
      have := st_le _ _ this
      omega
    · left
      have h2 : st (dY a * 12 + (dM a - 1) + 1) ≤ b := by omega
      have : dY a * 12 + (dM a - 1) + 1 ≤ dY b * 12 + (dM b - 1) := lt_key (by omega)
      have := st_le _ _ this
      omega
theorem addE_cases (a m : Int) : (addE a m = 0 ∧ okAdd a m ∧ addN a m = addX a m ∧ 0 ≤ addN a m ∧ addN a m ≤ 100000) ∨ (addE a m = 3 ∧ ¬ okAdd a m ∧ addN a m = 0) := by
  by_cases h : okAdd a m
  · left; obtain ⟨e1, e2⟩ := add_yes h
    exact ⟨e2, h, e1, by rw [e1]; exact h.2.2.2.1, by rw [e1]; exact h.2.2.2.2⟩
  · right; obtain ⟨e1, e2⟩ := add_no h
    exact ⟨e2, h, e1⟩
theorem addE_bad {a m : Int} (h : ¬ (0 ≤ a ∧ a ≤ 100000)) : addE a m = 3 := (add_no fun ho => h ho.1).2
theorem add_date {a m : Int} (h : okAdd a m) : dE (addN a m) = 0 ∧ dY (addN a m) * 12 + dM (addN a m) = dY a * 12 + dM a + m ∧ dD (addN a m) = min (dD a) (ln (addK a m)) ∧ (dD (addN a m) < dD a → monL (addN a m) = addN a m) ∧ dD (addN a m) ≤ dD a := by
  obtain ⟨⟨h0, h1⟩, h2, h3, h4, h5⟩ := id h
  have hk := d_key h0 h1
  have hl := ln_bd (addK a m)
  have hs := st_succ (addK a m)
  rw [(add_yes h).1]
  have hX : addX a m = st (addK a m) + min (dD a) (ln (addK a m)) - 1 := rfl
  have kk := key_of (d := addX a m) h4 h5 (k := addK a m) (by omega) (by omega)
  have hx := d_key h4 h5
  have e := (d_is h4 h5).2
  have hm := (mon_eq h4 h5).2
  rw [kk] at hx hm
  have hK : addK a m = dY a * 12 + (dM a - 1) + m := rfl
  exact ⟨e, by omega, by omega, by omega, by omega⟩
theorem add_twice {a m n : Int} (h : okAdd a m) (hd : dD a ≤ 28) : addN (addN a m) n = addN a (m + n) ∧ addE (addN a m) n = addE a (m + n) := by
  obtain ⟨e, k, d, _, _⟩ := add_date h
  have hl := ln_bd (addK a m)
  have hK : addK (addN a m) n = addK a (m + n) := by unfold addK; omega
  have hX : addX (addN a m) n = addX a (m + n) := by unfold addX; rw [hK, show dD (addN a m) = dD a from by omega]
  have hv : 0 ≤ addN a m ∧ addN a m ≤ 100000 := by rw [(add_yes h).1]; exact ⟨h.2.2.2.1, h.2.2.2.2⟩
  by_cases ho : okAdd a (m + n)
  · have : okAdd (addN a m) n := ⟨hv, by rw [hK]; exact ho.2.1, by rw [hK]; exact ho.2.2.1, by rw [hX]; exact ho.2.2.2.1, by rw [hX]; exact ho.2.2.2.2⟩
    rw [(add_yes this).1, (add_yes this).2, (add_yes ho).1, (add_yes ho).2]; exact ⟨hX, rfl⟩
  · have : ¬ okAdd (addN a m) n := fun hq => ho ⟨h.1, by rw [← hK]; exact hq.2.1, by rw [← hK]; exact hq.2.2.1, by rw [← hX]; exact hq.2.2.2.1, by rw [← hX]; exact hq.2.2.2.2⟩
    rw [(add_no this).1, (add_no this).2, (add_no ho).1, (add_no ho).2]; exact ⟨rfl, rfl⟩
theorem add_mono {a b m : Int} (h : okAdd a m) (g : okAdd b m) (hab : a ≤ b) : addN a m ≤ addN b m := by
  rw [(add_yes h).1, (add_yes g).1]
  have ha := d_key h.1.1 h.1.2
  have hb := d_key g.1.1 g.1.2
  have sb := st_succ (dY b * 12 + (dM b - 1))
  have hle : dY a * 12 + (dM a - 1) ≤ dY b * 12 + (dM b - 1) := lt_key (by omega)
  have hKa : addK a m = dY a * 12 + (dM a - 1) + m := rfl
  have hKb : addK b m = dY b * 12 + (dM b - 1) + m := rfl
  have hXa : addX a m = st (addK a m) + min (dD a) (ln (addK a m)) - 1 := rfl
  have hXb : addX b m = st (addK b m) + min (dD b) (ln (addK b m)) - 1 := rfl
  by_cases e : dY a * 12 + (dM a - 1) = dY b * 12 + (dM b - 1)
  · have : addK a m = addK b m := by omega
    rw [this] at hXa
    rw [e] at ha
    omega
  · have := st_le (addK a m + 1) (addK b m) (by omega)
    have := st_succ (addK a m)
    have := ln_bd (addK b m)
    omega
theorem add_mono2 {a b m : Int} (h : okAdd a m) : addE b m = 0 → a ≤ b → addN a m ≤ addN b m := fun h1 h2 => by
  rcases addE_cases b m with ⟨_, g, _⟩ | ⟨g, _⟩
  · exact add_mono h g h2
  · omega
theorem mon_none (a : Int) : ¬ (0 ≤ a ∧ a ≤ 100000) → monF a = 0 ∧ monL a = 0 := mon_no
end Cal
