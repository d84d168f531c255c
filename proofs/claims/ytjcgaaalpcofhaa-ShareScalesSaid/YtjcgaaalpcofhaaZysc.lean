/- Texts for the claim, put together (part 3 of 7): contracts of the functions that the law reaches. -/
import Derived.Test.YtjcgaaalpcofhaaZysb
import Derived.Test.YtjcgaaalpcofhaaProg
import Derived.Test.YtjcgaaalpcofhaaZysa
import Derived.Laws.Strings
import Derived.Laws.Slices
set_option linter.unusedVariables false
set_option linter.unusedSectionVars false
set_option linter.unusedSimpArgs false
namespace Kb
namespace Bg
/-- the first that is not zero -/
def orL : List Int → Int
  | [] => 0
  | x :: l => if x = 0 then orL l else x
theorem orL_no : ∀ {l : List Int}, (∀ i, i < l.length → l.getD i default = 0) → orL l = 0
  | [], _ => rfl
  | x :: l, h => by
    unfold orL
    have h0 := h 0 (by simp)
    rw [if_pos (by simpa using h0)]
    exact orL_no fun i hi => by simpa using h (i + 1) (by simpa using hi)
theorem orL_at : ∀ {l : List Int} {k : Nat} {v : Int}, k < l.length → (∀ i, i < k → l.getD i default = 0) → v = l.getD k default → ¬ v = 0 → v = orL l
  | [], k, v, h, _, _, _ => by cases h
  | x :: l, 0, v, _, _, hv, h0 => by
    unfold orL
    have : v = x := by simpa using hv
    subst this
    rw [if_neg h0]
  | x :: l, k + 1, v, hk, h, hv, h0 => by
    unfold orL
    have h1 := h 0 (by omega)
    rw [if_pos (by simpa using h1)]
    exact orL_at (by simpa using hk) (fun i hi => by simpa using h (i + 1) (by omega)) (by simpa using hv) h0
theorem eq_of_getD {l m : List Int} (hl : l.length = m.length) (h : ∀ i, i < l.length → l.getD i default = m.getD i default) : l = m := by
  refine List.ext_getElem hl fun i h1 h2 => ?_
  have := h i h1
  simpa [List.getD_eq_getElem?_getD, h1, h2] using this
theorem Dg_of {l : List Int} (h : ∀ i, i < l.length → 0 ≤ l.getD i default ∧ l.getD i default < 1048576) : Dg l := fun d hd => by
  obtain ⟨i, hi, rfl⟩ := List.mem_iff_getElem.1 hd
  have := h i hi
  simpa [List.getD_eq_getElem?_getD, hi] using this
theorem rt_bad {s : Int} {l : List Int} {k : Nat} {v : Int} (hk : k < l.length) (hv : v = l.getD k default) (h : v < 0 ∨ 1048575 < v) : ¬ RtB s l := fun hr => by
  have := hr.dg.get hk
  have e : l.getD k 0 = v := hv.symm
  omega
theorem rt_nil {s : Int} {l : List Int} (h : l.length = 0) : s = 0 ↔ RtB s l := by
  have := List.eq_nil_of_length_eq_zero h
  subst this
  exact ⟨fun h => ⟨Dg.nil, .inl ⟨rfl, h⟩⟩, fun h => by rcases h.2 with h | h; exact h.2; exact absurd rfl h.1⟩
theorem rt_ok {s v : Int} {l : List Int} {n : Int} (h : ¬ (l.length : Int) = 0) (hd : ∀ i, i < l.length → 0 ≤ l.getD i default ∧ l.getD i default < 1048576) (hv : v = l.getD n.toNat default) (hn : n = (l.length : Int) - 1) : ((s = 1 ∨ s = -1) ∧ ¬ v = 0) ↔ RtB s l := by
  have hne : l ≠ [] := fun e => by subst e; exact h rfl
  have hz := Nz_iff hne
  have e : l.getD (l.length - 1) 0 = v := by rw [hv, hn, show ((l.length : Int) - 1).toNat = l.length - 1 by omega]; rfl
  rw [e] at hz
  exact ⟨fun ⟨h1, h2⟩ => ⟨Dg_of hd, .inr ⟨hne, h1, hz.2 h2⟩⟩, fun hr => by rcases hr.2 with h | h; exact absurd h.1 hne; exact ⟨h.2.1, hz.1 h.2.2⟩⟩
theorem trim_stop {l : List Int} {n v : Int} (hv : 0 < n → v = l.getD (n - 1).toNat default) (h : ¬ 0 < n ∨ ¬ v = 0) : n.toNat = 0 ∨ l.getD (n.toNat - 1) 0 ≠ 0 := by
  by_cases hn : 0 < n
  · refine .inr fun e => ?_
    rcases h with h | h
    · exact h hn
    · apply h; rw [hv hn, show (n - 1).toNat = n.toNat - 1 by omega]; exact e
  · exact .inl (by omega)
/-- a sign, of what may be zero -/
def sg0 (n : Nat) (s : Int) : Int := if n = 0 then 0 else s
theorem len_dig0 {n : Nat} : ((dig n).length : Int) = 0 ↔ n = 0 := by
  rw [← dig_ne (n := n), ← List.length_eq_zero_iff]; omega
theorem getD_out {l : List Int} {i : Nat} (h : ¬ (i : Int) < l.length) : l.getD i 0 = 0 := by
  rw [List.getD_eq_getElem?_getD, List.getElem?_eq_none (by omega)]; rfl
/-! ### numbers -/
structure OfI (N : Nat) (l : List Int) (u : Int) : Prop where
  dg : Dg l
  u0 : 0 ≤ u
  sum : nv l + 1048576 ^ l.length * u.toNat = N
theorem of_start {u : Int} {N : Nat} (h : u.toNat = N) (h0 : 0 ≤ u) : OfI N [] u := ⟨Dg.nil, h0, by simp [nv, h]⟩
theorem of_len {N : Nat} {l : List Int} {u : Int} (h : OfI N l u) (hu : 0 < u) (hN : N ≤ 9223372036854775808) : l.length ≤ 3 := by
  have h1 := h.sum
  refine Decidable.by_contra fun hc => ?_
  have h2 : 1048576 ^ 4 ≤ 1048576 ^ l.length := Nat.pow_le_pow_right (by omega) (by omega)
  have h3 : 1048576 ^ l.length * 1 ≤ 1048576 ^ l.length * u.toNat := Nat.mul_le_mul_left _ (by omega)
  have h4 : (1048576 : Nat) ^ 4 = 1208925819614629174706176 := by decide
  omega
theorem of_step {N : Nat} {l : List Int} {u : Int} (h : OfI N l u) : OfI N (l ++ [u % 1048576]) (u / 1048576) := by
  have h0 := h.u0
  refine ⟨h.dg.append (Dg.one (by omega)), by omega, ?_⟩
  have h1 := h.sum
  have e : u.toNat = (u % 1048576).toNat + 1048576 * (u / 1048576).toNat := by omega
  rw [nv_append, List.length_append]
  have e2 := congrArg (fun n => 1048576 ^ l.length * n) e
  simp only [Nat.mul_add] at e2
  have e3 : nv [u % 1048576] = (u % 1048576).toNat := by simp [nv]
  have e4 : 1048576 ^ (l.length + 1) * (u / 1048576).toNat = 1048576 ^ l.length * (1048576 * (u / 1048576).toNat) := by rw [Nat.pow_succ, Nat.mul_assoc]
  rw [e3, show l.length + [u % 1048576].length = l.length + 1 from rfl, e4]
  omega
theorem of_end {N : Nat} {l : List Int} {u : Int} (h : OfI N l u) (hu : ¬ 0 < u) : nv l = N := by
  have h0 := h.u0
  have h1 := h.sum
  have : u.toNat = 0 := by omega
  rw [this] at h1
  omega
theorem of_sgn {n : Int} {N : Nat} (h : n.natAbs = N) (k : Int) (hk : (n < 0 ∧ k = -1) ∨ (¬ n < 0 ∧ k = 1)) : (if N = 0 then 0 else k) = sgn n := by
  unfold sgn
  by_cases h0 : N = 0
  · rw [if_pos h0, if_neg (by omega), if_pos (by omega)]
  · rw [if_neg h0]
    rcases hk with ⟨h1, rfl⟩ | ⟨h1, rfl⟩
    · rw [if_pos h1]
    · rw [if_neg h1, if_neg (by omega)]
/-- a big integer as an int -/
def inI (s : Int) (l : List Int) : Prop := RtB s l ∧ -9223372036854775808 ≤ zv s l ∧ zv s l ≤ 9223372036854775807
instance (s : Int) (l : List Int) : Decidable (inI s l) := by unfold inI; infer_instance
def intV (s : Int) (l : List Int) : Int := if inI s l then zv s l else 0
theorem intV_y {s : Int} {l : List Int} (h : inI s l) : intV s l = zv s l := if_pos h
theorem intV_n {s : Int} {l : List Int} (h : ¬ inI s l) : intV s l = 0 := if_neg h
theorem nv_big {s : Int} {l : List Int} (h : RtB s l) (hn : 9223372036854775808 < nv l) : ¬ inI s l := fun hi => by
  have h1 := hi.2
  have h2 := h.abs
  omega
theorem int_len {s : Int} {l : List Int} (h : RtB s l) (hl : 4 < (l.length : Int)) : ¬ inI s l := by
  refine nv_big h ?_
  have hne : l ≠ [] := fun e => by subst e; simp at hl
  have h1 := nv_ge hne h.dg h.nz
  have h2 : 1048576 ^ 4 ≤ 1048576 ^ (l.length - 1) := Nat.pow_le_pow_right (by omega) (by omega)
  have h4 : (1048576 : Nat) ^ 4 = 1208925819614629174706176 := by decide
  omega
theorem int_top {s : Int} {l : List Int} {v : Int} (h : RtB s l) (hl : 3 < l.length) (hv : v = l.getD 3 default) (h8 : 8 < v) : ¬ inI s l := by
  refine nv_big h ?_
  have e1 := nv_split l 3
  rw [Nat.min_eq_left (by omega), nv_drop hl] at e1
  have e : l.getD 3 0 = v := hv.symm
  rw [e] at e1
  have h4 : (1048576 : Nat) ^ 3 = 1152921504606846976 := by decide
  rw [h4] at e1
  omega
theorem int_step {l : List Int} {k : Nat} {v : Int} (hk : k < l.length) (hv : v = l.getD k default) (hd : Dg l) : nv (l.take (k + 1)) = nv (l.take k) + 1048576 ^ k * v.toNat ∧ 0 ≤ v ∧ v < 1048576 := by
  have e : l.getD k 0 = v := hv.symm
  have h := hd.get hk
  rw [e] at h
  have := nv_take hk
  rw [e] at this
  exact ⟨this, h⟩
theorem zv_s {s : Int} {l : List Int} (h : RtB s l) : (s < 0 → zv s l = -(nv l : Int)) ∧ (0 ≤ s → zv s l = nv l) := by
  unfold zv
  rcases h.cases with ⟨a, rfl⟩ | ⟨a, rfl⟩ | ⟨a, rfl⟩ <;> omega
theorem cmpI_le {x y : Int} : -1 ≤ cmpI x y ∧ cmpI x y ≤ 1 := by unfold cmpI; split; omega; split <;> omega
theorem sg_le {s : Int} {l : List Int} (h : RtB s l) : -1 ≤ s ∧ s ≤ 1 := by rcases h.cases with ⟨_, rfl⟩ | ⟨_, rfl⟩ | ⟨_, rfl⟩ <;> omega
theorem mul1 {s c : Int} (hs : -1 ≤ s ∧ s ≤ 1) (hc : -1 ≤ c ∧ c ≤ 1) : -9223372036854775808 ≤ s * c ∧ s * c ≤ 9223372036854775807 := by
  have : s = -1 ∨ s = 0 ∨ s = 1 := by omega
  rcases this with rfl | rfl | rfl <;> omega
theorem neg_s {s : Int} {l : List Int} (h : RtB s l) : (if nv l = 0 then 0 else -s) = sgn (-zv s l) := by
  rw [← neg_z h]
  have := h.neg.sg
  rw [this]
  rcases h.cases with ⟨a, rfl⟩ | ⟨a, rfl⟩ | ⟨a, rfl⟩
  · rw [if_pos a]; rfl
  · rw [if_neg (by omega)]
  · rw [if_neg (by omega)]
theorem neg_d {s : Int} {l : List Int} (h : RtB s l) : dig (nv l) = dig (-zv s l).natAbs := by rw [Int.natAbs_neg, h.abs]
theorem dmul {x y : Int} (hx : 0 ≤ x ∧ x < 1048576) (hy : 0 ≤ y ∧ y < 1048576) : 0 ≤ x * y ∧ x * y ≤ 1099509530625 :=
  ⟨Int.mul_nonneg hx.1 hy.1, by have := Int.mul_le_mul (a := x) (b := y) (c := 1048575) (d := 1048575) (by omega) (by omega) hy.1 (by omega); omega⟩
theorem nv_one (x : Int) : nv [x] = x.toNat := by simp [nv]
/-- the leading digit is raised -/
theorem sh_step {b s x : Int} (h : x = b * s) (hx : x < 524288) : b * (s * 2) < 1048576 := by
  have : b * (s * 2) = b * s * 2 := by rw [Int.mul_assoc]
  omega
theorem sh_lt {b s : Int} (hb : 1 ≤ b) (hs : 1 ≤ s) (h : b * s < 1048576) : s < 1048576 := by
  have := Int.mul_le_mul_of_nonneg_right hb (show 0 ≤ s by omega)
  omega
theorem top_pos {l : List Int} (h : l ≠ []) (hd : Dg l) (hz : Nz l) : 1 ≤ l.getD (l.length - 1) 0 := by
  have h1 := (Nz_iff h).1 hz
  have h2 := hd.get' (l.length - 1)
  omega
theorem win_is {u : List Int} {lo hi n : Nat} (h : hi = lo + n + 1) : (u.take hi).drop lo = win u lo n := by
  unfold win
  rw [List.drop_take, h, show lo + n + 1 - lo = n + 1 by omega]
theorem dig_len_mono {l : List Int} {n : Nat} (hd : Dg l) (hz : Nz l) (h : nv l ≤ n) : l.length ≤ (dig n).length :=
  len_le (dig_Dg n) hd hz (by rw [nv_dig]; exact h)
theorem dig_lt {n k : Nat} (h : n < 1048576 ^ k) : (dig n).length ≤ k := by
  refine Decidable.by_contra fun hc => ?_
  have hne : dig n ≠ [] := fun e => by rw [e] at hc; simp at hc
  have h1 := nv_ge hne (dig_Dg n) (dig_Nz n)
  rw [nv_dig] at h1
  have h2 : 1048576 ^ k ≤ 1048576 ^ ((dig n).length - 1) := Nat.pow_le_pow_right (by omega) (by omega)
  omega
theorem lt_dig {n k : Nat} (h : (dig n).length ≤ k) : n < 1048576 ^ k := by
  have h1 := nv_lt (dig_Dg n)
  rw [nv_dig] at h1
  have h2 : 1048576 ^ (dig n).length ≤ 1048576 ^ k := Nat.pow_le_pow_right (by omega) h
  omega
theorem mul_len {m n i j : Nat} (h : m < 1048576 ^ i) (k : n < 1048576 ^ j) : (dig (m * n)).length ≤ i + j := by
  refine dig_lt ?_
  rw [Nat.pow_add]
  have h0 : 0 < 1048576 ^ j := Nat.pow_pos (by omega)
  exact Nat.lt_of_le_of_lt (Nat.mul_le_mul_left m (Nat.le_of_lt k)) (Nat.mul_lt_mul_of_pos_right h h0)
theorem mul_dig_len (a b : List Int) (ha : Dg a) (hb : Dg b) : (dig (nv a * nv b)).length ≤ a.length + b.length := mul_len (nv_lt ha) (nv_lt hb)
/-- the numbers behind a long division -/
theorem div_fin {a b s : Nat} (hs : 0 < s) : a * s / (b * s) = a / b ∧ a * s % (b * s) / s = a % b := by
  refine ⟨Nat.mul_div_mul_right _ _ hs, ?_⟩
  rw [Nat.mul_mod_mul_right, Nat.mul_div_cancel _ hs]
theorem div_less {a b : Nat} (h : a < b) : dig (a / b) = [] ∧ a % b = a := by rw [Nat.div_eq_of_lt h, Nat.mod_eq_of_lt h]; exact ⟨rfl, rfl⟩
theorem dvals {v u0 u q : List Int} (h : DivI u0 v u q 0) {s A B : Nat} (hs : 0 < s) (h1 : nv u0 = A * s) (h2 : nv v = B * s) : nv q = A / B ∧ nv u / s = A % B := by
  obtain ⟨e1, e2⟩ := div_end h
  rw [e1, e2, h1, h2]
  exact div_fin hs
theorem nv_app0 (l : List Int) : nv (l ++ [0]) = nv l := by rw [nv_append]; simp [nv]
theorem cmp_lt {x y : Int} : cmpI x y < 0 ↔ x < y := by unfold cmpI; split; omega; split <;> omega
theorem gmul {x y : Int} (hx : 0 ≤ x ∧ x ≤ 1099511627776) (hy : 0 ≤ y ∧ y < 1048576) : 0 ≤ x * y ∧ x * y ≤ 1152921504606846976 :=
  ⟨Int.mul_nonneg hx.1 hy.1, by have := Int.mul_le_mul (a := x) (b := y) (c := 1099511627776) (d := 1048576) (by omega) (by omega) hy.1 (by omega); omega⟩
theorem nv_len1 {l : List Int} (h : l.length = 1) : nv l = (l.getD 0 0).toNat := by
  match l, h with
  | [x], _ => simp [nv]
theorem nv_r {a d : Nat} (hd : 0 < d) (h : d < 1048576) : Dg [((a % d : Nat) : Int)] ∧ nv [((a % d : Nat) : Int)] = a % d := by
  have := Nat.mod_lt a hd
  exact ⟨Dg.one (by omega), by rw [nv_one, Int.toNat_natCast]⟩
theorem dig_self {l : List Int} (hd : Dg l) (hz : Nz l) {n : Nat} (h : n = nv l) : l = dig n := by rw [h]; exact eq_dig hd hz
theorem dig_le {l : List Int} (h : Dg l) : (dig (nv l)).length ≤ l.length := dig_lt (nv_lt h)
/-! ### results -/
theorem oS_eq {p q : Prop} [Decidable p] [Decidable q] {z w : Int} (h : p ↔ q) (e : z = w) : oS p z = oS q w := by subst e; unfold oS; simp only [h]
theorem oD_eq {p q : Prop} [Decidable p] [Decidable q] {z w : Int} (h : p ↔ q) (e : z = w) : oD p z = oD q w := by subst e; unfold oD; simp only [h]
theorem or2 (s t : Int) : orL [s, t] = if s = 0 then t else s := by
  unfold orL
  split
  · unfold orL
    split
    · rename_i h; exact h.symm
    · rfl
  · rfl
section
variable {s t : Int} {l m : List Int}
theorem addS (h : RtB s l) (k : RtB t m) (hs : 0 ≤ s * t) : (if nv (dig (nv l + nv m)) = 0 then 0 else orL [s, t]) = sgn (zv s l + zv t m) := by
  rw [nv_dig, or2]; exact (add_same h k hs).2
theorem addD (h : RtB s l) (k : RtB t m) (hs : 0 ≤ s * t) : dig (nv (dig (nv l + nv m))) = dig (zv s l + zv t m).natAbs := by
  rw [nv_dig, (add_same h k hs).1]
theorem lessS (h : RtB s l) (k : RtB t m) (hs : ¬ 0 ≤ s * t) (hlt : nv l < nv m) : (if nv (dig (nv m - nv l)) = 0 then 0 else t) = sgn (zv s l + zv t m) := by
  rw [nv_dig]; exact (add_less h k hs hlt).2
theorem lessD (h : RtB s l) (k : RtB t m) (hs : ¬ 0 ≤ s * t) (hlt : nv l < nv m) : dig (nv (dig (nv m - nv l))) = dig (zv s l + zv t m).natAbs := by
  rw [nv_dig, (add_less h k hs hlt).1]
theorem moreS (h : RtB s l) (k : RtB t m) (hs : ¬ 0 ≤ s * t) (hge : nv m ≤ nv l) : (if nv (dig (nv l - nv m)) = 0 then 0 else s) = sgn (zv s l + zv t m) := by
  rw [nv_dig]; exact (add_more h k hs hge).2
theorem moreD (h : RtB s l) (k : RtB t m) (hs : ¬ 0 ≤ s * t) (hge : nv m ≤ nv l) : dig (nv (dig (nv l - nv m))) = dig (zv s l + zv t m).natAbs := by
  rw [nv_dig, (add_more h k hs hge).1]
theorem mulS (h : RtB s l) (k : RtB t m) : (if nv (dig (nv l * nv m)) = 0 then 0 else s * t) = sgn (zv s l * zv t m) := by
  rw [nv_dig]; exact (mul_z h k).2
theorem mulD (h : RtB s l) (k : RtB t m) : dig (nv (dig (nv l * nv m))) = dig (zv s l * zv t m).natAbs := by
  rw [nv_dig, (mul_z h k).1]
theorem gcdS (n : Nat) : (if nv (dig n) = 0 then 0 else 1) = sgn (n : Int) := by
  rw [nv_dig]; unfold sgn
  by_cases h : n = 0
  · rw [if_pos h, if_neg (by omega), if_pos (by omega)]
  · rw [if_neg h, if_neg (by omega), if_neg (by omega)]
theorem gcdD (n : Nat) : dig (nv (dig n)) = dig (n : Int).natAbs := by rw [nv_dig, Int.natAbs_natCast]
theorem nv_pos (h : RtB s l) (hs : ¬ s = 0) : nv l ≠ 0 ∧ l ≠ [] := by
  rcases h.cases with ⟨_, e⟩ | ⟨a, _⟩ | ⟨a, _⟩
  · exact absurd e hs
  · exact ⟨by omega, fun e => by subst e; simp [nv] at a⟩
  · exact ⟨by omega, fun e => by subst e; simp [nv] at a⟩
theorem sml (h : RtB s l) (k : RtB t m) : -9223372036854775808 ≤ s * t ∧ s * t ≤ 9223372036854775807 := mul1 (sg_le h) (by have := sg_le k; omega)
theorem qS (h : RtB s l) (k : RtB t m) (ht : nv m ≠ 0) (hs : 0 ≤ s * t ∨ nv l % nv m = 0) : (if nv (dig (nv l / nv m)) = 0 then 0 else s * t) = sgn (flo (zv s l) (zv t m)) := by rw [nv_dig]; exact (div_same h k ht hs).2.2.1
theorem qD (h : RtB s l) (k : RtB t m) (ht : nv m ≠ 0) (hs : 0 ≤ s * t ∨ nv l % nv m = 0) : dig (nv (dig (nv l / nv m))) = dig (flo (zv s l) (zv t m)).natAbs := by rw [nv_dig, (div_same h k ht hs).1]
theorem rS (h : RtB s l) (k : RtB t m) (ht : nv m ≠ 0) (hs : 0 ≤ s * t ∨ nv l % nv m = 0) : (if nv (dig (nv l % nv m)) = 0 then 0 else s) = sgn (fmo (zv s l) (zv t m)) := by rw [nv_dig]; exact (div_same h k ht hs).2.2.2
theorem rD (h : RtB s l) (k : RtB t m) (ht : nv m ≠ 0) (hs : 0 ≤ s * t ∨ nv l % nv m = 0) : dig (nv (dig (nv l % nv m))) = dig (fmo (zv s l) (zv t m)).natAbs := by rw [nv_dig, (div_same h k ht hs).2.1]
theorem gcd_step {x y g : Nat} (h : Nat.gcd x y = g) : Nat.gcd y (x % y) = g := by rw [← h, Nat.gcd_comm x y, Nat.gcd_comm y (x % y)]; exact (Nat.gcd_rec y x).symm
end
theorem dig_len_mono' {m n : Nat} (h : m ≤ n) : (dig m).length ≤ (dig n).length := len_le (dig_Dg n) (dig_Dg m) (dig_Nz m) (by rw [nv_dig, nv_dig]; exact h)
theorem nv_ne {l : List Int} (hd : Dg l) (hz : Nz l) (h : l ≠ []) : nv l ≠ 0 := fun e => h (by rw [eq_dig hd hz, e]; rfl)
end Bg
end Kb
namespace Kb
open Go Go.Proofs
theorem mo : Try.prog.follows .mixedOrders = true := by kernel_rfl
end Kb
set_option linter.unusedVariables false
set_option linter.unusedSectionVars false
set_option linter.unusedSimpArgs false
namespace Kb
open Go
structure DBig where
  Sign : Int := 0
  Digits : Fat Int := {}
instance : Dat DBig where
  default := {}
  size := 2
  cells x := Dat.cells x.Sign ++ Dat.cells x.Digits
  good H x := Dat.good H x.Digits
  len _ := rfl
  one H x h u hu := by
    simp only [List.mem_append] at hu
    rcases hu with hu | hu
    · exact Dat.one H x.Sign trivial u hu
    · exact Dat.one H x.Digits h u hu
  q x := Dat.q x.Digits
  hq H x h := Dat.hq H _ h
  mono _ _ _ k h := Dat.mono _ _ _ k h
  zero H := Dat.zero H
structure DFrac where
  P : DBig := default
  Q : DBig := default
instance : Dat DFrac where
  default := {}
  size := 4
  cells x := Dat.cells x.P ++ Dat.cells x.Q
  good H x := Dat.good H x.P ∧ Dat.good H x.Q
  len x := by simp [Dat.len]; rfl
  one H x h u hu := by
    obtain ⟨h0, h1⟩ := h
    simp only [List.mem_append] at hu
    rcases hu with hu | hu
    · exact Dat.one H x.P h0 u hu
    · exact Dat.one H x.Q h1 u hu
  q x := Dat.q x.P ∧ Dat.q x.Q
  hq H x h := ⟨Dat.hq H _ h.1, Dat.hq H _ h.2⟩
  mono _ _ _ k h := ⟨Dat.mono _ _ _ k h.1, Dat.mono _ _ _ k h.2⟩
  zero H := ⟨Dat.zero H, Dat.zero H⟩
structure DThing where
  Text : ByteArray := ByteArray.empty
  Value : Int := 0
  Blind : Int := 0
  Left : Int := 0
  Right : Int := 0
instance : Dat DThing where
  default := {}
  size := 5
  cells x := Dat.cells x.Text ++ Dat.cells x.Value ++ Dat.cells x.Blind ++ Dat.cells x.Left ++ Dat.cells x.Right
  good H x := True
  len _ := rfl
  one H x h u hu := by
    simp only [List.mem_append] at hu
    rcases hu with (((hu | hu) | hu) | hu) | hu
    · exact Dat.one H x.Text trivial u hu
    · exact Dat.one H x.Value trivial u hu
    · exact Dat.one H x.Blind trivial u hu
    · exact Dat.one H x.Left trivial u hu
    · exact Dat.one H x.Right trivial u hu
  mono _ _ _ _ h := h
  zero _ := trivial
structure DVault where
  Things : Fat DThing := {}
instance : Dat DVault where
  default := {}
  size := 1
  cells x := Dat.cells x.Things
  good H x := Dat.good H x.Things
  len _ := rfl
  one H x h u hu := by
    exact Dat.one H x.Things h u hu
  q x := Dat.q x.Things
  hq H x h := Dat.hq H _ h
  mono _ _ _ k h := Dat.mono _ _ _ k h
  zero H := Dat.zero H
structure Dbuilder where
  Vault : DVault := default
instance : Dat Dbuilder where
  default := {}
  size := 1
  cells x := Dat.cells x.Vault
  good H x := Dat.good H x.Vault
  len x := by simp [Dat.len]; rfl
  one H x h u hu := by
    exact Dat.one H x.Vault h u hu
  q x := Dat.q x.Vault
  hq H x h := Dat.hq H _ h
  mono _ _ _ k h := Dat.mono _ _ _ k h
  zero H := Dat.zero H
end Kb
set_option linter.unusedVariables false
set_option linter.unusedSectionVars false
set_option linter.unusedSimpArgs false
namespace Kb
open Go
/-- a slice value of which nothing is known -/
structure Rw where
  s : SV := {}
instance : Dat Rw where
  default := {}
  size := 1
  cells x := [x.s.v]
  good _ _ := True
  len _ := rfl
  one _ _ _ u hu := by simp at hu; subst hu; rfl
  mono _ _ _ _ _ := trivial
  zero _ := trivial
def rw' {α : Type} (l : List (Fat α)) : List Rw := l.map fun x => ⟨x.s⟩
theorem rows_rw {α : Type} [Dat α] (l : List (Fat α)) : rows (rw' l) = rows l := by
  unfold rows rw'
  rw [List.map_map]; rfl
@[simp] theorem rw_length {α : Type} (l : List (Fat α)) : (rw' l).length = l.length := by simp [rw']
theorem rw_set {α : Type} (l : List (Fat α)) (k : Nat) (x : Fat α) : (rw' l).set k ⟨x.s⟩ = rw' (l.set k x) := by
  unfold rw'; rw [List.map_set]
theorem rw_get {l : List Rw} {k : Nat} {x : Rw} (hk : k < l.length) : x = (l.set k x).getD k default := by
  simp [List.getD_eq_getElem?_getD, hk]
section
variable {P : Program} {E : Env P} {S : Stop} {t : St}
/-- an owned slice of slices, taken barely -/
theorem V.raw {α : Type} [Dat α] (r : Nat) (b : Bool) (T : TypeId) (l : List (Fat α)) (s : SV) (hr : t.L[r]? = some (os b T l s)) (k : V E S ⟨t.sl, t.F, t.L.set r (os b T (rw' l) s)⟩) : V E S t := fun N ε a w hin => by
  have hents : ∀ (j c : Nat) (o : Obj), (ents (t.L.set r (os b T (rw' l) s)) ε)[j]? = some (some (c, o)) → (ents t.L ε)[j]? = some (some (c, o)) := fun j c o h => by
    rw [ents_get, Option.map_eq_some_iff] at h
    obtain ⟨y, hy, he⟩ := h
    rcases set_get hy with ⟨rfl, rfl⟩ | ⟨hj, hy⟩
    · rw [ents_get, hr]; exact congrArg some he
    · rw [ents_get, hy, ← he]; rfl
  refine k N ε a w ⟨hin.slots, ⟨hin.st.base, hin.st.agr, fun j c o h => hin.st.ent j c o (hents j c o h), fun j j' c o o' h h' => hin.st.dis j j' c o o' (hents _ _ _ h) (hents _ _ _ h')⟩, hin.new, hin.facts, fun j y hy => ?_⟩
  rcases set_get hy with ⟨rfl, rfl⟩ | ⟨hj, hy⟩
  · have h := hin.own _ _ hr
    have key : ∀ J : Heaplet, OSl T J l s.v (ε j) → OSl T J (rw' l) s.v (ε j) := fun J h => ⟨by rw [rows_rw]; exact h.sl, fun _ _ => trivial⟩
    unfold os ow LE.at at *
    cases b
    · exact key _ h
    · exact key _ h
  · exact hin.own j y hy
/-- bare slices that are known again -/
theorem V.bless {α : Type} [Dat α] (i j m : Nat) (b1 b2 b3 : Bool) (lr : List Rw) (s0 : SV) (l : List (Fat α)) (s1 : SV) (ck : List α) (U : SV) (k : Nat) (l2 : List (Fat α)) (h : (t.F[i]?, t.F[j]?, t.F[m]?) = (some (fs b1 lr s0), some (fs b2 l s1), some (fs b3 ck U)))
    (hl2 : l2 = l.set k ⟨ck, U⟩) (hl : lr = rw' l2) (K : V E S ⟨t.sl, t.F ++ [fs false l2 s0], t.L⟩) : V E S t := fun N ε a w hin => by
  simp only [Prod.mk.injEq] at h
  obtain ⟨h1, h2, h3⟩ := h
  have at' : ∀ {q : Nat} {f : FP}, t.F[q]? = some f → f.p (hun N E.H) := fun hq => FP.to (hin.facts _ (List.mem_of_getElem? hq)) hun_left (Sub.refl _)
  have g1 : RSl (hun N E.H) lr s0.v := at' h1
  have g2 : RSl (hun N E.H) l s1.v := at' h2
  have g3 : RSl (hun N E.H) ck U.v := at' h3
  refine K N ε a w ⟨hin.slots, hin.st, hin.new, fun f hf => ?_, hin.own⟩
  rcases List.mem_append.1 hf with hf | hf
  · exact hin.facts f hf
  · have : f = fs false l2 s0 := by simpa using hf
    subst this
    show RSl (hun N E.H) l2 s0.v
    refine ⟨?_, fun x hx => ?_⟩
    · rw [← rows_rw, ← hl]; exact g1.sl
    · rw [hl2] at hx
      rcases List.mem_or_eq_of_mem_set hx with hx | hx
      · exact g2.good x hx
      · rw [hx]; exact g3
end
namespace Hint
variable {P : Program}
/-- a slice value is stored into an element of bare slices -/
def seR {g : Prop} (Γ : GdI g) (n r : Nat) (E : TypeId) (t : Bool) (l : List Rw) (s : Gh → SV) (k : Int) (u : Gh → SV) (h : g → 0 ≤ k ∧ k < l.length) : Hint P where
  d := { val := fun _ => undef, news := [(r, fun G => os t E (l.set k.toNat ⟨u G⟩) (s G), fun G => (G n).e)] }
  τ := Option (TypeId × Value × Value) × Option Nat × Option LE × Nat × Value × Option Bool × SV × SV
  lhs c i G g _ := (c.R.str G i, sizeT P (c.R.stt i), c.leAt i r G, i, c.R.stv G i, Γ.B.map fun _ => c.R.gd G i, s (c.R.vis i (RC.put G i g)), u (c.R.vis i (RC.put G i g)))
  rhs c i G _ _ := (some (c.R.stt i, .pointer (some (offA (elemAddr (s G).v (k.toNat * 1)) none)), (u G).v), some 1, some (os t E l (s G)), n, (u G).v, Γ.B, s G, u G)
  sound c i ok hil hi h0 := fun o ho G w hs => by
    have h1 := fun g => h0 G g w
    simp only [Prod.mk.injEq] at h1
    obtain ⟨e1, e2, e4, rfl, e5, e11, _⟩ := h1 {}
    obtain ⟨b0, b1⟩ := h (Cx.gdOk Γ hs e11)
    have hw : c.R.wrE r i = true := by unfold RC.wrE; rw [Cx.upsOf hi]; simp
    obtain ⟨en, a1, a2, a3⟩ := Cx.own_at ok hil hs e4 (by rw [hw]; simp)
    have own : OwnS E 1 (rows l) (s G).v en := by
      unfold os ow LE.at at a2
      cases t
      · exact a2.sl
      · exact a2.sl
    have hlt : k.toNat < l.length := by omega
    obtain ⟨en', w', hr, ho', hg⟩ := storeOwn_does (w := w) (k := k.toNat) (row := Dat.cells (l.getD k.toNat default)) (vs := [(u G).v]) ho e1 (offA_eq _ _) e2 rfl own a3 (get_map' hlt rfl) (by simp) (by simp; rfl)
    unfold Does
    rw [hr]
    have hv := Cx.vis_self (c := c) (i := i) (G := G) { e := en' }
    obtain ⟨_, _, _, _, _, _, hsv, huv⟩ := h1 { e := en' }
    refine ⟨{ e := en' }, left_turn ok hil hi hs rfl rfl a1 hg ?_ ?_ rfl rfl (by rw [Cx.valOf hi])⟩
    · show (c.R.vis i (RC.put G i { e := en' }) i).e = _
      rw [hv]
    · show bif t then OSl E _ (l.set k.toNat ⟨u (c.R.vis i (RC.put G i { e := en' }))⟩) _ _ else OSl E _ (l.set k.toNat ⟨u (c.R.vis i (RC.put G i { e := en' }))⟩) _ _
      rw [hv, hsv, huv]
      have ho2 : OwnS E 1 (rows (l.set k.toNat ⟨u G⟩)) (s G).v en' := by
        have : rows (l.set k.toNat (⟨u G⟩ : Rw)) = (rows l).set k.toNat (writeL (Dat.cells (l.getD k.toNat default)) 0 [(u G).v]) := by
          simp only [rows, List.map_set]; rfl
        rw [this]; exact ho'
      cases t
      · exact ⟨ho2, fun _ _ => trivial⟩
      · exact ⟨ho2, fun _ _ => trivial⟩
/-- a store into an element of an owned slice, of what this region has made -/
def seG {α : Type} [Dat α] {g : Prop} (Γ : GdI g) (n r : Nat) (E : TypeId) (t : Bool) (l : List α) (s : Gh → SV) (k : Int) (off : Option Nat) (x : α) (x' : Gh → α) (hx : x = l.getD k.toNat default) (t2 : Bool) (h : g → 0 ≤ k ∧ k < l.length)
    (ht : t2 = true → t = true) (qs : List Kv) (hq : ∀ G H, (∀ x ∈ l, Dat.good H x) → allR qs G H → Dat.good H (x' G)) : Hint P where
  d := { val := fun _ => undef, news := [(r, fun G => os t2 E (l.set k.toNat (x' G)) (s G), fun G => (G n).e)] }
  τ := Option (TypeId × Value × Value) × Option Nat × Bool × Option LE × Nat × Bool × List Value × Bool × List (Option (Bool × (Ent → Heaplet → Prop)) × Bool) × SV × Option Bool × α
  lhs c i G g _ := (c.R.str G i, sizeT P (c.R.stt i), decide (off.getD 0 + (c.R.stv G i).cells.toList.length ≤ Dat.size α), c.leAt i r G, i, (c.R.stv G i).cells.toList.all cell1, Dat.cells (x' G), tOk t2 qs, qs.map (Kv.chk c i G), s (c.R.vis i (RC.put G i g)), Γ.B.map fun _ => c.R.gd G i, x' (c.R.vis i (RC.put G i g)))
  rhs c i G _ _ := (some (c.R.stt i, .pointer (some (offA (elemAddr (s G).v (k.toNat * Dat.size α)) off)), c.R.stv G i), some (c.R.stv G i).cells.toList.length, true, some (os t E l (s G)), n, true, writeL (Dat.cells x) (off.getD 0) (c.R.stv G i).cells.toList, true, qs.map (Kv.want G), s G, Γ.B, x' G)
  sound c i ok hil hi h0 := fun o ho G w hs => by
    have h1 := fun g => h0 G g w
    simp only [Prod.mk.injEq] at h1
    obtain ⟨e1, e2, e3, e4, rfl, e6, e7, e8, e9, _, e11, _⟩ := h1 {}
    obtain ⟨b0, b1⟩ := h (Cx.gdOk Γ hs e11)
    have hw : c.R.wrE r i = true := by unfold RC.wrE; rw [Cx.upsOf hi]; simp
    obtain ⟨en, a1, a2, a3⟩ := Cx.own_at ok hil hs e4 (by rw [hw]; simp)
    have own : OwnS E (Dat.size α) (rows l) (s G).v en ∧ ∀ x ∈ l, Dat.good (c.J i G t) x := by
      unfold os ow LE.at at a2
      cases t
      · exact ⟨a2.sl, a2.good⟩
      · exact ⟨a2.sl, a2.good⟩
    obtain ⟨en', w', hr, ho', hg⟩ := storeOwn_does (w := w) (k := k.toNat) (row := Dat.cells x) ho e1 (offA_eq _ _) e2 rfl own.1 a3 (get_map' (by omega) hx) (of_decide_eq_true e3) e6
    unfold Does
    rw [hr]
    have hv := Cx.vis_self (c := c) (i := i) (G := G) { e := en' }
    have hsv := (h1 { e := en' }).2.2.2.2.2.2.2.2.2.1
    have hxv := (h1 { e := en' }).2.2.2.2.2.2.2.2.2.2.2
    refine ⟨{ e := en' }, left_turn ok hil hi hs rfl rfl a1 hg ?_ ?_ rfl rfl (by rw [Cx.valOf hi])⟩
    · show (c.R.vis i (RC.put G i { e := en' }) i).e = _
      rw [hv]
    · show bif t2 then OSl E _ (l.set k.toNat (x' (c.R.vis i (RC.put G i { e := en' })))) _ _ else OSl E _ (l.set k.toNat (x' (c.R.vis i (RC.put G i { e := en' })))) _ _
      rw [hv, hsv, hxv]
      have ho2 : OwnS E (Dat.size α) (rows (l.set k.toNat (x' G))) (s G).v en' := by
        have : rows (l.set k.toNat (x' G)) = (rows l).set k.toNat (writeL (Dat.cells x) (off.getD 0) (c.R.stv G i).cells.toList) := by rw [← e7]; simp [rows, List.map_set]
        rw [this]; exact ho'
      have hgl : ∀ x ∈ l, Dat.good (c.J i G t2) x := fun y hy => by
        cases t2 with
        | true => rw [← ht rfl]; exact own.2 y hy
        | false => exact Dat.mono _ _ _ (Cx.J_le_false hs _) (own.2 y hy)
      have fin : ∀ x ∈ l.set k.toNat (x' G), Dat.good (c.J i G t2) x := fun y hy => by
        rcases List.mem_or_eq_of_mem_set hy with hy | hy
        · exact hgl y hy
        · rw [hy]; exact hq G _ hgl (allR_of ok hil hs e9 e8)
      cases t2
      · exact ⟨ho2, fin⟩
      · exact ⟨ho2, fin⟩
end Hint
end Kb
set_option linter.unusedVariables false
set_option linter.unusedSimpArgs false
set_option linter.unusedSectionVars false
namespace Kb
open Go
/-! ### bits -/
theorem wrapU64 (n : Int) : IntKind.u64.wrap n = n % 18446744073709551616 := by simp [IntKind.wrap, IntKind.bits, IntKind.signed]
theorem wrapU8 (n : Int) : IntKind.u8.wrap n = n % 256 := by simp [IntKind.wrap, IntKind.bits, IntKind.signed]
theorem ofInt64 (x : Int) : (BitVec.ofInt 64 x).toNat = (x % 18446744073709551616).toNat := by simp [BitVec.toNat_ofInt]
theorem and64 (x : Int) {b : Nat} {m : Int} (hb : b ≤ 62) (hm : m = 2 ^ b - 1) : ((BitVec.ofInt 64 x &&& BitVec.ofInt 64 m).toNat : Int) = x % (2 ^ b : Nat) := by
  have hm2 : (BitVec.ofInt 64 m).toNat = 2 ^ b - 1 := by
    rw [ofInt64]
    have h1 : (2 : Int) ^ b = ((2 ^ b : Nat) : Int) := by simp
    have h2 : 2 ^ b ≤ 2 ^ 62 := Nat.pow_le_pow_right (by omega) hb
    have h3 : 0 < 2 ^ b := Nat.pow_pos (by omega)
    rw [hm, h1]
    omega
  rw [BitVec.toNat_and, hm2, ofInt64, Nat.and_two_pow_sub_one_eq_mod]
  have h4 : (2 ^ b : Nat) ∣ 18446744073709551616 := ⟨2 ^ (64 - b), by rw [← Nat.pow_add, show b + (64 - b) = 64 by omega]⟩
  have h5 : ((2 ^ b : Nat) : Int) ∣ (18446744073709551616 : Int) := Int.natCast_dvd_natCast.2 h4
  rw [Int.natCast_emod, Int.toNat_of_nonneg (Int.emod_nonneg _ (by omega)), Int.emod_emod_of_dvd _ h5]
theorem or64 {r a : Int} {b : Nat} (hr : 0 ≤ r) (ha : 0 ≤ a ∧ a < (2 ^ b : Nat)) (hs : r * (2 ^ b : Nat) < 18446744073709551616) (hb : b ≤ 63) : ((BitVec.ofInt 64 (r * (2 ^ b : Nat)) ||| BitVec.ofInt 64 a).toNat : Int) = r * (2 ^ b : Nat) + a := by
  rw [BitVec.toNat_or, ofInt64, ofInt64]
  have h2 : 2 ^ b ≤ 2 ^ 63 := Nat.pow_le_pow_right (by omega) hb
  have h0 : 0 ≤ r * (2 ^ b : Nat) := Int.mul_nonneg hr (by omega)
  have e1 : (r * (2 ^ b : Nat) % 18446744073709551616).toNat = 2 ^ b * r.toNat := by
    rw [Int.emod_eq_of_lt h0 hs, Int.toNat_mul hr (by omega), Nat.mul_comm, Int.toNat_natCast]
  have e2 : (a % 18446744073709551616).toNat = a.toNat := by
    rw [Int.emod_eq_of_lt ha.1 (by omega)]
  rw [e1, e2, ← Nat.two_pow_add_eq_or_of_lt (by omega)]
  have e3 : ((r.toNat : Nat) : Int) = r := by omega
  rw [Int.natCast_add, Int.natCast_mul, e3, Int.mul_comm r]; omega
section
variable {P : Program} {T : TypeId} {w : World}
theorem and_run {x n m : Int} {b : Nat} (hb : b ≤ 62) (hm : m = 2 ^ b - 1) (hn : n = x % (2 ^ b : Nat)) : (binOp .and T (.int .i64 x) (.int .i64 m)).run P w = .ok (.int .i64 n) w := by
  have h := and64 x hb hm
  have h3 : 0 < 2 ^ b := Nat.pow_pos (by omega)
  have h2 : 2 ^ b ≤ 2 ^ 62 := Nat.pow_le_pow_right (by omega) hb
  have hn0 : 0 ≤ n ∧ n < 2 ^ 62 := by rw [hn]; exact ⟨Int.emod_nonneg _ (by omega), by have := Int.emod_lt_of_pos x (show (0 : Int) < ((2 ^ b : Nat) : Int) by omega); omega⟩
  have e : (binOp .and T (.int .i64 x) (.int .i64 m)).run P w = .ok (.int .i64 (IntKind.i64.wrap ((BitVec.ofInt 64 x &&& BitVec.ofInt 64 m).toNat : Int))) w := rfl
  rw [e, h, ← hn, IntKind.wrap_i64]
  congr 2; omega
theorem andu_run {x n m : Int} {b : Nat} (hb : b ≤ 62) (hm : m = 2 ^ b - 1) (hn : n = x % (2 ^ b : Nat)) : (binOp .and T (.int .u64 x) (.int .u64 m)).run P w = .ok (.int .u64 n) w := by
  have h := and64 x hb hm
  have h3 : 0 < 2 ^ b := Nat.pow_pos (by omega)
  have h2 : 2 ^ b ≤ 2 ^ 62 := Nat.pow_le_pow_right (by omega) hb
  have hn0 : 0 ≤ n ∧ n < 2 ^ 62 := by rw [hn]; exact ⟨Int.emod_nonneg _ (by omega), by have := Int.emod_lt_of_pos x (show (0 : Int) < ((2 ^ b : Nat) : Int) by omega); omega⟩
  have e : (binOp .and T (.int .u64 x) (.int .u64 m)).run P w = .ok (.int .u64 (IntKind.u64.wrap ((BitVec.ofInt 64 x &&& BitVec.ofInt 64 m).toNat : Int))) w := rfl
  rw [e, h, ← hn, wrapU64]
  congr 2; omega
theorem or_run {r a n : Int} {b : Nat} (hb : b ≤ 62) (hr : 0 ≤ r) (ha : 0 ≤ a ∧ a < (2 ^ b : Nat)) (hn : n = r * (2 ^ b : Nat) + a) (hs : n ≤ 9223372036854775807) : (binOp .or T (.int .i64 (r * (2 ^ b : Nat))) (.int .i64 a)).run P w = .ok (.int .i64 n) w := by
  have h0 : 0 ≤ r * (2 ^ b : Nat) := Int.mul_nonneg hr (by omega)
  have h := or64 hr ha (by omega) (by omega)
  have e : (binOp .or T (.int .i64 (r * (2 ^ b : Nat))) (.int .i64 a)).run P w = .ok (.int .i64 (IntKind.i64.wrap ((BitVec.ofInt 64 (r * (2 ^ b : Nat)) ||| BitVec.ofInt 64 a).toNat : Int))) w := rfl
  rw [e, h, ← hn, IntKind.wrap_i64]
  congr 2; omega
theorem oru_run {r a n : Int} {b : Nat} (hb : b ≤ 63) (hr : 0 ≤ r) (ha : 0 ≤ a ∧ a < (2 ^ b : Nat)) (hn : n = r * (2 ^ b : Nat) + a) (hs : n < 18446744073709551616) : (binOp .or T (.int .u64 a) (.int .u64 (r * (2 ^ b : Nat)))).run P w = .ok (.int .u64 n) w := by
  have h0 : 0 ≤ r * (2 ^ b : Nat) := Int.mul_nonneg hr (by omega)
  have h := or64 hr ha (by omega) hb
  have e : (binOp .or T (.int .u64 a) (.int .u64 (r * (2 ^ b : Nat)))).run P w = .ok (.int .u64 (IntKind.u64.wrap ((BitVec.ofInt 64 a ||| BitVec.ofInt 64 (r * (2 ^ b : Nat))).toNat : Int))) w := rfl
  rw [e, BitVec.or_comm, h, ← hn, wrapU64]
  congr 2; omega
theorem shr_run {k yk : IntKind} {x n : Int} (s : Nat) (hs : s ≤ k.bits) (hn : n = x / (2 ^ s : Nat)) : (binOp .shr T (.int k x) (.int yk s)).run P w = .ok (.int k n) w := by
  have e : (binOp .shr T (.int k x) (.int yk s)).run P w = .ok (.int k (x.fdiv (2 ^ s))) w := by
    simp [binOp, Op.shift, Nat.min_eq_left hs, show ¬ (s : Int) < 0 by omega]
  have h1 : (2 : Int) ^ s = ((2 ^ s : Nat) : Int) := by simp
  rw [e, h1, Int.fdiv_eq_ediv_of_nonneg _ (Int.natCast_nonneg _), ← hn]
theorem shl_run {k yk : IntKind} {x n y : Int} (s : Nat) (hy : y = s) (hs : s ≤ k.bits) (hn : n = k.wrap (x * (2 ^ s : Nat))) : (binOp .shl T (.int k x) (.int yk y)).run P w = .ok (.int k n) w := by
  subst hy
  have h1 : (2 : Int) ^ s = ((2 ^ s : Nat) : Int) := by simp
  have e : (binOp .shl T (.int k x) (.int yk s)).run P w = .ok (.int k (k.wrap (x * 2 ^ s))) w := by
    simp [binOp, Op.shift, Nat.min_eq_left hs, show ¬ (s : Int) < 0 by omega]
  rw [e, h1, ← hn]
theorem sadd_run {a b : ByteArray} (h : (a.size : Int) + b.size ≤ 9223372036854775807) : (binOp .add T (.string a) (.string b)).run P w = .ok (.string (a ++ b)) w := by
  have h2 : ¬ (IntKind.i64.max < ((a.size + b.size : Nat) : Int)) := by
    have : IntKind.i64.max = 9223372036854775807 := by decide
    rw [this]; omega
  simp [binOp, Op.stringOp, h2]
  omega
end
/-! ### strings as lists of bytes -/
def bl (s : ByteArray) : List UInt8 := s.data.toList
@[simp] theorem bl_len (s : ByteArray) : (bl s).length = s.size := by unfold bl; rw [Array.length_toList]; rfl
theorem bl_inj {a b : ByteArray} (h : bl a = bl b) : a = b := by
  cases a; cases b
  simp only [bl] at h
  congr 1
  exact Array.toList_inj.1 h
@[simp] theorem bl_append (a b : ByteArray) : bl (a ++ b) = bl a ++ bl b := by simp [bl, ByteArray.data_append]
theorem bl_extract (s : ByteArray) (l h : Nat) : bl (s.extract l h) = ((bl s).take h).drop l := by
  simp [bl, ByteArray.data_extract, List.extract_eq_take_drop, List.drop_take]
theorem bl_mk (l : List UInt8) : bl ⟨l.toArray⟩ = l := by simp [bl]
@[simp] theorem bl_empty : bl ByteArray.empty = [] := rfl
theorem bl_get {s : ByteArray} {i : Nat} (h : i < s.size) : s[i] = (bl s).getD i default := by
  have h2 : i < (bl s).length := by simpa using h
  rw [List.getD_eq_getElem?_getD, List.getElem?_eq_getElem h2]
  simp [bl, ByteArray.getElem_eq_getElem_data]
theorem enc1 {n : Int} (h0 : 0 ≤ n) (h : n < 128) : Utf8.encode n = ⟨#[UInt8.ofNat n.toNat]⟩ := by
  have hv : Utf8.valid n = true := by simp [Utf8.valid]; omega
  unfold Utf8.encode
  simp only [hv, if_true]
  rw [if_pos (by omega)]
def isStr (P : Program) (t : TypeId) : Bool := match P.underlying t with
  | some .string => true
  | _ => false
theorem str_of {P : Program} {t : TypeId} (h : isStr P t = true) : P.underlying t = some .string := by
  unfold isStr at h
  split at h
  · assumption
  · cases h
def RC.idr (R : RC) (G : Gh) (i : Nat) : Option (TypeId × Value × Value) := match (R.ops[i]?).map (fun o : Oper => o.op) with
  | some (.index t x y) => some (t, R.evalAt G i x, R.evalAt G i y)
  | _ => none
def RC.idt (R : RC) (i : Nat) : TypeId := match (R.ops[i]?).map (fun o : Oper => o.op) with
  | some (.index t _ _) => t
  | _ => 0
namespace Hint
variable {P : Program}
/-- a number of another kind -/
def ek {g : Prop} (Γ : GdI g) (k : IntKind) (t n : Int) (h : g → k.wrap t = n) : Hint P := e Γ (.int k (k.wrap t)) (.int k n) fun hg => by rw [h hg]
def andm {g : Prop} (Γ : GdI g) (x m n : Int) (b : Nat) (hb : b ≤ 62) (hm : m = 2 ^ b - 1) (hn : n = x % (2 ^ b : Nat)) : Hint P := bin Γ .and (.int .i64 x) (.int .i64 m) (.int .i64 n) fun _ _ _ => and_run hb hm hn
def andu {g : Prop} (Γ : GdI g) (x m n : Int) (b : Nat) (hb : b ≤ 62) (hm : m = 2 ^ b - 1) (hn : n = x % (2 ^ b : Nat)) : Hint P := bin Γ .and (.int .u64 x) (.int .u64 m) (.int .u64 n) fun _ _ _ => andu_run hb hm hn
def orm {g : Prop} (Γ : GdI g) (z r a n : Int) (b : Nat) (hz : z = r * (2 ^ b : Nat)) (h : g → b ≤ 62 ∧ 0 ≤ r ∧ (0 ≤ a ∧ a < (2 ^ b : Nat)) ∧ n = r * (2 ^ b : Nat) + a ∧ n ≤ 9223372036854775807) : Hint P := bin Γ .or (.int .i64 z) (.int .i64 a) (.int .i64 n) fun hg _ _ => by
  obtain ⟨h1, h2, h3, h4, h5⟩ := h hg
  rw [hz]; exact or_run h1 h2 h3 h4 h5
def oru {g : Prop} (Γ : GdI g) (a z r n : Int) (b : Nat) (hz : z = r * (2 ^ b : Nat)) (h : g → b ≤ 63 ∧ 0 ≤ r ∧ (0 ≤ a ∧ a < (2 ^ b : Nat)) ∧ n = r * (2 ^ b : Nat) + a ∧ n < 18446744073709551616) : Hint P := bin Γ .or (.int .u64 a) (.int .u64 z) (.int .u64 n) fun hg _ _ => by
  obtain ⟨h1, h2, h3, h4, h5⟩ := h hg
  rw [hz]; exact oru_run h1 h2 h3 h4 h5
def shrm {g : Prop} (Γ : GdI g) (k yk : IntKind) (x n : Int) (s : Nat) (hs : s ≤ k.bits) (hn : n = x / (2 ^ s : Nat)) : Hint P := bin Γ .shr (.int k x) (.int yk s) (.int k n) fun _ _ _ => shr_run s hs hn
def shlm {g : Prop} (Γ : GdI g) (k yk : IntKind) (x y n : Int) (s : Nat) (h : g → y = s ∧ s ≤ k.bits ∧ n = k.wrap (x * (2 ^ s : Nat))) : Hint P := bin Γ .shl (.int k x) (.int yk y) (.int k n) fun hg _ _ => by
  obtain ⟨h1, h2, h3⟩ := h hg
  exact shl_run s h1 h2 h3
/-- texts joined -/
def sad {g : Prop} (Γ : GdI g) (a b c : ByteArray) (hc : c = a ++ b) (h : g → (a.size : Int) + b.size ≤ 9223372036854775807) : Hint P := bin Γ .add (.string a) (.string b) (.string c) fun hg _ _ => by
  rw [hc]; exact sadd_run (h hg)
/-- a byte of a text -/
def sid {g : Prop} (Γ : GdI g) (s : ByteArray) (i : Int) (x : UInt8) (hx : x = (bl s).getD i.toNat default) (h : g → 0 ≤ i ∧ i < s.size) : Hint P where
  d := { val := fun _ => .int .u8 x.toNat }
  τ := Option (TypeId × Value × Value) × Value × Option Bool × Bool
  lhs c i' G _ _ := (c.R.idr G i', c.R.val i' (RC.put G i' {}), Γ.B.map fun _ => c.R.gd G i', isStr P (c.R.idt i'))
  rhs c i' _ _ _ := (some (c.R.idt i', .string s, .int .i64 i), .int .u8 x.toNat, Γ.B, true)
  sound c i' _ _ hi h0 := fun o ho G w hs => by
    have h1 := h0 G {} w
    simp only [Prod.mk.injEq] at h1
    obtain ⟨e1, e2, e3, e4⟩ := h1
    refine Cx.still hi rfl (fun _ => ⟨rfl, rfl⟩) ho (x := .int .u8 x.toNat) ?_ e2
    obtain ⟨b0, b1⟩ := h (Cx.gdOk Γ hs e3)
    have hu := str_of e4
    generalize hT : c.R.idt i' = T at *
    unfold RC.idr at e1
    rw [ho] at e1
    obtain ⟨dst, op', type, pos, after, guard⟩ := o
    cases op' <;> simp only [Option.map_some] at e1 <;> first | (simp at e1; done) | skip
    case index t' x' y' =>
      simp only [Option.some.injEq, Prod.mk.injEq] at e1
      obtain ⟨rfl, h1, h2⟩ := e1
      have hr := run_index_string (P := P) w t' s .i64 i hu
      rw [dif_pos ⟨b0, b1⟩, bl_get (show i.toNat < s.size by omega), ← hx] at hr
      simp [execOp, h1, h2, hr]
/-- a part of a text -/
def ssl {g : Prop} (Γ : GdI g) (s : ByteArray) (lo hi : Option Int) (a b : Int) (ha : a = lo.getD 0) (hb : b = hi.getD s.size) (t : ByteArray) (ht : t = s.extract a.toNat b.toNat) (h : g → 0 ≤ a ∧ a ≤ b ∧ b ≤ s.size) : Hint P where
  d := { val := fun _ => .string t }
  τ := Option (TypeId × Value × Option Value × Option Value × Bool) × Value × Option Bool × Bool
  lhs c i' G _ _ := (c.R.slr G i', c.R.val i' (RC.put G i' {}), Γ.B.map fun _ => c.R.gd G i', isStr P (c.R.slt i'))
  rhs c i' _ _ _ := (some (c.R.slt i', .string s, lo.map (.int .i64 ·), hi.map (.int .i64 ·), true), .string t, Γ.B, true)
  sound c i' _ _ hi' h0 := fun o ho G w hs => by
    have h1 := h0 G {} w
    simp only [Prod.mk.injEq] at h1
    obtain ⟨e1, e2, e3, e4⟩ := h1
    refine Cx.still hi' rfl (fun _ => ⟨rfl, rfl⟩) ho (x := .string t) ?_ e2
    obtain ⟨b0, b1, b2⟩ := h (Cx.gdOk Γ hs e3)
    have hu := str_of e4
    generalize hT : c.R.slt i' = T at *
    unfold RC.slr at e1
    rw [ho] at e1
    obtain ⟨dst, op', type, pos, after, guard⟩ := o
    cases op' <;> simp only [Option.map_some] at e1 <;> first | (simp at e1; done) | skip
    case slice t' x lo' hi2 mx =>
      simp only [Option.some.injEq, Prod.mk.injEq] at e1
      obtain ⟨rfl, hx, hl, hh, hm⟩ := e1
      have hmx : mx = none := by simpa using hm
      subst hmx
      have hbd : (Instr.sliceBounds false s.size s.size (lo'.map (c.R.evalAt G i')) (hi2.map (c.R.evalAt G i')) none).run P w = .ok (a.toNat, b.toNat, s.size) w := by
        rw [hl, hh]
        have hlh : a ≤ (b.toNat : Int) := by omega
        have hb0 : 0 ≤ b := by omega
        have hlh2 : a ≤ max b 0 := by omega
        cases lo with
        | none =>
          simp only [Option.getD_none] at ha
          subst ha
          cases hi with
          | none =>
            simp only [Option.getD_none] at hb
            subst hb
            simp [Instr.sliceBounds]
          | some h' =>
            simp only [Option.getD_some] at hb
            subst hb
            simp [Instr.sliceBounds, Instr.sliceBound, asIntOf, b2, hb0]
        | some l' =>
          simp only [Option.getD_some] at ha
          subst ha
          cases hi with
          | none =>
            simp only [Option.getD_none] at hb
            subst hb
            simp [Instr.sliceBounds, Instr.sliceBound, asIntOf, b0, b1]
          | some h' =>
            simp only [Option.getD_some] at hb
            subst hb
            simp [Instr.sliceBounds, Instr.sliceBound, asIntOf, b2, hb0, b0, b1, hlh, hlh2]
      simp [execOp, Instr.sliceAt, underlying, hu, hx, Instr.slice, hbd, ht]
end Hint
end Kb
set_option linter.unusedVariables false
set_option linter.unusedSectionVars false
set_option linter.unusedSimpArgs false
namespace Kb
open Go
section
variable {α : Type} [Dat α]
theorem mid_take (a p b : List α) : ((a ++ p ++ b).take (a.length + p.length)).drop a.length = p := by
  rw [List.take_append_of_le_length (by simp), List.take_of_length_le (by simp)]
  first | rfl | simp
theorem mid_sub {H : Heaplet} {a p b : List α} {s : SV} (h : RSl H (a ++ p ++ b) s.v) : RSl H p (s.sub (Dat.size α) a.length (a.length + p.length)).v := by
  have := h.sub (lo := a.length) (hi := a.length + p.length) (by omega) (by simp)
  rw [mid_take] at this
  exact this
/-- the middle of an entry -/
def kop (t : Bool) (E : TypeId) (r : Nat) (a p b : List α) (m : Nat) (hm : p.length = m) (s : Gh → SV) : Kw α p (fun G => (s G).sub (Dat.size α) a.length (a.length + m)) := ⟨.o r, t, false, fun G e H => OSl E H (a ++ p ++ b) (s G).v e, fun G e H U h k he => by
  subst hm
  exact mid_sub ⟨h.sl.toH.mono he, fun x hx => Dat.mono _ _ x k (h.good x hx)⟩, fun _ _ _ h x hx => h.good x (by simp [hx]), fun h => by cases h⟩
theorem cut3 {l : List α} {lo hi : Nat} (h1 : lo ≤ hi) (h2 : hi ≤ l.length) : l = l.take lo ++ (l.take hi).drop lo ++ l.drop hi := by
  have e : l.take lo = (l.take hi).take lo := by rw [List.take_take, Nat.min_eq_left h1]
  rw [e, List.take_append_drop, List.take_append_drop]
theorem cutlo {l : List α} {lo : Nat} (h : lo ≤ l.length) : lo = (l.take lo).length := by rw [List.length_take]; omega
theorem cuthi {l : List α} {lo hi : Nat} (h1 : lo ≤ hi) (h2 : hi ≤ l.length) : hi = (l.take lo).length + ((l.take hi).drop lo).length := by rw [List.length_drop, List.length_take, List.length_take]; omega
theorem mid_set (a p b : List α) (k : Nat) (x : α) (hk : k < p.length) : (a ++ p ++ b).set (a.length + k) x = a ++ p.set k x ++ b := by
  rw [List.append_assoc, List.set_append_right _ _ (by omega), List.append_assoc]
  congr 1
  rw [show a.length + k - a.length = k by omega, List.set_append_left _ _ hk]
theorem mid_get (a p b : List α) (k : Nat) (hk : k < p.length) : (a ++ p ++ b).getD (a.length + k) default = p.getD k default := by
  simp only [List.getD_eq_getElem?_getD]
  rw [List.append_assoc, List.getElem?_append_right (by omega), show a.length + k - a.length = k by omega, List.getElem?_append_left hk]
theorem mid_addr {E : TypeId} {a p b : List α} {s : SV} {e : Ent} (h : OwnS E (Dat.size α) (rows (a ++ p ++ b)) s.v e) {k : Nat} (hk : k < p.length) :
    elemAddr (s.sub (Dat.size α) a.length (a.length + p.length)).v (k * Dat.size α) = (elemAddr s.v ((a.length + k) * Dat.size α)).add 0 := by
  rcases h.val with ⟨_, h2, _⟩ | ⟨g, cap, cur, e1, _, h2, _⟩
  · exfalso
    have := congrArg List.length h2
    simp at this
    have h3 := this.2.1
    rw [h3] at hk; simp at hk
  · have ha : s.a = some ⟨g, 0, none⟩ := by unfold SV.v at e1; injection e1
    have hc : s.c = cap := by unfold SV.v at e1; injection e1
    have hne : ¬ s.c = a.length := by simp at h2; omega
    unfold SV.sub SV.v
    rw [if_neg hne, ha]
    show ((⟨g, 0, none⟩ : Addr).add _).add _ = ((⟨g, 0, none⟩ : Addr).add _).add _
    have ad : ∀ (o n : Nat), (⟨g, o, none⟩ : Addr).add n = ⟨g, o + n, none⟩ := fun o n => add_eq rfl n
    rw [ad, ad, ad, ad]
    simp only [Addr.mk.injEq, and_true, true_and]
    rw [Nat.add_mul]; omega
end
/-- an entry of plain data -/
theorem V.tro {P : Program} {E : Env P} {S : Stop} {t : St} {α : Type} [Dat α] (T : TypeId) (l : List α) (s : SV) (r : Nat) (hr : t.L[r]? = some (os false T l s)) (hg : ∀ (H : Heaplet) (x : α), Dat.good H x) (k : V E S ⟨t.sl, t.F, t.L.set r (os true T l s)⟩) : V E S t := fun N ε ac w hin => by
  have hlt : r < t.L.length := (List.getElem?_eq_some_iff.1 hr).1
  have hents : ents (t.L.set r (os true T l s)) ε = ents t.L ε := by
    refine List.ext_getElem? fun j => ?_
    rw [ents_get, ents_get, List.getElem?_set]
    by_cases e : r = j
    · subst e; rw [if_pos rfl, if_pos hlt, hr]; rfl
    · rw [if_neg e]
  refine k N ε ac w ⟨hin.slots, by rw [hents]; exact hin.st, hin.new, hin.facts, fun j y hy => ?_⟩
  rw [List.getElem?_set] at hy
  by_cases e : r = j
  · subst e
    rw [if_pos rfl, if_pos hlt] at hy
    cases hy
    have h := hin.own r _ hr
    have h2 : OSl T (hun N E.H) l s.v (ε r) := h
    show OSl T N l s.v (ε r)
    exact h2.any fun x _ => hg _ x
  · rw [if_neg e] at hy
    exact hin.own j y hy
namespace Hint
variable {P : Program}
/-- a part of a slice, its value alone -/
def slv {α : Type} [Dat α] {l : List α} {s : Gh → SV} {g : Prop} (Γ : GdI g) (κ : Kw α l s) (lo hi : Option Int) (a b : Int) (ha : a = lo.getD 0) (hb : b = hi.getD l.length) (h : g → 0 ≤ a ∧ a ≤ b ∧ b ≤ l.length) : Hint P where
  d := { val := fun G => ((s G).sub (Dat.size α) a.toNat b.toNat).v, rds := κ.rdr }
  τ := Option (TypeId × Value × Option Value × Option Value × Bool) × Option Nat × Value × Option Bool × (Option (Bool × (Ent → Heaplet → Prop)) × Bool)
  lhs c i G g _ := (c.R.slr G i, (sliceOf P (c.R.slt i)).bind (sizeT P), c.R.val i (RC.put G i {}), Γ.B.map fun _ => c.R.gd G i, κ.lhs c i G)
  rhs c i G _ _ := (some (c.R.slt i, κ.v G, lo.map (.int .i64 ·), hi.map (.int .i64 ·), true), some (Dat.size α), ((s G).sub (Dat.size α) a.toNat b.toNat).v, Γ.B, κ.rhs G)
  sound c i ok hil hi h0 := fun o ho G w hs => by
    have h1 := h0 G {} w
    simp only [Prod.mk.injEq] at h1
    obtain ⟨e1, e2, e3, e4, e5⟩ := h1
    obtain ⟨b0, b1, b2⟩ := h (Cx.gdOk Γ hs e4)
    simp only [Option.bind_eq_some_iff] at e2
    obtain ⟨E, e2, e6⟩ := e2
    have hr := κ.read ok hil hs e5
    have hrun := slice_does (w := w) ho e1 e2 e6 ha hb hr.isSl b0 b1 b2
    exact still_does hi rfl (fun g => conj_nil hi rfl (fun _ => ⟨rfl, rfl⟩) _) hrun e3
/-- a store into the middle of an entry -/
def sep {α : Type} [Dat α] {g : Prop} (Γ : GdI g) (n r : Nat) (E : TypeId) (t : Bool) (a p b : List α) (m : Nat) (hm : p.length = m) (s : Gh → SV) (k : Int) (x' : α) (p2 : List α) (hp : p2 = p.set k.toNat x') (h : g → 0 ≤ k ∧ k < p.length) (hq : ∀ H, Dat.good H x') : Hint P where
  d := { val := fun _ => undef, news := [(r, fun G => os t E (a ++ p2 ++ b) (s G), fun G => (G n).e)] }
  τ := Option (TypeId × Value × Value) × Option Nat × Option LE × Nat × Bool × List Value × SV × Option Bool
  lhs c i G g _ := (c.R.str G i, sizeT P (c.R.stt i), c.leAt i r G, i, (c.R.stv G i).cells.toList.all cell1, (c.R.stv G i).cells.toList, s (c.R.vis i (RC.put G i g)), Γ.B.map fun _ => c.R.gd G i)
  rhs c i G _ _ := (some (c.R.stt i, .pointer (some (elemAddr ((s G).sub (Dat.size α) a.length (a.length + m)).v (k.toNat * Dat.size α))), c.R.stv G i), some (c.R.stv G i).cells.toList.length, some (os t E (a ++ p ++ b) (s G)), n, true, Dat.cells x', s G, Γ.B)
  sound c i ok hil hi h0 := fun o ho G w hs => by
    subst hm
    have h1 := fun g => h0 G g w
    simp only [Prod.mk.injEq] at h1
    obtain ⟨e1, e2, e4, rfl, e6, e7, _, e11⟩ := h1 {}
    obtain ⟨b0, b1⟩ := h (Cx.gdOk Γ hs e11)
    have hw : c.R.wrE r i = true := by unfold RC.wrE; rw [Cx.upsOf hi]; simp
    obtain ⟨en, a1, a2, a3⟩ := Cx.own_at ok hil hs e4 (by rw [hw]; simp)
    have own : OwnS E (Dat.size α) (rows (a ++ p ++ b)) (s G).v en ∧ ∀ x ∈ a ++ p ++ b, Dat.good (c.J i G t) x := by
      unfold os ow LE.at at a2
      cases t
      · exact ⟨a2.sl, a2.good⟩
      · exact ⟨a2.sl, a2.good⟩
    have hk : k.toNat < p.length := by omega
    have hlen : (c.R.stv G i).cells.toList.length = Dat.size α := by rw [e7]; exact Dat.len _
    obtain ⟨en', w', hr, ho', hg⟩ := storeOwn_does (w := w) (k := a.length + k.toNat) (off := 0) (row := Dat.cells (p.getD k.toNat default)) ho e1 (mid_addr own.1 hk) e2 rfl own.1 a3 (get_map' (by simp; omega) (mid_get a p b _ hk).symm) (by omega) e6
    unfold Does
    rw [hr]
    have hv := Cx.vis_self (c := c) (i := i) (G := G) { e := en' }
    obtain ⟨_, _, _, _, _, _, hsv, _⟩ := h1 { e := en' }
    refine ⟨{ e := en' }, left_turn ok hil hi hs rfl rfl a1 hg ?_ ?_ rfl rfl (by rw [Cx.valOf hi])⟩
    · show (c.R.vis i (RC.put G i { e := en' }) i).e = _
      rw [hv]
    · show bif t then OSl E _ (a ++ p2 ++ b) _ _ else OSl E _ (a ++ p2 ++ b) _ _
      rw [hv, hsv]
      have e8 : a ++ p2 ++ b = (a ++ p ++ b).set (a.length + k.toNat) x' := by rw [hp, mid_set _ _ _ _ _ hk]
      have ho2 : OwnS E (Dat.size α) (rows (a ++ p2 ++ b)) (s G).v en' := by
        have : rows (a ++ p2 ++ b) = (rows (a ++ p ++ b)).set (a.length + k.toNat) (writeL (Dat.cells (p.getD k.toNat default)) 0 (c.R.stv G i).cells.toList) := by
          rw [e8, e7]
          have hwl : writeL (Dat.cells (p.getD k.toNat default)) 0 (Dat.cells x') = Dat.cells x' := by
            unfold writeL
            rw [List.take_zero, List.nil_append, List.drop_of_length_le, List.append_nil]
            have l1 := Dat.len (p.getD k.toNat default)
            have l2 := Dat.len x'
            omega
          rw [hwl]; simp [rows, List.map_set]
        rw [this]; exact ho'
      have fin : ∀ x ∈ a ++ p2 ++ b, Dat.good (c.J i G t) x := fun y hy => by
        rw [e8] at hy
        rcases List.mem_or_eq_of_mem_set hy with hy | hy
        · exact own.2 y hy
        · rw [hy]; exact hq _
      cases t
      · exact ⟨ho2, fin⟩
      · exact ⟨ho2, fin⟩
end Hint
end Kb
set_option linter.unusedVariables false
set_option linter.unusedSectionVars false
set_option linter.unusedSimpArgs false
namespace Kb
open Go
/-- a call that only computes, its run known -/
theorem Cp.of {P : Program} {f : FuncId} {args : Array Value} {F : List FP} {v : Value} (h : ∀ (w : World) (H : Heaplet), Agrees w H → (∀ q ∈ F, q.p H) → Calls P f args w fun e w' => e = .returned v ∧ Base [] w w') : Cp P f args F v := fun w H ε hA hF _ _ =>
  (h w H hA hF).mono fun e w' ⟨he, hb⟩ => ⟨{}, { ret := he, base := hb, agr := agrees_none, new := new_none, facts := (fun f hf => by cases hf), ent := (fun k b o h => by simp [ents] at h), dis := (fun k l b o o' h _ => by simp [ents] at h), own := (fun k x h => by simp at h), pu := trivial }⟩
/-- a slice of plain cells, as another hand says it -/
theorem cells_at {α : Type} [Dat α] {w : World} {H : Heaplet} {l : List α} {s : SV} (hA : Agrees w H) (h : RSl H l s.v) (hs : Dat.size α = 1) {enc : α → Value} (he : ∀ x, Dat.cells x = [enc x]) (hne : l ≠ []) :
    ∃ bk o c, s.v = .slice (some ⟨bk, o, none⟩) l.length c ∧ bk < w.heap.size ∧ l.length ≤ c ∧ ∀ (j : Nat) (x : α), l[j]? = some x → w.cell? ⟨bk, o + j, none⟩ = some (enc x) := by
  obtain ⟨a, c, e, h1, h2, h3, h4⟩ := h.sl.val
  rw [rows_length] at e h1
  have hr : rows l ≠ [] := fun e => hne (by simpa [rows] using e)
  cases a with
  | none => exact absurd (h3 rfl).1 hr
  | some a =>
    obtain ⟨hsp, cs, T, fr, hb, hc⟩ := h4 a rfl hr
    obtain ⟨blk, off, spot⟩ := a
    simp only at hsp
    subst hsp
    have hw := hA _ _ hb
    refine ⟨blk, off, c, e, RC.heap_lt hw, h1, fun j x hj => ?_⟩
    have hf : (rows l).flatten[j]? = some (enc x) := by
      have e1 : rows l = l.map fun x => [enc x] := by unfold rows; exact List.map_congr_left fun x _ => he x
      have e2 : (rows l).flatten = l.map enc := by
        have e3 : ∀ m : List α, (m.map fun x => [enc x]).flatten = m.map enc := fun m => by
          induction m with
          | nil => rfl
          | cons a m ih => rw [List.map_cons, List.flatten_cons, ih]; rfl
        rw [e1]; exact e3 l
      rw [e2, List.getElem?_map, hj]; rfl
    have := hc j _ hf
    simp [World.cell?, hw]
    exact this
end Kb
set_option linter.unusedVariables false
set_option linter.unusedSectionVars false
set_option linter.unusedSimpArgs false
namespace Kb
open Go
section
variable {P : Program} {E : Env P} {S : Stop} {t : St}
/-- a block of the call's own is only read from here on: a slice of one datum -/
theorem V.frzB {α : Type} [Dat α] (r b0 : Nat) (arr : Array Value) (T : TypeId) (x : α) (b : Bool) (j0 : Nat) (f0 : FP) (hr : (t.L[r]?, E.X, arr.toList, t.F[j0]?, f0.t) = (some (.blk b0 arr T), [], Dat.cells x, some f0, b)) (hg : ∀ H, f0.p H → Dat.good H x)
    (k : V E S ⟨t.sl, t.F ++ [fs b [x] ⟨atB b0, 1, 1⟩], t.L.set r .no⟩) : V E S t := fun N ε a w hin => by
  simp only [Prod.mk.injEq] at hr
  obtain ⟨hr, hX, harr, hf0, htf⟩ := hr
  have hfx := hin.facts f0 (List.mem_of_getElem? hf0)
  have hown : ∀ J : Heaplet, Dat.good J x → OSl T J [x] (SV.v ⟨atB b0, 1, 1⟩) (some (b0, .cells arr T)) := fun J hgx => OSl.lit (E := T) (g := b0) (fun y hy => by rw [List.mem_singleton.1 hy]; exact hgx) (by rw [harr]; simp [rows]; decide)
  have he : (ents t.L ε)[r]? = some (some (b0, .cells arr T)) := by rw [ents_get, hr]; rfl
  generalize (some (b0, Obj.cells arr T) : Ent) = ρ at hown he
  have hK : Agrees w (hun N E.H) := hin.st.agr _ (by simp)
  have hE : Agrees w (entH ρ) := entH_agrees fun b o hb => (hin.st.ent r b o (by rw [he, hb])).1
  have s1 : Sub N (hun (entH ρ) N) := hun_right' (U := whole w) hE (hun_left.trans hK)
  have eK : hun (hun (entH ρ) N) E.H = hun (entH ρ) (hun N E.H) := hun_assoc _ _ _
  have s2 : Sub (hun N E.H) (hun (hun (entH ρ) N) E.H) := by rw [eK]; exact hun_right' (U := whole w) hE hK
  have hents : ∀ (j b : Nat) (o : Obj), (ents (t.L.set r .no) ε)[j]? = some (some (b, o)) → j ≠ r ∧ (ents t.L ε)[j]? = some (some (b, o)) := fun j b o h => by
    rw [ents_get, Option.map_eq_some_iff] at h
    obtain ⟨y, hy, he⟩ := h
    rcases set_get hy with ⟨rfl, rfl⟩ | ⟨hj, hy⟩
    · cases he
    · exact ⟨hj, by rw [ents_get, hy, ← he]; rfl⟩
  refine k (hun (entH ρ) N) ε a w ⟨hin.slots, ⟨hin.st.base, fun K hk => ?_, fun j b o h => ?_, fun j j' b o o' h h' => hin.st.dis j j' b o o' (hents _ _ _ h).2 (hents _ _ _ h').2⟩, fun b hb => ?_, fun f hf => ?_, fun j y hy => ?_⟩
  · have : K = hun (hun (entH ρ) N) E.H := by simpa using hk
    subst this
    rw [eK]; exact hun_agrees hE hK
  · obtain ⟨hj, h⟩ := hents j b o h
    obtain ⟨h1, h2, h3⟩ := hin.st.ent j b o h
    refine ⟨h1, h2, fun K hk => ?_⟩
    have : K = hun (hun (entH ρ) N) E.H := by simpa using hk
    subst this
    rw [eK]
    have hn : entH ρ b = none := by
      cases hh : entH ρ b with
      | none => rfl
      | some o' =>
        exfalso
        unfold entH at hh
        cases hp : ρ with
        | none => rw [hp] at hh; cases hh
        | some p =>
          rw [hp] at hh
          simp only at hh
          split at hh
          · rename_i hb; subst hb
            exact hj (hin.st.dis j r p.1 o p.2 h (by rw [he, hp]))
          · cases hh
    simp only [hun, hn]
    exact h3 (hun N E.H) (by simp)
  · cases hh : entH ρ b with
    | none =>
      simp only [hun, hh] at hb
      exact hin.new b hb
    | some o' =>
      unfold entH at hh
      cases hp : ρ with
      | none => rw [hp] at hh; cases hh
      | some p =>
        rw [hp] at hh
        simp only at hh
        split at hh
        · rename_i hb'; subst hb'
          rcases (hin.st.ent r p.1 p.2 (by rw [he, hp])).2.1 with h1 | h1
          · exact h1
          · rw [hX] at h1; cases h1
        · cases hh
  · rcases List.mem_append.1 hf with hf | hf
    · exact FP.mono (hin.facts f hf) s1 s2
    · have : f = fs b [x] ⟨atB b0, 1, 1⟩ := by simpa using hf
      subst this
      have key : ∀ J J' : Heaplet, Sub J J' → Sub (entH ρ) J' → Dat.good J x → RSl J' [x] (SV.v ⟨atB b0, 1, 1⟩) := fun J J' h1 h2 h => (hown J h).frozen h1 h2
      unfold FP.at at hfx
      rw [htf] at hfx
      show bif b then RSl _ [x] _ else RSl _ [x] _
      cases b
      · exact key _ _ s2 (by rw [eK]; exact hun_left) (hg _ hfx)
      · exact key _ _ s1 hun_left (hg _ hfx)
  · rcases set_get hy with ⟨rfl, rfl⟩ | ⟨hj, hy⟩
    · trivial
    · exact LE.mono (hin.own j y hy) s1 s2
end
theorem eb_eq {a b : Int} (h : a = b) : Value.bool (decide (a = b)) = .bool true := by rw [decide_eq_true h]
theorem eb_ne {a b : Int} (h : a = b) : Value.bool (!decide (a = b)) = .bool false := by rw [decide_eq_true h]; rfl
/-- known of new memory alone -/
def FP.up (f : FP) : FP := ⟨true, f.p, f.m, f.q, f.hq⟩
def sideT (qs : List Kv) : Bool := qs.all fun q => q.κ.f && q.κ.t
namespace Hint
variable {P : Program}
/-- a call that is given nothing but what lies in new memory: so do its results -/
def ctT {g : Prop} (Γ : GdI g) (n f : Nat) (qs : List Kv) {args : Gh → Array Value} {V : Gh → Rec → Value} {F' : Gh → Rec → List FP} {pu : Gh → Rec → List Prop}
    (ct : g → ∀ G, Ct P f (args G) (qs.map (Kv.fp G)) [] (V G) (F' G) (fun _ => []) (pu G)) : Hint P where
  d := { val := fun G => V G (G n), facts := fun G => (F' G (G n)).map FP.up, rds := qrds qs, pu := fun G => pu G (G n) }
  τ := Option (Result Next) × Nat × Value × List FP × List Prop × List (Option (Bool × (Ent → Heaplet → Prop)) × Bool) × Bool × Option Bool
  lhs c i G g w := (c.R.ex P G i w, i, V (c.R.vis i (RC.put G i g)) g, F' (c.R.vis i (RC.put G i g)) g, pu (c.R.vis i (RC.put G i g)) g, qs.map (Kv.chk c i G), sideT qs, Γ.B.map fun _ => c.R.gd G i)
  rhs _ _ G g w := (some (.ok (.enter f (args G)) w), n, V G g, F' G g, pu G g, qs.map (Kv.want G), true, Γ.B)
  sound c i ok hil hi h := fun o ho G w hs => by
    have h0 := h G {} w
    simp only [Prod.mk.injEq, RC.ex, ho, Option.map_some, Option.some.injEq] at h0
    obtain ⟨e1, rfl, _, _, _, e8, e9, e10⟩ := h0
    have hct := ct (Cx.gdOk Γ hs e10) G
    have hup : c.R.ups i = [] := by rw [Cx.upsOf hi]; rfl
    have hfacts : ∀ q ∈ qs.map (Kv.fp G), q.p (c.J i G true) := fun p hp => by
      obtain ⟨q, hq, rfl⟩ := List.mem_map.1 hp
      have hm : q.κ.src.what c i G = (some (q.κ.t, q.κ.p G), true) := map_eq e8 q hq
      obtain ⟨e, a1, _, _, _⟩ := Src.get ok hil hs hm
      have h2 := List.all_eq_true.1 e9 q hq
      rw [Bool.and_eq_true] at h2
      rw [h2.2] at a1
      exact q.κ.rj h2.1 G e _ a1
    have hst : StW w (blks (ents [] fun _ => none)) [c.J i G true] (ents [] fun _ => none) w := by
      refine ⟨Base.refl _ _, fun K hK => ?_, fun k b o hk => by simp [ents] at hk, fun k l b o o' hk _ => by simp [ents] at hk⟩
      have : K = c.J i G true := by simpa using hK
      subst this; exact Cx.J_le hs true
    have hcall := hct w (c.J i G true) (fun _ => none) (Cx.J_le hs true) hfacts hst (fun k x hx => by simp at hx)
    unfold Does
    rw [e1]
    refine hcall.mono ?_
    rintro e w' ⟨g, C⟩
    refine ⟨_, C.ret, g, ?_⟩
    have hg := h G g w
    simp only [Prod.mk.injEq] at hg
    obtain ⟨_, _, f1, f2, f4, _⟩ := hg
    have hv := Cx.vis_self (c := c) (i := i) (G := G) g
    obtain ⟨a1, a2, a3, a4⟩ := ahead ok hil hs C.new
    refine ⟨?_, fact_of ok hil hi hs C.new (fun f hf => ?_) (fun q hq => by cases hq) ?_, ?_, C.agr, C.new, fun p hp => ?_, fun p hp => ?_⟩
    · rw [Cx.valOf hi]
      show _ = V _ (c.R.vis i (RC.put G i g) i)
      rw [hv, f1]
    · have hf' : f ∈ (F' (c.R.vis i (RC.put G i g)) (c.R.vis i (RC.put G i g) i)).map FP.up := hf
      rw [hv, f2] at hf'
      obtain ⟨f0, hf0, rfl⟩ := List.mem_map.1 hf'
      have hc := C.facts f0 hf0
      show f0.p _
      unfold FP.at at hc
      cases ht : f0.t with
      | true => rw [ht] at hc; exact f0.m _ _ a3 hc
      | false => rw [ht] at hc; exact f0.m _ _ (hun_sub a3 a1) hc
    · show conjL (pu _ (c.R.vis i (RC.put G i g) i))
      rw [hv, f4]; exact C.pu
    · refine ⟨C.base.os, C.base.tape, C.base.output, C.base.size, fun b hb hnb => C.base.keep b hb fun hm => ?_⟩
      simp [ents, blks] at hm
    · rw [hup] at hp; cases hp
    · rw [hup] at hp; cases hp
/-- an operation that is never run -/
def dead : Hint P where
  d := { val := fun _ => undef }
  τ := Bool
  lhs c i G _ _ := c.R.gd G i
  rhs _ _ _ _ _ := false
  sound c i _ _ hi h := fun o ho G w hs => by
    have h0 := h G {} w
    rw [hs.gd] at h0; cases h0
/-- it computes x, which is a Boolean that is known -/
def eb (x : Value) (b : Bool) (hxy : x = .bool b) : Hint P where
  d := { val := fun _ => .bool b, sure := some b, sok := fun b' h _ => by cases h; rfl }
  τ := Option (Result Next) × Value
  lhs c i G _ w := (c.R.ex P G i w, c.R.val i (RC.put G i {}))
  rhs _ _ _ _ w := (some (.ok (.value x) w), .bool b)
  sound c i _ _ hi h := fun o ho G w hs => by
    have h0 := h G {} w
    simp only [Prod.mk.injEq, RC.ex, ho, Option.map_some, Option.some.injEq] at h0
    exact Cx.still hi rfl (fun _ => ⟨rfl, rfl⟩) ho h0.1 (by rw [h0.2, hxy])
end Hint
end Kb
set_option linter.unusedVariables false
set_option linter.unusedSectionVars false
set_option linter.unusedSimpArgs false
namespace Kb
open Go Go.Proofs
set_option maxRecDepth 10000 in
theorem nan_ct (x : Int) :
    Cp Try.prog 110 #[iv x] [] (bv false) := by
  refine V.fn mo Try.func110 6 0 (by kernel_rfl) fun w H ε k0 => ?_
  clear k0
  refine V.go [.kb false] (fun _ _ => by kernel_rfl) fun _ _ G1 => ?_
  intro S1 t1
  refine V.go [.k (iv x),
    .k (iv x),
    .k (bv (!(decide (x = x)))),
    .k (bv (!(decide (x = x))))] (fun _ _ => by kernel_rfl) fun _ _ G2 => ?_
  intro S2 t2
  have e0 : (!(decide (x = x))) = false := by
    simp
  exact V.ret [0] [] [] [] [] [] (bv (!(decide (x = x)))) (fun _ _ => by kernel_rfl) (fun _ _ => (Eq.trans (by kernel_rfl) (cong1 (fun (x0 : Bool) => (bv x0 : Value)) e0)).trans (by kernel_rfl)) (fun _ _ => trivial)

set_option maxRecDepth 10000 in
theorem cmp_ct (x y : Int) :
    Cp Try.prog 101 #[iv x, iv y] [] (iv (Bg.cmpI x y)) := by
  refine V.fn mo Try.func101 20 0 (by kernel_rfl) fun w H ε k0 => ?_
  clear k0
  refine V.go [.k (iv 0)] (fun _ _ => by kernel_rfl) fun _ _ G1 => ?_
  intro S1 t1
  refine V.go [.k (iv x),
    .cp g0 1 110 [] (fun _ G => nan_ct x),
    .kb false] (fun _ _ => by kernel_rfl) fun _ _ G2 => ?_
  intro S2 t2
  refine V.go [.k (iv y),
    .cp g0 1 110 [] (fun _ G => nan_ct y),
    .kb false] (fun _ _ => by kernel_rfl) fun _ _ G3 => ?_
  intro S3 t3
  refine V.go [.kb false] (fun _ _ => by kernel_rfl) fun _ _ G4 => ?_
  intro S4 t4
  refine V.condF (by kernel_rfl) ?_
  refine V.go [.kb false] (fun _ _ => by kernel_rfl) fun _ _ G5 => ?_
  intro S5 t5
  refine V.condF (by kernel_rfl) ?_
  refine V.go [.k (iv x),
    .k (iv y),
    .k (bv (decide (x < y)))] (fun _ _ => by kernel_rfl) fun _ _ G6 => ?_
  intro S6 t6
  refine V.cond (b := decide (x < y)) iDT iDF (by kernel_rfl) (fun q1 => ?_) (fun q2 => ?_)
  · skip
    refine V.go [.k (iv (-1))] (fun _ _ => by kernel_rfl) fun _ _ G7 => ?_
    intro S7 t7
    have e0 : (-1 : Int) = Bg.cmpI x y := by
      unfold Bg.cmpI; first | rw [if_pos (by omega)] | (rw [if_neg (by omega)]; first | rw [if_pos (by omega)] | rw [if_neg (by omega)])
    exact V.ret [0] [] [] [] [] [] (iv (-1)) (fun _ _ => by kernel_rfl) (fun _ _ => (Eq.trans (by kernel_rfl) (cong1 (fun (x0 : Int) => (iv x0 : Value)) e0)).trans (by kernel_rfl)) (fun _ _ => trivial)
  · skip
    refine V.go [.k (iv x),
      .k (iv y),
      .k (bv (decide (y < x)))] (fun _ _ => by kernel_rfl) fun _ _ G8 => ?_
    intro S8 t8
    refine V.cond (b := decide (y < x)) iDT iDF (by kernel_rfl) (fun q3 => ?_) (fun q4 => ?_)
    · skip
      refine V.go [.k (iv 1)] (fun _ _ => by kernel_rfl) fun _ _ G9 => ?_
      intro S9 t9
      have e0 : (1 : Int) = Bg.cmpI x y := by
        unfold Bg.cmpI; first | rw [if_pos (by omega)] | (rw [if_neg (by omega)]; first | rw [if_pos (by omega)] | rw [if_neg (by omega)])
      exact V.ret [0] [] [] [] [] [] (iv 1) (fun _ _ => by kernel_rfl) (fun _ _ => (Eq.trans (by kernel_rfl) (cong1 (fun (x0 : Int) => (iv x0 : Value)) e0)).trans (by kernel_rfl)) (fun _ _ => trivial)
    · skip
      refine V.go [.k (iv 0)] (fun _ _ => by kernel_rfl) fun _ _ G10 => ?_
      intro S10 t10
      have e0 : (0 : Int) = Bg.cmpI x y := by
        unfold Bg.cmpI; first | rw [if_pos (by omega)] | (rw [if_neg (by omega)]; first | rw [if_pos (by omega)] | rw [if_neg (by omega)])
      exact V.ret [0] [] [] [] [] [] (iv 0) (fun _ _ => by kernel_rfl) (fun _ _ => (Eq.trans (by kernel_rfl) (cong1 (fun (x0 : Int) => (iv x0 : Value)) e0)).trans (by kernel_rfl)) (fun _ _ => trivial)
theorem cmp_ctv (x y : Int) (rv0 : Int) (erv0 : rv0 = Bg.cmpI x y) :
    Cp Try.prog 101 #[iv x, iv y] [] (iv rv0) := by
  subst erv0; exact cmp_ct x y 

set_option maxRecDepth 10000 in
theorem or_ct (vals : List Int) (valss : SV) :
    Cp Try.prog 82 #[valss.v] [fs true vals valss] (iv (Bg.orL vals)) := by
  refine V.fn mo Try.func82 18 0 (by kernel_rfl) fun w H ε k0 => ?_
  obtain ⟨⟨kl1, -⟩, -⟩ : Lq vals valss.v ∧ True := kn k0 (by kernel_rfl)
  clear k0
  refine V.go [.k (iv 0)] (fun _ _ => by kernel_rfl) fun _ _ G1 => ?_
  intro S1 t1
  refine V.go [.k (iv 0)] (fun _ _ => by kernel_rfl) fun _ _ G2 => ?_
  intro S2 t2
  refine V.go [.k (valss.v),
    .ln (kf false (.f 0) vals (fun _ => valss)),
    .k (iv 0)] (fun _ _ => by kernel_rfl) fun _ _ G3 => ?_
  intro S3 t3
  refine V.loop (γ := Int) (fun k0 => ⟨[(3, iv 0), (6, valss.v), (7, iv (vals.length : Int)), (8, iv k0)], [fs false vals valss], []⟩) (fun k0 => (0 ≤ k0) ∧ (k0 ≤ (vals.length : Int)) ∧ (∀ i, i < k0.toNat → vals.getD i default = 0)) (fun k0 => ((vals.length : Int) - k0).toNat) 0 (by kernel_rfl) [0] (by kernel_rfl) ?_ ?_
  · skip
    refine ⟨?_, ?_, ?_⟩
    · show 0 ≤ (0 : Int)
      first | omega | rfl | (simp; done) | (subst_vars; simp; done)
    · show (0 : Int) ≤ (vals.length : Int)
      first | omega | rfl | (simp; done) | (subst_vars; simp; done)
    · show ∀ i, i < (0 : Int).toNat → vals.getD i default = 0
      intro i hi; simp at hi
  · rintro k0 hF1 kw4 Z1 hZ1
    have hF1 : (0 ≤ k0) ∧ (k0 ≤ (vals.length : Int)) ∧ (∀ i, i < k0.toNat → vals.getD i default = 0) := hF1
    obtain ⟨hf1, hf2, hf3⟩ := hF1
    clear kw4
    refine V.go [.k (bv (decide (k0 < (vals.length : Int))))] (fun _ _ => by kernel_rfl) fun _ _ G4 => ?_
    intro S4 t4
    refine V.cond (b := decide (k0 < (vals.length : Int))) iDT iDF (by kernel_rfl) (fun q1 => ?_) (fun q2 => ?_)
    · skip
      refine nm (vals.getD k0.toNat default : Int) fun v1 hv1 => ?_
      refine V.go [.ix g0 (kf false (.f 0) vals (fun _ => valss)) k0 (fun _ => ⟨by omega, by omega⟩),
        .le g0 (kf false (.f 0) vals (fun _ => valss)) k0 none false v1 hv1 (fun _ => ⟨by omega, by omega⟩) false (fun _ => [iv v1]),
        .k (iv v1)] (fun _ _ => by kernel_rfl) fun _ _ G5 => ?_
      intro S5 t5
      refine V.go [.k (iv v1),
        .k (iv 0),
        .k (bv (!(decide (v1 = 0))))] (fun _ _ => by kernel_rfl) fun _ _ G6 => ?_
      intro S6 t6
      refine V.cond (b := !(decide (v1 = 0))) (iNT iDF) (iNF iDT) (by kernel_rfl) (fun q3 => ?_) (fun q4 => ?_)
      · skip
        refine V.go [.k (iv v1),
          .k (iv v1)] (fun _ _ => by kernel_rfl) fun _ _ G7 => ?_
        intro S7 t7
        have e0 : v1 = Bg.orL vals := by
          exact Bg.orL_at (k := k0.toNat) (by omega) hf3 hv1 q3
        exact V.ret [0] [] [] [] [] [] (iv v1) (fun _ _ => by kernel_rfl) (fun _ _ => (Eq.trans (by kernel_rfl) (cong1 (fun (x0 : Int) => (iv x0 : Value)) e0)).trans (by kernel_rfl)) (fun _ _ => trivial)
      · skip
        refine V.go [.a (k0 + 1) (by omega) (by omega),
          .k (iv (k0 + 1))] (fun _ _ => by kernel_rfl) fun _ _ G8 => ?_
        intro S8 t8
        refine V.rnd hZ1 (k0 + 1) [0] (by kernel_rfl) ?_ ?_
        · skip
          refine ⟨?_, ?_, ?_⟩
          · show 0 ≤ (k0 + 1)
            first | omega | rfl | (simp; done) | (subst_vars; simp; done)
          · show (k0 + 1) ≤ (vals.length : Int)
            first | omega | rfl | (simp; done) | (subst_vars; simp; done)
          · show ∀ i, i < (k0 + 1).toNat → vals.getD i default = 0
            intro i hi; by_cases e : i < k0.toNat
            · exact hf3 i e
            · rw [show i = k0.toNat by omega, ← hv1]; exact q4
        · show ((vals.length : Int) - (k0 + 1)).toNat < ((vals.length : Int) - k0).toNat
          omega
    · skip
      refine V.go [.k (iv 0),
        .k (iv 0)] (fun _ _ => by kernel_rfl) fun _ _ G9 => ?_
      intro S9 t9
      have e0 : (0 : Int) = Bg.orL vals := by
        exact (Bg.orL_no fun i hi => hf3 i (by omega)).symm
      exact V.ret [0] [] [] [] [] [] (iv 0) (fun _ _ => by kernel_rfl) (fun _ _ => (Eq.trans (by kernel_rfl) (cong1 (fun (x0 : Int) => (iv x0 : Value)) e0)).trans (by kernel_rfl)) (fun _ _ => trivial)
theorem or_ctv (vals : List Int) (valss : SV) (rv0 : Int) (erv0 : rv0 = Bg.orL vals) :
    Cp Try.prog 82 #[valss.v] [fs true vals valss] (iv rv0) := by
  subst erv0; exact or_ct vals valss 

set_option maxRecDepth 10000 in
theorem clonei_ct (s : List Int) (ss : SV) (hcl : s.length ≤ 1099511627776) :
    Ct Try.prog 63 #[ss.v] [fs true s ss] [] (fun g => ((g.ss 0)).v) (fun g => []) (fun g => [os true 3 s (g.ss 0)]) (fun g => []) := by
  refine V.fn mo Try.func63 8 2 (by kernel_rfl) fun w H ε k0 => ?_
  obtain ⟨⟨kl1, kn1⟩, -⟩ : Lq s ss.v ∧ True := kn k0 (by kernel_rfl)
  clear k0
  refine V.go [.k (.slice none 0 0)] (fun _ _ => by kernel_rfl) fun _ _ G1 => ?_
  intro S1 t1
  refine V.go [.k (ss.v),
    .isn false (fun _ => ss)] (fun _ _ => by kernel_rfl) fun _ _ G2 => ?_
  intro S2 t2
  refine V.cond (b := ss.a.isNone) Iff.rfl Iff.rfl (by kernel_rfl) (fun q1 => ?_) (fun q2 => ?_)
  · skip
    refine V.go [.k (.slice none 0 0)] (fun _ _ => by kernel_rfl) fun _ _ G3 => ?_
    intro S3 t3
    refine V.on (α := Int) 0 3 (by kernel_rfl) ?_
    have e0 : ([] : List Int) = s := by
      exact (kn1 _ rfl q1).symm
    rw [← e0]
    exact V.ret [0] [{}] [fun _ => {}] [] [] [0] (SV.v ({})) (fun _ _ => by kernel_rfl) (fun _ _ => by kernel_rfl) (fun _ _ => trivial)
  · skip
    refine nm (([] : List Int) ++ s : List Int) fun l1 hl1 => ?_
    have hl1n := congrArg List.length hl1; try simp only [List.length_append, List.length_cons, List.length_nil, List.length_replicate, List.length_set, List.length_take, List.length_drop, List.length_map, List.length_reverse, List.length_range] at hl1n
    refine V.go [.nl 0 1 true 3 ([] : List Int) [] (fun _ _ _ _ _ => trivial) (fun _ => #[]),
      .k (ss.v),
      .ap 2 1 3 8 false true ([] : List Int) (fun G => ⟨atB (G 0).b, 0, 0⟩) (kf false (.f 0) s (fun _ => ss)) true l1 hl1 (by (try simp only [List.length_append, List.length_cons, List.length_nil, List.length_replicate, List.length_set, List.length_take, List.length_drop, List.length_map, List.length_reverse, List.length_range]); omega) (fun h => by cases h) (.inr fun _ _ => trivial),
      .v fun G => ((G 2).s).v] (fun _ _ => by kernel_rfl) fun _ _ G4 => ?_
    intro S4 t4
    have e0 : l1 = s := by
      rw [hl1]; simp
    subst e0
    exact V.ret [0] [(G4 2).s] [fun _ => {}] [] [] [1] (((G4 2).s).v) (fun _ _ => by kernel_rfl) (fun _ _ => by kernel_rfl) (fun _ _ => trivial)

set_option maxRecDepth 10000 in
theorem clonef_ct (s : List Int) (ss : SV) (hcl : s.length ≤ 1099511627776) :
    Ct Try.prog 63 #[ss.v] [fs true s ss] [] (fun g => ((g.ss 0)).v) (fun g => [fs true s (g.ss 0)]) (fun g => []) (fun g => []) := by
  refine V.fn mo Try.func63 8 1 (by kernel_rfl) fun w H ε k0 => ?_
  obtain ⟨⟨kl1, kn1⟩, -⟩ : Lq s ss.v ∧ True := kn k0 (by kernel_rfl)
  clear k0
  refine V.go [.k (.slice none 0 0)] (fun _ _ => by kernel_rfl) fun _ _ G1 => ?_
  intro S1 t1
  refine V.go [.k (ss.v),
    .isn false (fun _ => ss)] (fun _ _ => by kernel_rfl) fun _ _ G2 => ?_
  intro S2 t2
  refine V.cond (b := ss.a.isNone) Iff.rfl Iff.rfl (by kernel_rfl) (fun q1 => ?_) (fun q2 => ?_)
  · skip
    refine V.go [.k (.slice none 0 0)] (fun _ _ => by kernel_rfl) fun _ _ G3 => ?_
    intro S3 t3
    refine V.nilF (α := Int) ?_
    have e0 : ([] : List Int) = s := by
      exact (kn1 _ rfl q1).symm
    rw [← e0]
    exact V.ret [0] [{}] [fun _ => {}] [] [1] [] (SV.v ({})) (fun _ _ => by kernel_rfl) (fun _ _ => by kernel_rfl) (fun _ _ => trivial)
  · skip
    refine nm (([] : List Int) ++ s : List Int) fun l1 hl1 => ?_
    have hl1n := congrArg List.length hl1; try simp only [List.length_append, List.length_cons, List.length_nil, List.length_replicate, List.length_set, List.length_take, List.length_drop, List.length_map, List.length_reverse, List.length_range] at hl1n
    refine V.go [.nl 0 0 true 3 ([] : List Int) [] (fun _ _ _ _ _ => trivial) (fun _ => #[]),
      .k (ss.v),
      .ap 2 0 3 8 false true ([] : List Int) (fun G => ⟨atB (G 0).b, 0, 0⟩) (kf false (.f 0) s (fun _ => ss)) true l1 hl1 (by (try simp only [List.length_append, List.length_cons, List.length_nil, List.length_replicate, List.length_set, List.length_take, List.length_drop, List.length_map, List.length_reverse, List.length_range]); omega) (fun h => by cases h) (.inr fun _ _ => trivial),
      .v fun G => ((G 2).s).v] (fun _ _ => by kernel_rfl) fun _ _ G4 => ?_
    intro S4 t4
    refine V.frz 0 true 3 l1 ((G4 2).s) (by kernel_rfl) ?_
    have e0 : l1 = s := by
      rw [hl1]; simp
    subst e0
    exact V.ret [0] [(G4 2).s] [fun _ => {}] [] [1] [] (((G4 2).s).v) (fun _ _ => by kernel_rfl) (fun _ _ => by kernel_rfl) (fun _ _ => trivial)

set_option maxRecDepth 10000 in
theorem equali_ct (s1 : List Int) (s1s : SV) (s2 : List Int) (s2s : SV) :
    Cp Try.prog 89 #[s1s.v, s2s.v] [fs true s1 s1s, fs true s2 s2s] (bv (decide (s1 = s2))) := by
  refine V.fn mo Try.func89 26 0 (by kernel_rfl) fun w H ε k0 => ?_
  obtain ⟨⟨kl1, -⟩, ⟨kl2, -⟩, -⟩ : Lq s1 s1s.v ∧ Lq s2 s2s.v ∧ True := kn k0 (by kernel_rfl)
  clear k0
  refine V.go [.kb false] (fun _ _ => by kernel_rfl) fun _ _ G1 => ?_
  intro S1 t1
  refine V.go [.k (s1s.v),
    .ln (kf false (.f 0) s1 (fun _ => s1s)),
    .k (s2s.v),
    .ln (kf false (.f 1) s2 (fun _ => s2s)),
    .k (bv (!(decide ((s1.length : Int) = (s2.length : Int)))))] (fun _ _ => by kernel_rfl) fun _ _ G2 => ?_
  intro S2 t2
  refine V.cond (b := !(decide ((s1.length : Int) = (s2.length : Int)))) (iNT iDF) (iNF iDT) (by kernel_rfl) (fun q1 => ?_) (fun q2 => ?_)
  · skip
    refine V.go [.kb false] (fun _ _ => by kernel_rfl) fun _ _ G3 => ?_
    intro S3 t3
    have e0 : false = decide (s1 = s2) := by
      symm; rw [decide_eq_false_iff_not]; intro h; apply q1; rw [h]
    exact V.ret [0] [] [] [] [] [] (bv false) (fun _ _ => by kernel_rfl) (fun _ _ => (Eq.trans (by kernel_rfl) (cong1 (fun (x0 : Bool) => (bv x0 : Value)) e0)).trans (by kernel_rfl)) (fun _ _ => trivial)
  · skip
    refine V.go [.k (s1s.v),
      .ln (kf false (.f 0) s1 (fun _ => s1s)),
      .k (iv 0)] (fun _ _ => by kernel_rfl) fun _ _ G4 => ?_
    intro S4 t4
    refine V.loop (γ := Int) (fun k0 => ⟨[(0, s1s.v), (1, s2s.v), (12, iv (s1.length : Int)), (13, iv k0)], [fs false s1 s1s, fs false s2 s2s], []⟩) (fun k0 => (0 ≤ k0) ∧ (k0 ≤ (s1.length : Int)) ∧ (∀ i, i < k0.toNat → s1.getD i default = s2.getD i default)) (fun k0 => ((s1.length : Int) - k0).toNat) 0 (by kernel_rfl) [0, 1] (by kernel_rfl) ?_ ?_
    · skip
      refine ⟨?_, ?_, ?_⟩
      · show 0 ≤ (0 : Int)
        first | omega | rfl | (simp; done) | (subst_vars; simp; done)
      · show (0 : Int) ≤ (s1.length : Int)
        first | omega | rfl | (simp; done) | (subst_vars; simp; done)
      · show ∀ i, i < (0 : Int).toNat → s1.getD i default = s2.getD i default
        intro i hi; simp at hi
    · rintro k0 hF1 kw5 Z1 hZ1
      have hF1 : (0 ≤ k0) ∧ (k0 ≤ (s1.length : Int)) ∧ (∀ i, i < k0.toNat → s1.getD i default = s2.getD i default) := hF1
      obtain ⟨hf1, hf2, hf3⟩ := hF1
      clear kw5
      refine V.go [.k (bv (decide (k0 < (s1.length : Int))))] (fun _ _ => by kernel_rfl) fun _ _ G5 => ?_
      intro S5 t5
      refine V.cond (b := decide (k0 < (s1.length : Int))) iDT iDF (by kernel_rfl) (fun q3 => ?_) (fun q4 => ?_)
      · skip
        refine V.go [.k (iv k0),
          .k (iv k0)] (fun _ _ => by kernel_rfl) fun _ _ G6 => ?_
        intro S6 t6
        refine nm (s1.getD k0.toNat default : Int) fun v1 hv1 => ?_
        refine nm (s2.getD k0.toNat default : Int) fun v2 hv2 => ?_
        refine V.go [.k (s1s.v),
          .k (iv k0),
          .ix g0 (kf false (.f 0) s1 (fun _ => s1s)) k0 (fun _ => ⟨by omega, by omega⟩),
          .le g0 (kf false (.f 0) s1 (fun _ => s1s)) k0 none false v1 hv1 (fun _ => ⟨by omega, by omega⟩) false (fun _ => [iv v1]),
          .k (s2s.v),
          .k (iv k0),
          .ix g0 (kf false (.f 1) s2 (fun _ => s2s)) k0 (fun _ => ⟨by omega, by omega⟩),
          .le g0 (kf false (.f 1) s2 (fun _ => s2s)) k0 none false v2 hv2 (fun _ => ⟨by omega, by omega⟩) false (fun _ => [iv v2]),
          .k (bv (!(decide (v1 = v2))))] (fun _ _ => by kernel_rfl) fun _ _ G7 => ?_
        intro S7 t7
        refine V.cond (b := !(decide (v1 = v2))) (iNT iDF) (iNF iDT) (by kernel_rfl) (fun q5 => ?_) (fun q6 => ?_)
        · skip
          refine V.go [.kb false] (fun _ _ => by kernel_rfl) fun _ _ G8 => ?_
          intro S8 t8
          have e0 : false = decide (s1 = s2) := by
            symm; rw [decide_eq_false_iff_not]; intro h; apply q5
            rw [hv1, hv2, h]
          exact V.ret [0] [] [] [] [] [] (bv false) (fun _ _ => by kernel_rfl) (fun _ _ => (Eq.trans (by kernel_rfl) (cong1 (fun (x0 : Bool) => (bv x0 : Value)) e0)).trans (by kernel_rfl)) (fun _ _ => trivial)
        · skip
          refine V.go [.a (k0 + 1) (by omega) (by omega),
            .k (iv (k0 + 1))] (fun _ _ => by kernel_rfl) fun _ _ G9 => ?_
          intro S9 t9
          refine V.rnd hZ1 (k0 + 1) [0, 1] (by kernel_rfl) ?_ ?_
          · skip
            refine ⟨?_, ?_, ?_⟩
            · show 0 ≤ (k0 + 1)
              first | omega | rfl | (simp; done) | (subst_vars; simp; done)
            · show (k0 + 1) ≤ (s1.length : Int)
              first | omega | rfl | (simp; done) | (subst_vars; simp; done)
            · show ∀ i, i < (k0 + 1).toNat → s1.getD i default = s2.getD i default
              intro i hi; by_cases e : i < k0.toNat
              · exact hf3 i e
              · rw [show i = k0.toNat by omega, ← hv1, ← hv2]; exact q6
          · show ((s1.length : Int) - (k0 + 1)).toNat < ((s1.length : Int) - k0).toNat
            omega
      · skip
        refine V.go [.kb true] (fun _ _ => by kernel_rfl) fun _ _ G10 => ?_
        intro S10 t10
        have e0 : true = decide (s1 = s2) := by
          symm; rw [decide_eq_true_iff]; exact Bg.eq_of_getD (by omega) fun i hi => hf3 i (by omega)
        exact V.ret [0] [] [] [] [] [] (bv true) (fun _ _ => by kernel_rfl) (fun _ _ => (Eq.trans (by kernel_rfl) (cong1 (fun (x0 : Bool) => (bv x0 : Value)) e0)).trans (by kernel_rfl)) (fun _ _ => trivial)

set_option maxRecDepth 10000 in
theorem bright_ct (a_Sign : Int) (a_Digits : List Int) (a_Digitss : SV) :
    Cp Try.prog 51 #[ag (DBig.mk a_Sign ⟨a_Digits, a_Digitss⟩)] [fs true a_Digits a_Digitss] (bv (decide (Bg.RtB a_Sign a_Digits))) := by
  refine V.fn mo Try.func51 45 1 (by kernel_rfl) fun w H ε k0 => ?_
  obtain ⟨⟨kl1, -⟩, -⟩ : Lq a_Digits a_Digitss.v ∧ True := kn k0 (by kernel_rfl)
  clear k0
  refine V.go [.nb 0 0 (fun b => pp b 0) 31 (fun _ => ca (DBig.mk a_Sign ⟨a_Digits, a_Digitss⟩)),
    .kb false] (fun _ _ => by kernel_rfl) fun _ _ G1 => ?_
  intro S1 t1
  refine V.go [.k (pp ((G1 0).b) 1),
    .ld 0 1 false (fun _ => [a_Digitss.v]),
    .ln (kf false (.f 0) a_Digits (fun _ => a_Digitss)),
    .k (iv (a_Digits.length : Int))] (fun _ _ => by kernel_rfl) fun _ _ G2 => ?_
  intro S2 t2
  refine V.go [.k (pp ((G1 0).b) 1),
    .ld 0 1 false (fun _ => [a_Digitss.v]),
    .ln (kf false (.f 0) a_Digits (fun _ => a_Digitss)),
    .k (iv 0)] (fun _ _ => by kernel_rfl) fun _ _ G3 => ?_
  intro S3 t3
  refine V.loop (γ := Int) (fun k0 => ⟨[(1, pp ((G1 0).b) 0), (3, iv (a_Digits.length : Int)), (10, a_Digitss.v), (11, iv (a_Digits.length : Int)), (12, iv k0)], [fs false a_Digits a_Digitss], [.blk ((G1 0).b) (ca (DBig.mk a_Sign ⟨a_Digits, a_Digitss⟩)) 31]⟩) (fun k0 => (0 ≤ k0) ∧ (k0 ≤ (a_Digits.length : Int)) ∧ (∀ i, i < k0.toNat → 0 ≤ a_Digits.getD i default ∧ a_Digits.getD i default < 1048576)) (fun k0 => ((a_Digits.length : Int) - k0).toNat) 0 (by kernel_rfl) [0] (by kernel_rfl) ?_ ?_
  · skip
    refine ⟨?_, ?_, ?_⟩
    · show 0 ≤ (0 : Int)
      first | omega | rfl | (simp; done) | (subst_vars; simp; done)
    · show (0 : Int) ≤ (a_Digits.length : Int)
      first | omega | rfl | (simp; done) | (subst_vars; simp; done)
    · show ∀ i, i < (0 : Int).toNat → 0 ≤ a_Digits.getD i default ∧ a_Digits.getD i default < 1048576
      intro i hi; simp at hi
  · rintro k0 hF1 kw4 Z1 hZ1
    have hF1 : (0 ≤ k0) ∧ (k0 ≤ (a_Digits.length : Int)) ∧ (∀ i, i < k0.toNat → 0 ≤ a_Digits.getD i default ∧ a_Digits.getD i default < 1048576) := hF1
    obtain ⟨hf1, hf2, hf3⟩ := hF1
    clear kw4
    refine V.go [.k (bv (decide (k0 < (a_Digits.length : Int))))] (fun _ _ => by kernel_rfl) fun _ _ G4 => ?_
    intro S4 t4
    refine V.cond (b := decide (k0 < (a_Digits.length : Int))) iDT iDF (by kernel_rfl) (fun q1 => ?_) (fun q2 => ?_)
    · skip
      refine nm (a_Digits.getD k0.toNat default : Int) fun v1 hv1 => ?_
      refine V.go [.ix g0 (kf false (.f 0) a_Digits (fun _ => a_Digitss)) k0 (fun _ => ⟨by omega, by omega⟩),
        .le g0 (kf false (.f 0) a_Digits (fun _ => a_Digitss)) k0 none false v1 hv1 (fun _ => ⟨by omega, by omega⟩) false (fun _ => [iv v1]),
        .k (iv v1)] (fun _ _ => by kernel_rfl) fun _ _ G5 => ?_
      intro S5 t5
      refine V.go [.k (iv v1),
        .k (bv (decide (v1 < 0))),
        .k (bv (decide (v1 < 0))),
        .k (iv v1),
        .k (bv (decide (1048575 < v1))),
        .or g0 false (decide (v1 < 0)) (decide (1048575 < v1))] (fun _ _ => by kernel_rfl) fun _ _ G6 => ?_
      intro S6 t6
      refine V.cond (b := (decide (v1 < 0)) || (decide (1048575 < v1))) (iOT iDT iDT) (iOF iDF iDF) (by kernel_rfl) (fun q3 => ?_) (fun q4 => ?_)
      · skip
        refine V.go [.kb false] (fun _ _ => by kernel_rfl) fun _ _ G7 => ?_
        intro S7 t7
        have e0 : false = decide (Bg.RtB a_Sign a_Digits) := by
          exact (decide_eq_false (Bg.rt_bad (k := k0.toNat) (by omega) hv1 q3)).symm
        exact V.ret [0] [] [] [] [] [] (bv false) (fun _ _ => by kernel_rfl) (fun _ _ => (Eq.trans (by kernel_rfl) (cong1 (fun (x0 : Bool) => (bv x0 : Value)) e0)).trans (by kernel_rfl)) (fun _ _ => trivial)
      · skip
        refine V.go [.a (k0 + 1) (by omega) (by omega),
          .k (iv (k0 + 1))] (fun _ _ => by kernel_rfl) fun _ _ G8 => ?_
        intro S8 t8
        refine V.rnd hZ1 (k0 + 1) [0] (by kernel_rfl) ?_ ?_
        · skip
          refine ⟨?_, ?_, ?_⟩
          · show 0 ≤ (k0 + 1)
            first | omega | rfl | (simp; done) | (subst_vars; simp; done)
          · show (k0 + 1) ≤ (a_Digits.length : Int)
            first | omega | rfl | (simp; done) | (subst_vars; simp; done)
          · show ∀ i, i < (k0 + 1).toNat → 0 ≤ a_Digits.getD i default ∧ a_Digits.getD i default < 1048576
            intro i hi; by_cases e : i < k0.toNat
            · exact hf3 i e
            · rw [show i = k0.toNat by omega, ← hv1]; omega
        · show ((a_Digits.length : Int) - (k0 + 1)).toNat < ((a_Digits.length : Int) - k0).toNat
          omega
    · skip
      refine V.go [.k (iv (a_Digits.length : Int)),
        .k (bv (decide ((a_Digits.length : Int) = 0)))] (fun _ _ => by kernel_rfl) fun _ _ G9 => ?_
      intro S9 t9
      refine V.cond (b := decide ((a_Digits.length : Int) = 0)) iDT iDF (by kernel_rfl) (fun q5 => ?_) (fun q6 => ?_)
      · skip
        refine V.go [.k (pp ((G1 0).b) 0),
          .ld 0 0 false (fun _ => [iv a_Sign]),
          .k (bv (decide (a_Sign = 0))),
          .k (bv (decide (a_Sign = 0)))] (fun _ _ => by kernel_rfl) fun _ _ G10 => ?_
        intro S10 t10
        have e0 : (decide (a_Sign = 0)) = decide (Bg.RtB a_Sign a_Digits) := by
          refine Bool.eq_iff_iff.2 (Iff.trans iDT (Iff.trans ?_ decide_eq_true_iff.symm))
          exact Bg.rt_nil (by omega)
        exact V.ret [0] [] [] [] [] [] (bv (decide (a_Sign = 0))) (fun _ _ => by kernel_rfl) (fun _ _ => (Eq.trans (by kernel_rfl) (cong1 (fun (x0 : Bool) => (bv x0 : Value)) e0)).trans (by kernel_rfl)) (fun _ _ => trivial)
      · skip
        refine nm ((decide (a_Sign = 1)) || (decide (a_Sign = (-1))) : Bool) fun p1 hp1 => ?_
        refine nm ((a_Digits.length : Int) - 1 : Int) fun n1 hn1 => ?_
        refine nm (a_Digits.getD n1.toNat default : Int) fun v2 hv2 => ?_
        refine V.go [.k (pp ((G1 0).b) 0),
          .ld 0 0 false (fun _ => [iv a_Sign]),
          .k (bv (decide (a_Sign = 1))),
          .k (bv (decide (a_Sign = 1))),
          .k (pp ((G1 0).b) 0),
          .ld 0 0 false (fun _ => [iv a_Sign]),
          .k (bv (decide (a_Sign = (-1)))),
          .orn g0 false (decide (a_Sign = 1)) (decide (a_Sign = (-1))) p1 hp1,
          .k (bv p1),
          .k (pp ((G1 0).b) 1),
          .ld 0 1 false (fun _ => [a_Digitss.v]),
          .k (iv (a_Digits.length : Int)),
          .arg (gT (b := p1) (iN hp1 (iOT iDT iDT))) ((a_Digits.length : Int) - 1) n1 hn1 (fun hg => by omega),
          .ix (gT (b := p1) (iN hp1 (iOT iDT iDT))) (kf false (.f 0) a_Digits (fun _ => a_Digitss)) n1 (fun hg => ⟨by omega, by omega⟩),
          .le (gT (b := p1) (iN hp1 (iOT iDT iDT))) (kf false (.f 0) a_Digits (fun _ => a_Digitss)) n1 none false v2 hv2 (fun hg => ⟨by omega, by omega⟩) false (fun _ => [iv v2]),
          .k (bv (!(decide (v2 = 0)))),
          .and g0 false p1 (!(decide (v2 = 0))),
          .k (bv (p1 && (!(decide (v2 = 0)))))] (fun _ _ => by kernel_rfl) fun _ _ G11 => ?_
        intro S11 t11
        have e0 : (p1 && (!(decide (v2 = 0)))) = decide (Bg.RtB a_Sign a_Digits) := by
          refine Bool.eq_iff_iff.2 (Iff.trans (iAT (iN hp1 (iOT iDT iDT)) (iNT iDF)) (Iff.trans ?_ decide_eq_true_iff.symm))
          exact Bg.rt_ok (by omega) (fun i hi => hf3 i (by omega)) hv2 (by first | rfl | exact hn1)
        exact V.ret [0] [] [] [] [] [] (bv (p1 && (!(decide (v2 = 0))))) (fun _ _ => by kernel_rfl) (fun _ _ => (Eq.trans (by kernel_rfl) (cong1 (fun (x0 : Bool) => (bv x0 : Value)) e0)).trans (by kernel_rfl)) (fun _ _ => trivial)

set_option maxRecDepth 10000 in
theorem trim_ct (l : List Int) (ls : SV) (hd : Bg.Dg l) :
    Ct Try.prog 100 #[ls.v] [fs true l ls] [] (fun g => ((g.ss 0)).v) (fun g => [fs false (Bg.dig (Bg.nv l)) (g.ss 0)]) (fun g => []) (fun g => []) := by
  refine V.fn mo Try.func100 21 0 (by kernel_rfl) fun w H ε k0 => ?_
  obtain ⟨⟨kl1, -⟩, -⟩ : Lq l ls.v ∧ True := kn k0 (by kernel_rfl)
  clear k0
  refine V.go [.k (.slice none 0 0)] (fun _ _ => by kernel_rfl) fun _ _ G1 => ?_
  intro S1 t1
  refine V.go [.k (ls.v),
    .ln (kf false (.f 0) l (fun _ => ls)),
    .k (iv (l.length : Int))] (fun _ _ => by kernel_rfl) fun _ _ G2 => ?_
  intro S2 t2
  refine V.loop (γ := Int) (fun n => ⟨[(0, ls.v), (3, iv n)], [fs false l ls], []⟩) (fun n => (0 ≤ n) ∧ (n ≤ (l.length : Int)) ∧ (∀ i, n.toNat ≤ i → i < l.length → l.getD i 0 = 0)) (fun n => n.toNat) (l.length : Int) (by kernel_rfl) [0] (by kernel_rfl) ?_ ?_
  · skip
    refine ⟨?_, ?_, ?_⟩
    · show 0 ≤ (l.length : Int)
      omega
    · show (l.length : Int) ≤ (l.length : Int)
      omega
    · show ∀ i, (l.length : Int).toNat ≤ i → i < l.length → l.getD i 0 = 0
      intro i h1 h2; omega
  · rintro n hF1 kw3 Z1 hZ1
    have hF1 : (0 ≤ n) ∧ (n ≤ (l.length : Int)) ∧ (∀ i, n.toNat ≤ i → i < l.length → l.getD i 0 = 0) := hF1
    obtain ⟨hf1, hf2, hf3⟩ := hF1
    clear kw3
    refine nm (l.getD (n - 1).toNat default : Int) fun v1 hv1 => ?_
    refine V.go [.k (iv n),
      .k (bv (decide (0 < n))),
      .k (bv (decide (0 < n))),
      .k (ls.v),
      .k (iv n),
      .arg (gT (b := decide (0 < n)) iDT) (n - 1) (n - 1) rfl (fun hg => by omega),
      .ix (gT (b := decide (0 < n)) iDT) (kf false (.f 0) l (fun _ => ls)) (n - 1) (fun hg => ⟨by omega, by omega⟩),
      .le (gT (b := decide (0 < n)) iDT) (kf false (.f 0) l (fun _ => ls)) (n - 1) none false v1 hv1 (fun hg => ⟨by omega, by omega⟩) false (fun _ => [iv v1]),
      .k (bv (decide (v1 = 0))),
      .and g0 false (decide (0 < n)) (decide (v1 = 0))] (fun _ _ => by kernel_rfl) fun _ _ G3 => ?_
    intro S3 t3
    refine V.cond (b := (decide (0 < n)) && (decide (v1 = 0))) (iAT iDT iDT) (iAF iDF iDF) (by kernel_rfl) (fun q1 => ?_) (fun q2 => ?_)
    · skip
      refine V.go [.k (iv n),
        .a (n - 1) (by omega) (by omega),
        .k (iv (n - 1))] (fun _ _ => by kernel_rfl) fun _ _ G4 => ?_
      intro S4 t4
      refine V.rnd hZ1 (n - 1) [0] (by kernel_rfl) ?_ ?_
      · skip
        refine ⟨?_, ?_, ?_⟩
        · show 0 ≤ (n - 1)
          omega
        · show (n - 1) ≤ (l.length : Int)
          omega
        · show ∀ i, (n - 1).toNat ≤ i → i < l.length → l.getD i 0 = 0
          intro i h1 h2; by_cases e : n.toNat ≤ i
          · exact hf3 i e h2
          · rw [show i = (n - 1).toNat by omega]; exact hv1.symm.trans q1.2
      · show (n - 1).toNat < n.toNat
        omega
    · skip
      refine nm (l.take n.toNat : List Int) fun l1 hl1 => ?_
      have hl1n := congrArg List.length hl1; try simp only [List.length_append, List.length_cons, List.length_nil, List.length_replicate, List.length_set, List.length_take, List.length_drop, List.length_map, List.length_reverse, List.length_range] at hl1n
      refine V.reg [.k (ls.v),
        .k (iv n),
        .sl g0 (kf false (.f 0) l (fun _ => ls)) rfl none (some n) 0 n rfl rfl l1 (by rw [hl1]; simp) (fun _ => ⟨by omega, by omega, by omega⟩),
        .k ((ls.sub 1 (0 : Int).toNat n.toNat).v)] (fun _ _ => by kernel_rfl) fun _ _ G5 kw6 => ?_
      intro S5 t5
      obtain ⟨⟨kl2, -⟩, -⟩ : Lq l1 ((ls.sub 1 (0 : Int).toNat n.toNat).v) ∧ True := kn kw6 (by kernel_rfl)
      clear kw6
      have e0 : l1 = Bg.dig (Bg.nv l) := by
        rw [hl1]; exact Bg.trim_eq hd (by omega) hf3 (Bg.trim_stop (fun _ => hv1) q2)
      subst e0
      exact V.ret [0] [(ls.sub 1 (0 : Int).toNat n.toNat)] [fun _ => {}] [] [1] [] ((ls.sub 1 (0 : Int).toNat n.toNat).v) (fun _ _ => by kernel_rfl) (fun _ _ => by kernel_rfl) (fun _ _ => trivial)
theorem trim_ctv (l : List Int) (ls : SV) (hd : Bg.Dg l) (rv0 : List Int) (erv0 : rv0 = Bg.dig (Bg.nv l)) :
    Ct Try.prog 100 #[ls.v] [fs true l ls] [] (fun g => ((g.ss 0)).v) (fun g => [fs false rv0 (g.ss 0)]) (fun g => []) (fun g => []) := by
  subst erv0; exact trim_ct l ls hd

set_option maxRecDepth 10000 in
theorem trimo_ct (l : List Int) (ls : SV) (hd : Bg.Dg l) :
    Ct Try.prog 100 #[ls.v] [] [os false 3 l ls] (fun g => ((g.ss 0)).v) (fun g => []) (fun g => [os true 3 (Bg.dig (Bg.nv l)) (g.ss 0)]) (fun g => []) := by
  refine V.fn mo Try.func100 21 0 (by kernel_rfl) fun w H ε k0 => ?_
  obtain ⟨⟨kl1, -⟩, -⟩ : Lq l ls.v ∧ True := kn k0 (by kernel_rfl)
  clear k0
  refine V.tro 3 l ls 0 (by kernel_rfl) (fun _ _ => trivial) ?_
  refine V.go [.k (.slice none 0 0)] (fun _ _ => by kernel_rfl) fun _ _ G1 => ?_
  intro S1 t1
  refine V.go [.k (ls.v),
    .ln (ko true 3 0 l (fun _ => ls)),
    .k (iv (l.length : Int))] (fun _ _ => by kernel_rfl) fun _ _ G2 => ?_
  intro S2 t2
  refine V.loop (γ := Int) (fun n => ⟨[(0, ls.v), (3, iv n)], [], [os true 3 l ls]⟩) (fun n => (0 ≤ n) ∧ (n ≤ (l.length : Int)) ∧ (∀ i, n.toNat ≤ i → i < l.length → l.getD i 0 = 0)) (fun n => n.toNat) (l.length : Int) (by kernel_rfl) [] (by kernel_rfl) ?_ ?_
  · skip
    refine ⟨?_, ?_, ?_⟩
    · show 0 ≤ (l.length : Int)
      omega
    · show (l.length : Int) ≤ (l.length : Int)
      omega
    · show ∀ i, (l.length : Int).toNat ≤ i → i < l.length → l.getD i 0 = 0
      intro i h1 h2; omega
  · rintro n hF1 kw3 Z1 hZ1
    have hF1 : (0 ≤ n) ∧ (n ≤ (l.length : Int)) ∧ (∀ i, n.toNat ≤ i → i < l.length → l.getD i 0 = 0) := hF1
    obtain ⟨hf1, hf2, hf3⟩ := hF1
    clear kw3
    refine nm (l.getD (n - 1).toNat default : Int) fun v1 hv1 => ?_
    refine V.go [.k (iv n),
      .k (bv (decide (0 < n))),
      .k (bv (decide (0 < n))),
      .k (ls.v),
      .k (iv n),
      .arg (gT (b := decide (0 < n)) iDT) (n - 1) (n - 1) rfl (fun hg => by omega),
      .ix (gT (b := decide (0 < n)) iDT) (ko true 3 0 l (fun _ => ls)) (n - 1) (fun hg => ⟨by omega, by omega⟩),
      .le (gT (b := decide (0 < n)) iDT) (ko true 3 0 l (fun _ => ls)) (n - 1) none false v1 hv1 (fun hg => ⟨by omega, by omega⟩) false (fun _ => [iv v1]),
      .k (bv (decide (v1 = 0))),
      .and g0 false (decide (0 < n)) (decide (v1 = 0))] (fun _ _ => by kernel_rfl) fun _ _ G3 => ?_
    intro S3 t3
    refine V.cond (b := (decide (0 < n)) && (decide (v1 = 0))) (iAT iDT iDT) (iAF iDF iDF) (by kernel_rfl) (fun q1 => ?_) (fun q2 => ?_)
    · skip
      refine V.go [.k (iv n),
        .a (n - 1) (by omega) (by omega),
        .k (iv (n - 1))] (fun _ _ => by kernel_rfl) fun _ _ G4 => ?_
      intro S4 t4
      refine V.rnd hZ1 (n - 1) [] (by kernel_rfl) ?_ ?_
      · skip
        refine ⟨?_, ?_, ?_⟩
        · show 0 ≤ (n - 1)
          omega
        · show (n - 1) ≤ (l.length : Int)
          omega
        · show ∀ i, (n - 1).toNat ≤ i → i < l.length → l.getD i 0 = 0
          intro i h1 h2; by_cases e : n.toNat ≤ i
          · exact hf3 i e h2
          · rw [show i = (n - 1).toNat by omega]; exact hv1.symm.trans q1.2
      · show (n - 1).toNat < n.toNat
        omega
    · skip
      refine nm (l.take n.toNat : List Int) fun l1 hl1 => ?_
      have hl1n := congrArg List.length hl1; try simp only [List.length_append, List.length_cons, List.length_nil, List.length_replicate, List.length_set, List.length_take, List.length_drop, List.length_map, List.length_reverse, List.length_range] at hl1n
      refine V.go [.k (ls.v),
        .k (iv n),
        .fro 2 0 3 true l (fun _ => ls) n l1 hl1 (by omega) (by omega),
        .k ((ls.sub 1 0 n.toNat).v)] (fun _ _ => by kernel_rfl) fun _ _ G5 => ?_
      intro S5 t5
      have eL0 : l1 = Bg.dig (Bg.nv l) := by
        rw [hl1]; exact Bg.trim_eq hd (by omega) hf3 (Bg.trim_stop (fun _ => hv1) q2)
      subst eL0
      exact V.ret [0] [(ls.sub 1 0 n.toNat)] [] [] [] [0] ((ls.sub 1 0 n.toNat).v) (fun _ _ => by kernel_rfl) (fun _ _ => by kernel_rfl) (fun _ _ => trivial)

set_option maxRecDepth 10000 in
theorem signed_ct (sign : Int) (l : List Int) (ls : SV) (hd : Bg.Dg l) :
    Ct Try.prog 81 #[iv sign, ls.v] [fs true l ls] [] (fun g => ag (DBig.mk (Bg.sg0 (Bg.nv l) sign) ⟨Bg.dig (Bg.nv l), (g.ss 0)⟩)) (fun g => [fs false (Bg.dig (Bg.nv l)) (g.ss 0)]) (fun g => []) (fun g => []) := by
  refine V.fn mo Try.func81 14 1 (by kernel_rfl) fun w H ε k0 => ?_
  obtain ⟨⟨kl1, -⟩, -⟩ : Lq l ls.v ∧ True := kn k0 (by kernel_rfl)
  clear k0
  refine V.go [.nb 0 0 (fun b => pp b 0) 31 (fun _ => ca (DBig.mk 0 ⟨[], {}⟩))] (fun _ _ => by kernel_rfl) fun _ _ G1 => ?_
  intro S1 t1
  refine V.reg [.k (ls.v),
    .ct g0 1 100 true [] [] [(kf false (.f 0) l (fun _ => ls)).a] (fun _ G => trim_ct l ls (by assumption)),
    .v fun G => ((G 1).ss 0).v] (fun _ _ => by kernel_rfl) fun _ _ G2 kw2 => ?_
  intro S2 t2
  obtain ⟨⟨kl2, -⟩, -⟩ : Lq (Bg.dig (Bg.nv l)) (((G2 1).ss 0).v) ∧ True := kn kw2 (by kernel_rfl)
  clear kw2
  refine V.go [.k (((G2 1).ss 0).v),
    .ln (kf false (.f 1) (Bg.dig (Bg.nv l)) (fun _ => (G2 1).ss 0)),
    .k (bv (decide (((Bg.dig (Bg.nv l)).length : Int) = 0)))] (fun _ _ => by kernel_rfl) fun _ _ G3 => ?_
  intro S3 t3
  refine V.cond (b := decide (((Bg.dig (Bg.nv l)).length : Int) = 0)) iDT iDF (by kernel_rfl) (fun q1 => ?_) (fun q2 => ?_)
  · skip
    have hz0 := Bg.len_dig0.1 q1
    refine V.go [.k (ag (DBig.mk 0 ⟨[], {}⟩)),
      .st 0 (fun _ => .blk ((G1 0).b) (ca (DBig.mk 0 ⟨[], {}⟩)) 31)] (fun _ _ => by kernel_rfl) fun _ _ G4 => ?_
    intro S4 t4
    refine V.nilF (α := Int) ?_
    have e1 : ([] : List Int) = Bg.dig (Bg.nv l) := by
      rw [hz0]; rfl
    rw [← e1]
    have e0 : (0 : Int) = Bg.sg0 (Bg.nv l) sign := by
      exact (if_pos hz0).symm
    exact V.ret [0] [{}] [fun _ => {}] [] [2] [] (ag (DBig.mk 0 ⟨([] : List Int), {}⟩)) (fun _ _ => by kernel_rfl) (fun _ _ => (Eq.trans (by kernel_rfl) (cong1 (fun (x0 : Int) => (.agg #[iv x0, SV.v ({})] : Value)) e0)).trans (by kernel_rfl)) (fun _ _ => trivial)
  · skip
    have hz0 := fun h => q2 (Bg.len_dig0.2 h)
    refine V.go [.k (iv sign),
      .k (((G2 1).ss 0).v),
      .k (ag (DBig.mk sign ⟨Bg.dig (Bg.nv l), (G2 1).ss 0⟩)),
      .st 0 (fun _ => .blk ((G1 0).b) (ca (DBig.mk sign ⟨Bg.dig (Bg.nv l), (G2 1).ss 0⟩)) 31)] (fun _ _ => by kernel_rfl) fun _ _ G5 => ?_
    intro S5 t5
    have e0 : sign = Bg.sg0 (Bg.nv l) sign := by
      exact (if_neg hz0).symm
    exact V.ret [0] [(G2 1).ss 0] [fun _ => {}] [] [1] [] (ag (DBig.mk sign ⟨Bg.dig (Bg.nv l), (G2 1).ss 0⟩)) (fun _ _ => by kernel_rfl) (fun _ _ => (Eq.trans (by kernel_rfl) (cong1 (fun (x0 : Int) => (.agg #[iv x0, ((G2 1).ss 0).v] : Value)) e0)).trans (by kernel_rfl)) (fun _ _ => trivial)
theorem signed_ctv (sign : Int) (l : List Int) (ls : SV) (hd : Bg.Dg l) (rv0 : Int) (erv0 : rv0 = Bg.sg0 (Bg.nv l) sign) (rv1 : List Int) (erv1 : rv1 = Bg.dig (Bg.nv l)) :
    Ct Try.prog 81 #[iv sign, ls.v] [fs true l ls] [] (fun g => ag (DBig.mk rv0 ⟨rv1, (g.ss 0)⟩)) (fun g => [fs false rv1 (g.ss 0)]) (fun g => []) (fun g => []) := by
  subst erv0 erv1; exact signed_ct sign l ls hd

end Kb
set_option linter.unusedVariables false
set_option linter.unusedSectionVars false
set_option linter.unusedSimpArgs false
namespace Kb
open Go Go.Proofs
set_option maxRecDepth 10000 in
theorem of_ct (n : Int) (hn : -9223372036854775808 ≤ n ∧ n ≤ 9223372036854775807) :
    Ct Try.prog 50 #[iv n] [] [] (fun g => ag (DBig.mk (Bg.sgn n) ⟨Bg.dig n.natAbs, (g.ss 0)⟩)) (fun g => [fs true (Bg.dig n.natAbs) (g.ss 0)]) (fun g => []) (fun g => []) := by
  refine V.fn mo Try.func50 25 2 (by kernel_rfl) fun w H ε k0 => ?_
  clear k0
  refine V.go [.nb 0 0 (fun b => pp b 0) 31 (fun _ => ca (DBig.mk 0 ⟨[], {}⟩))] (fun _ _ => by kernel_rfl) fun _ _ G1 => ?_
  intro S1 t1
  refine nm (n % 18446744073709551616 : Int) fun n1 hn1 => ?_
  refine V.go [.k (iv n),
    .ek g0 .u64 n n1 (fun _ => by rw [wrapU64, hn1]),
    .k (iv 1),
    .k (.int .u64 n1)] (fun _ _ => by kernel_rfl) fun _ _ G2 => ?_
  intro S2 t2
  refine V.go [.k (iv n),
    .k (bv (decide (n < 0)))] (fun _ _ => by kernel_rfl) fun _ _ G3 => ?_
  intro S3 t3
  refine V.cond (b := decide (n < 0)) iDT iDF (by kernel_rfl) (fun q1 => ?_) (fun q2 => ?_)
  · skip
    refine nm ((0 - n1) % 18446744073709551616 : Int) fun n2 hn2 => ?_
    refine V.go [.k (.int .u64 n1),
      .ek g0 .u64 (0 - n1) n2 (fun _ => by rw [wrapU64, hn2]),
      .k (iv (-1)),
      .k (.int .u64 n2)] (fun _ _ => by kernel_rfl) fun _ _ G4 => ?_
    intro S4 t4
    refine V.go [.k (.slice none 0 0)] (fun _ _ => by kernel_rfl) fun _ _ G5 => ?_
    intro S5 t5
    refine V.on (α := Int) 1 3 (by kernel_rfl) ?_
    refine V.loop (γ := Int × List Int × SV) (fun ⟨u, l, ls⟩ => ⟨[(2, pp ((G1 0).b) 0), (3, iv (-1)), (4, .int .u64 u), (5, ls.v)], [], [.blk ((G1 0).b) (ca (DBig.mk 0 ⟨[], {}⟩)) 31, os true 3 l ls]⟩) (fun ⟨u, l, ls⟩ => (Bg.OfI n.natAbs l u)) (fun ⟨u, l, ls⟩ => u.toNat) (n2, ([] : List Int), {}) (by kernel_rfl) [] (by kernel_rfl) ?_ ?_
    · skip
      · show Bg.OfI n.natAbs ([] : List Int) n2
        exact Bg.of_start (by omega) (by omega)
    · rintro ⟨u, l, ls⟩ hF1 kw6 Z1 hZ1
      have hf1 : Bg.OfI n.natAbs l u := hF1
      obtain ⟨⟨kl1, -⟩, -⟩ : Lq l ls.v ∧ True := kn kw6 (by kernel_rfl)
      clear kw6
      have hu0 := hf1.u0
      have hul : u < 18446744073709551616 := by have := hf1.sum; have := Nat.le_mul_of_pos_left u.toNat (Nat.pow_pos (n := l.length) (show 0 < 1048576 by omega)); omega
      refine V.go [.k (.int .u64 u),
        .k (bv (decide (0 < u)))] (fun _ _ => by kernel_rfl) fun _ _ G6 => ?_
      intro S6 t6
      refine V.cond (b := decide (0 < u)) iDT iDF (by kernel_rfl) (fun q3 => ?_) (fun q4 => ?_)
      · skip
        have hll := Bg.of_len hf1 q3 (by omega)
        refine nm (u % 1048576 : Int) fun n3 hn3 => ?_
        refine nm (l ++ [n3] : List Int) fun l1 hl1 => ?_
        have hl1n := congrArg List.length hl1; try simp only [List.length_append, List.length_cons, List.length_nil, List.length_replicate, List.length_set, List.length_take, List.length_drop, List.length_map, List.length_reverse, List.length_range] at hl1n
        refine V.reg [.k (ls.v),
          .k (.int .u64 u),
          .andu g0 u 1048575 n3 20 (by decide) rfl (by rw [hn3]; rfl),
          .ek g0 .i64 n3 n3 (fun _ => by rw [IntKind.wrap_i64]; omega),
          .nr 4 true 3 [n3] [] (fun _ _ _ _ _ => trivial) (fun _ => #[iv n3]),
          .ap 5 1 3 8 false true l (fun _ => ls) (kf true (.g 4 0) [n3] (fun G => ⟨atB (G 4).b, 1, 1⟩)) true l1 hl1 (by (try simp only [List.length_append, List.length_cons, List.length_nil, List.length_replicate, List.length_set, List.length_take, List.length_drop, List.length_map, List.length_reverse, List.length_range]); omega) (fun h => by cases h) (.inr fun _ _ => trivial),
          .v fun G => ((G 5).s).v] (fun _ _ => by kernel_rfl) fun _ _ G7 kw8 => ?_
        intro S7 t7
        obtain ⟨⟨kl2, -⟩, -⟩ : Lq [n3] (SV.v ⟨atB (G7 4).b, 1, 1⟩) ∧ Lq l1 (((G7 5).s).v) ∧ True := kn kw8 (by kernel_rfl)
        clear kw8
        refine nm (u / 1048576 : Int) fun n4 hn4 => ?_
        refine V.go [.k (.int .u64 u),
          .shrm g0 .u64 .u64 u n4 20 (by decide) (by rw [hn4]; rfl),
          .k (.int .u64 n4)] (fun _ _ => by kernel_rfl) fun _ _ G8 => ?_
        intro S8 t8
        refine V.rnd hZ1 (n4, l1, (G7 5).s) [] (by kernel_rfl) ?_ ?_
        · skip
          · show Bg.OfI n.natAbs l1 n4
            rw [hl1, hn3, hn4]; exact Bg.of_step hf1
        · show n4.toNat < u.toNat
          omega
      · skip
        refine V.frz 1 true 3 l ls (by kernel_rfl) ?_
        refine V.reg [.k (iv (-1)),
          .k (ls.v),
          .ctT g0 2 81 [(kf true (.f 0) l (fun _ => ls)).a] (fun _ G => signed_ct (-1 : Int) l ls hf1.dg),
          .st 0 (fun G => .blk ((G1 0).b) (ca (DBig.mk (Bg.sg0 (Bg.nv l) (-1 : Int)) ⟨Bg.dig (Bg.nv l), (G 2).ss 0⟩)) 31)] (fun _ _ => by kernel_rfl) fun _ _ G9 kw10 => ?_
        intro S9 t9
        obtain ⟨⟨kl3, -⟩, -⟩ : Lq (Bg.dig (Bg.nv l)) (((G9 2).ss 0).v) ∧ True := kn kw10 (by kernel_rfl)
        clear kw10
        have e1 : Bg.dig (Bg.nv l) = Bg.dig n.natAbs := by
          rw [Bg.of_end hf1 q4]
        rw [← e1]
        have e0 : (Bg.sg0 (Bg.nv l) (-1 : Int)) = Bg.sgn n := by
          rw [Bg.of_end hf1 q4]; exact Bg.of_sgn rfl _ (by omega)
        exact V.ret [0] [(G9 2).ss 0] [fun _ => {}] [] [1] [] (ag (DBig.mk (Bg.sg0 (Bg.nv l) (-1 : Int)) ⟨Bg.dig (Bg.nv l), (G9 2).ss 0⟩)) (fun _ _ => by kernel_rfl) (fun _ _ => (Eq.trans (by kernel_rfl) (cong1 (fun (x0 : Int) => (.agg #[iv x0, ((G9 2).ss 0).v] : Value)) e0)).trans (by kernel_rfl)) (fun _ _ => trivial)
  · skip
    refine V.go [.k (.slice none 0 0)] (fun _ _ => by kernel_rfl) fun _ _ G10 => ?_
    intro S10 t10
    refine V.on (α := Int) 1 3 (by kernel_rfl) ?_
    refine V.loop (γ := Int × List Int × SV) (fun ⟨u_1, l_1, l_1s⟩ => ⟨[(2, pp ((G1 0).b) 0), (3, iv 1), (4, .int .u64 u_1), (5, l_1s.v)], [], [.blk ((G1 0).b) (ca (DBig.mk 0 ⟨[], {}⟩)) 31, os true 3 l_1 l_1s]⟩) (fun ⟨u_1, l_1, l_1s⟩ => (Bg.OfI n.natAbs l_1 u_1)) (fun ⟨u_1, l_1, l_1s⟩ => u_1.toNat) (n1, ([] : List Int), {}) (by kernel_rfl) [] (by kernel_rfl) ?_ ?_
    · skip
      · show Bg.OfI n.natAbs ([] : List Int) n1
        exact Bg.of_start (by omega) (by omega)
    · rintro ⟨u_1, l_1, l_1s⟩ hF2 kw12 Z2 hZ2
      have hf2 : Bg.OfI n.natAbs l_1 u_1 := hF2
      obtain ⟨⟨kl4, -⟩, -⟩ : Lq l_1 l_1s.v ∧ True := kn kw12 (by kernel_rfl)
      clear kw12
      have hu0 := hf2.u0
      have hul : u_1 < 18446744073709551616 := by have := hf2.sum; have := Nat.le_mul_of_pos_left u_1.toNat (Nat.pow_pos (n := l_1.length) (show 0 < 1048576 by omega)); omega
      refine V.go [.k (.int .u64 u_1),
        .k (bv (decide (0 < u_1)))] (fun _ _ => by kernel_rfl) fun _ _ G11 => ?_
      intro S11 t11
      refine V.cond (b := decide (0 < u_1)) iDT iDF (by kernel_rfl) (fun q5 => ?_) (fun q6 => ?_)
      · skip
        have hll := Bg.of_len hf2 q5 (by omega)
        refine nm (u_1 % 1048576 : Int) fun n5 hn5 => ?_
        refine nm (l_1 ++ [n5] : List Int) fun l2 hl2 => ?_
        have hl2n := congrArg List.length hl2; try simp only [List.length_append, List.length_cons, List.length_nil, List.length_replicate, List.length_set, List.length_take, List.length_drop, List.length_map, List.length_reverse, List.length_range] at hl2n
        refine V.reg [.k (l_1s.v),
          .k (.int .u64 u_1),
          .andu g0 u_1 1048575 n5 20 (by decide) rfl (by rw [hn5]; rfl),
          .ek g0 .i64 n5 n5 (fun _ => by rw [IntKind.wrap_i64]; omega),
          .nr 4 true 3 [n5] [] (fun _ _ _ _ _ => trivial) (fun _ => #[iv n5]),
          .ap 5 1 3 8 false true l_1 (fun _ => l_1s) (kf true (.g 4 0) [n5] (fun G => ⟨atB (G 4).b, 1, 1⟩)) true l2 hl2 (by (try simp only [List.length_append, List.length_cons, List.length_nil, List.length_replicate, List.length_set, List.length_take, List.length_drop, List.length_map, List.length_reverse, List.length_range]); omega) (fun h => by cases h) (.inr fun _ _ => trivial),
          .v fun G => ((G 5).s).v] (fun _ _ => by kernel_rfl) fun _ _ G12 kw14 => ?_
        intro S12 t12
        obtain ⟨⟨kl5, -⟩, -⟩ : Lq [n5] (SV.v ⟨atB (G12 4).b, 1, 1⟩) ∧ Lq l2 (((G12 5).s).v) ∧ True := kn kw14 (by kernel_rfl)
        clear kw14
        refine nm (u_1 / 1048576 : Int) fun n6 hn6 => ?_
        refine V.go [.k (.int .u64 u_1),
          .shrm g0 .u64 .u64 u_1 n6 20 (by decide) (by rw [hn6]; rfl),
          .k (.int .u64 n6)] (fun _ _ => by kernel_rfl) fun _ _ G13 => ?_
        intro S13 t13
        refine V.rnd hZ2 (n6, l2, (G12 5).s) [] (by kernel_rfl) ?_ ?_
        · skip
          · show Bg.OfI n.natAbs l2 n6
            rw [hl2, hn5, hn6]; exact Bg.of_step hf2
        · show n6.toNat < u_1.toNat
          omega
      · skip
        refine V.frz 1 true 3 l_1 l_1s (by kernel_rfl) ?_
        refine V.reg [.k (iv 1),
          .k (l_1s.v),
          .ctT g0 2 81 [(kf true (.f 0) l_1 (fun _ => l_1s)).a] (fun _ G => signed_ct (1 : Int) l_1 l_1s hf2.dg),
          .st 0 (fun G => .blk ((G1 0).b) (ca (DBig.mk (Bg.sg0 (Bg.nv l_1) (1 : Int)) ⟨Bg.dig (Bg.nv l_1), (G 2).ss 0⟩)) 31)] (fun _ _ => by kernel_rfl) fun _ _ G14 kw16 => ?_
        intro S14 t14
        obtain ⟨⟨kl6, -⟩, -⟩ : Lq (Bg.dig (Bg.nv l_1)) (((G14 2).ss 0).v) ∧ True := kn kw16 (by kernel_rfl)
        clear kw16
        have e1 : Bg.dig (Bg.nv l_1) = Bg.dig n.natAbs := by
          rw [Bg.of_end hf2 q6]
        rw [← e1]
        have e0 : (Bg.sg0 (Bg.nv l_1) (1 : Int)) = Bg.sgn n := by
          rw [Bg.of_end hf2 q6]; exact Bg.of_sgn rfl _ (by omega)
        exact V.ret [0] [(G14 2).ss 0] [fun _ => {}] [] [1] [] (ag (DBig.mk (Bg.sg0 (Bg.nv l_1) (1 : Int)) ⟨Bg.dig (Bg.nv l_1), (G14 2).ss 0⟩)) (fun _ _ => by kernel_rfl) (fun _ _ => (Eq.trans (by kernel_rfl) (cong1 (fun (x0 : Int) => (.agg #[iv x0, ((G14 2).ss 0).v] : Value)) e0)).trans (by kernel_rfl)) (fun _ _ => trivial)
theorem of_ctv (n : Int) (hn : -9223372036854775808 ≤ n ∧ n ≤ 9223372036854775807) (rv0 : Int) (erv0 : rv0 = Bg.sgn n) (rv1 : List Int) (erv1 : rv1 = Bg.dig n.natAbs) :
    Ct Try.prog 50 #[iv n] [] [] (fun g => ag (DBig.mk rv0 ⟨rv1, (g.ss 0)⟩)) (fun g => [fs true rv1 (g.ss 0)]) (fun g => []) (fun g => []) := by
  subst erv0 erv1; exact of_ct n hn

end Kb
set_option linter.unusedVariables false
set_option linter.unusedSectionVars false
set_option linter.unusedSimpArgs false
namespace Kb
open Go Go.Proofs
set_option maxRecDepth 10000 in
theorem int_ct (a_Sign : Int) (a_Digits : List Int) (a_Digitss : SV) :
    Cp Try.prog 44 #[ag (DBig.mk a_Sign ⟨a_Digits, a_Digitss⟩)] [fs true a_Digits a_Digitss] (.tuple #[iv (Bg.intV a_Sign a_Digits), bv (decide (Bg.inI a_Sign a_Digits))]) := by
  refine V.fn mo Try.func44 59 1 (by kernel_rfl) fun w H ε k0 => ?_
  obtain ⟨⟨kl1, -⟩, -⟩ : Lq a_Digits a_Digitss.v ∧ True := kn k0 (by kernel_rfl)
  clear k0
  refine V.go [.nb 0 0 (fun b => pp b 0) 31 (fun _ => ca (DBig.mk a_Sign ⟨a_Digits, a_Digitss⟩)),
    .k (iv 0),
    .kb false] (fun _ _ => by kernel_rfl) fun _ _ G1 => ?_
  intro S1 t1
  refine nm ((!(decide (Bg.RtB a_Sign a_Digits))) || (decide (4 < (a_Digits.length : Int))) : Bool) fun p1 hp1 => ?_
  refine V.go [.ld 0 0 true (fun _ => Dat.cells (DBig.mk a_Sign ⟨a_Digits, a_Digitss⟩)),
    .cp g0 1 51 [(kf false (.f 0) a_Digits (fun _ => a_Digitss)).a] (fun _ G => bright_ct a_Sign a_Digits a_Digitss),
    .k (bv (!(decide (Bg.RtB a_Sign a_Digits)))),
    .k (bv (!(decide (Bg.RtB a_Sign a_Digits)))),
    .k (pp ((G1 0).b) 1),
    .ld 0 1 false (fun _ => [a_Digitss.v]),
    .ln (kf false (.f 0) a_Digits (fun _ => a_Digitss)),
    .k (bv (decide (4 < (a_Digits.length : Int)))),
    .orn g0 false (!(decide (Bg.RtB a_Sign a_Digits))) (decide (4 < (a_Digits.length : Int))) p1 hp1] (fun _ _ => by kernel_rfl) fun _ _ G2 => ?_
  intro S2 t2
  refine V.cond (b := p1) (iN hp1 (iOT (iNT iDF) iDT)) (iN hp1 (iOF (iNF iDT) iDF)) (by kernel_rfl) (fun q1 => ?_) (fun q2 => ?_)
  · skip
    have hNo : ¬ Bg.inI a_Sign a_Digits := by
      rcases q1 with h | h
      · exact fun hi => h hi.1
      · exact fun hi => Bg.int_len hi.1 h hi
    refine V.go [.k (iv 0),
      .kb false] (fun _ _ => by kernel_rfl) fun _ _ G3 => ?_
    intro S3 t3
    have e0 : (0 : Int) = Bg.intV a_Sign a_Digits := by
      exact (Bg.intV_n hNo).symm
    have e1 : false = decide (Bg.inI a_Sign a_Digits) := by
      exact (decide_eq_false hNo).symm
    exact V.ret [0, 0] [] [] [] [] [] (.tuple #[iv 0, bv false]) (fun _ _ => by kernel_rfl) (fun _ _ => (Eq.trans (by kernel_rfl) (cong2 (fun (x0 : Int) (x1 : Bool) => (.tuple #[iv x0, bv x1] : Value)) e0 e1)).trans (by kernel_rfl)) (fun _ _ => trivial)
  · skip
    have hRt : Bg.RtB a_Sign a_Digits := by first | exact (q2).1 | exact Decidable.not_not.1 (q2).1
    have hzs := Bg.zv_s hRt
    refine V.go [.k (.int .u64 0)] (fun _ _ => by kernel_rfl) fun _ _ G4 => ?_
    intro S4 t4
    refine V.go [.k (pp ((G1 0).b) 1),
      .ld 0 1 false (fun _ => [a_Digitss.v]),
      .ln (kf false (.f 0) a_Digits (fun _ => a_Digitss)),
      .k (iv 0)] (fun _ _ => by kernel_rfl) fun _ _ G5 => ?_
    intro S5 t5
    refine V.loop (γ := Int × Int) (fun ⟨u, k0⟩ => ⟨[(1, pp ((G1 0).b) 0), (4, .int .u64 u), (17, a_Digitss.v), (18, iv (a_Digits.length : Int)), (19, iv k0)], [fs false a_Digits a_Digitss], [.blk ((G1 0).b) (ca (DBig.mk a_Sign ⟨a_Digits, a_Digitss⟩)) 31]⟩) (fun ⟨u, k0⟩ => (0 ≤ k0) ∧ (k0 ≤ (a_Digits.length : Int)) ∧ (u = (Bg.nv (a_Digits.take k0.toNat) : Int)) ∧ (u < 9223372036854775808 * 2)) (fun ⟨u, k0⟩ => ((a_Digits.length : Int) - k0).toNat) (0, 0) (by kernel_rfl) [0] (by kernel_rfl) ?_ ?_
    · skip
      refine ⟨?_, ?_, ?_, ?_⟩
      · show 0 ≤ (0 : Int)
        omega
      · show (0 : Int) ≤ (a_Digits.length : Int)
        omega
      · show (0 : Int) = (Bg.nv (a_Digits.take (0 : Int).toNat) : Int)
        simp [Bg.nv]
      · show (0 : Int) < 9223372036854775808 * 2
        omega
    · rintro ⟨u, k0⟩ hF1 kw6 Z1 hZ1
      have hF1 : (0 ≤ k0) ∧ (k0 ≤ (a_Digits.length : Int)) ∧ (u = (Bg.nv (a_Digits.take k0.toNat) : Int)) ∧ (u < 9223372036854775808 * 2) := hF1
      obtain ⟨hf1, hf2, hf3, hf4⟩ := hF1
      clear kw6
      refine V.go [.k (bv (decide (k0 < (a_Digits.length : Int))))] (fun _ _ => by kernel_rfl) fun _ _ G6 => ?_
      intro S6 t6
      refine V.cond (b := decide (k0 < (a_Digits.length : Int))) iDT iDF (by kernel_rfl) (fun q3 => ?_) (fun q4 => ?_)
      · skip
        rcases (by omega : k0 = 0 ∨ k0 = 1 ∨ k0 = 2 ∨ k0 = 3) with hcs1 | hcs2 | hcs3 | hcs4
        · skip
          refine V.alt (fun (zz : Int) => (⟨[(1, pp ((G1 0).b) 0), (4, .int .u64 u), (17, a_Digitss.v), (18, iv (a_Digits.length : Int)), (19, iv zz), (20, bv (decide (k0 < (a_Digits.length : Int))))], [fs false a_Digits a_Digitss], [.blk ((G1 0).b) (ca (DBig.mk a_Sign ⟨a_Digits, a_Digitss⟩)) 31]⟩ : St)) hcs1 [0] (by kernel_rfl) ?_
          refine nm (a_Digits.getD (0 : Int).toNat default : Int) fun v1 hv1 => ?_
          refine V.go [.k (iv 0),
            .ix g0 (kf false (.f 0) a_Digits (fun _ => a_Digitss)) 0 (fun _ => ⟨by omega, by omega⟩),
            .le g0 (kf false (.f 0) a_Digits (fun _ => a_Digitss)) (0 : Int) none false v1 hv1 (fun _ => ⟨by omega, by omega⟩) false (fun _ => [iv v1]),
            .k (iv 0),
            .k (iv v1)] (fun _ _ => by kernel_rfl) fun _ _ G7 => ?_
          intro S7 t7
          refine V.go [.k (iv 0),
            .kb false,
            .kb false,
            .dead,
            .dead,
            .kb false] (fun _ _ => by kernel_rfl) fun _ _ G8 => ?_
          intro S8 t8
          refine V.condF (by kernel_rfl) ?_
          have huc : u = (Bg.nv (a_Digits.take 0) : Int) := by rw [hf3, hcs1]; rfl
          have hlt := Bg.take_lt hRt.dg 0
          have hst := Bg.int_step (k := 0) (v := v1) (by omega) hv1 hRt.dg
          have hpw : (1048576 : Nat) ^ 0 = 1 := by decide
          rw [hpw] at hst hlt
          have hst0 := hst.2
          have hst1 : Bg.nv (a_Digits.take 1) = _ := hst.1
          refine nm (v1 % 18446744073709551616 : Int) fun n1 hn1 => ?_
          refine nm (n1 * 1 : Int) fun n2 hn2 => ?_
          refine nm (u + n2 : Int) fun n3 hn3 => ?_
          refine V.go [.k (.int .u64 u),
            .k (iv v1),
            .ek g0 .u64 v1 n1 (fun _ => by rw [wrapU64, hn1]),
            .k (iv 0),
            .k (iv 0),
            .shlm g0 .u64 .i64 n1 0 n2 0 (fun _ => ⟨rfl, by decide, by show _ = IntKind.u64.wrap (n1 * 1); rw [wrapU64]; omega⟩),
            .oru g0 u n2 n1 n3 0 (by rw [hn2]; rfl) (fun _ => ⟨by decide, by omega, ⟨by omega, by show _ < (1 : Int); omega⟩, by rw [hn3, hn2]; show _ = _ * (1 : Int) + _; omega, by omega⟩),
            .k (.int .u64 n3)] (fun _ _ => by kernel_rfl) fun _ _ G9 => ?_
          intro S9 t9
          refine V.go [.k (iv 1),
            .k (iv 1)] (fun _ _ => by kernel_rfl) fun _ _ G10 => ?_
          intro S10 t10
          refine V.rnd hZ1 (n3, 1) [0] (by kernel_rfl) ?_ ?_
          · skip
            refine ⟨?_, ?_, ?_, ?_⟩
            · show 0 ≤ (1 : Int)
              omega
            · show (1 : Int) ≤ (a_Digits.length : Int)
              omega
            · show n3 = (Bg.nv (a_Digits.take (1 : Int).toNat) : Int)
              show n3 = (Bg.nv (a_Digits.take 1) : Int); rw [hst1, hn3, hn2]; omega
            · show n3 < 9223372036854775808 * 2
              omega
          · show ((a_Digits.length : Int) - (1 : Int)).toNat < ((a_Digits.length : Int) - k0).toNat
            omega
        · skip
          refine V.alt (fun (zz : Int) => (⟨[(1, pp ((G1 0).b) 0), (4, .int .u64 u), (17, a_Digitss.v), (18, iv (a_Digits.length : Int)), (19, iv zz), (20, bv (decide (k0 < (a_Digits.length : Int))))], [fs false a_Digits a_Digitss], [.blk ((G1 0).b) (ca (DBig.mk a_Sign ⟨a_Digits, a_Digitss⟩)) 31]⟩ : St)) hcs2 [0] (by kernel_rfl) ?_
          refine nm (a_Digits.getD (1 : Int).toNat default : Int) fun v2 hv2 => ?_
          refine V.go [.k (iv 1),
            .ix g0 (kf false (.f 0) a_Digits (fun _ => a_Digitss)) 1 (fun _ => ⟨by omega, by omega⟩),
            .le g0 (kf false (.f 0) a_Digits (fun _ => a_Digitss)) (1 : Int) none false v2 hv2 (fun _ => ⟨by omega, by omega⟩) false (fun _ => [iv v2]),
            .k (iv 1),
            .k (iv v2)] (fun _ _ => by kernel_rfl) fun _ _ G11 => ?_
          intro S11 t11
          refine V.go [.k (iv 1),
            .kb false,
            .kb false,
            .dead,
            .dead,
            .kb false] (fun _ _ => by kernel_rfl) fun _ _ G12 => ?_
          intro S12 t12
          refine V.condF (by kernel_rfl) ?_
          have huc : u = (Bg.nv (a_Digits.take 1) : Int) := by rw [hf3, hcs2]; rfl
          have hlt := Bg.take_lt hRt.dg 1
          have hst := Bg.int_step (k := 1) (v := v2) (by omega) hv2 hRt.dg
          have hpw : (1048576 : Nat) ^ 1 = 1048576 := by decide
          rw [hpw] at hst hlt
          have hst0 := hst.2
          have hst1 : Bg.nv (a_Digits.take 2) = _ := hst.1
          refine nm (v2 % 18446744073709551616 : Int) fun n4 hn4 => ?_
          refine nm (n4 * 1048576 : Int) fun n5 hn5 => ?_
          refine nm (u + n5 : Int) fun n6 hn6 => ?_
          refine V.go [.k (.int .u64 u),
            .k (iv v2),
            .ek g0 .u64 v2 n4 (fun _ => by rw [wrapU64, hn4]),
            .k (iv 1),
            .k (iv 20),
            .shlm g0 .u64 .i64 n4 20 n5 20 (fun _ => ⟨rfl, by decide, by show _ = IntKind.u64.wrap (n4 * 1048576); rw [wrapU64]; omega⟩),
            .oru g0 u n5 n4 n6 20 (by rw [hn5]; rfl) (fun _ => ⟨by decide, by omega, ⟨by omega, by show _ < (1048576 : Int); omega⟩, by rw [hn6, hn5]; show _ = _ * (1048576 : Int) + _; omega, by omega⟩),
            .k (.int .u64 n6)] (fun _ _ => by kernel_rfl) fun _ _ G13 => ?_
          intro S13 t13
          refine V.go [.k (iv 2),
            .k (iv 2)] (fun _ _ => by kernel_rfl) fun _ _ G14 => ?_
          intro S14 t14
          refine V.rnd hZ1 (n6, 2) [0] (by kernel_rfl) ?_ ?_
          · skip
            refine ⟨?_, ?_, ?_, ?_⟩
            · show 0 ≤ (2 : Int)
              omega
            · show (2 : Int) ≤ (a_Digits.length : Int)
              omega
            · show n6 = (Bg.nv (a_Digits.take (2 : Int).toNat) : Int)
              show n6 = (Bg.nv (a_Digits.take 2) : Int); rw [hst1, hn6, hn5]; omega
            · show n6 < 9223372036854775808 * 2
              omega
          · show ((a_Digits.length : Int) - (2 : Int)).toNat < ((a_Digits.length : Int) - k0).toNat
            omega
        · skip
          refine V.alt (fun (zz : Int) => (⟨[(1, pp ((G1 0).b) 0), (4, .int .u64 u), (17, a_Digitss.v), (18, iv (a_Digits.length : Int)), (19, iv zz), (20, bv (decide (k0 < (a_Digits.length : Int))))], [fs false a_Digits a_Digitss], [.blk ((G1 0).b) (ca (DBig.mk a_Sign ⟨a_Digits, a_Digitss⟩)) 31]⟩ : St)) hcs3 [0] (by kernel_rfl) ?_
          refine nm (a_Digits.getD (2 : Int).toNat default : Int) fun v3 hv3 => ?_
          refine V.go [.k (iv 2),
            .ix g0 (kf false (.f 0) a_Digits (fun _ => a_Digitss)) 2 (fun _ => ⟨by omega, by omega⟩),
            .le g0 (kf false (.f 0) a_Digits (fun _ => a_Digitss)) (2 : Int) none false v3 hv3 (fun _ => ⟨by omega, by omega⟩) false (fun _ => [iv v3]),
            .k (iv 2),
            .k (iv v3)] (fun _ _ => by kernel_rfl) fun _ _ G15 => ?_
          intro S15 t15
          refine V.go [.k (iv 2),
            .kb false,
            .kb false,
            .dead,
            .dead,
            .kb false] (fun _ _ => by kernel_rfl) fun _ _ G16 => ?_
          intro S16 t16
          refine V.condF (by kernel_rfl) ?_
          have huc : u = (Bg.nv (a_Digits.take 2) : Int) := by rw [hf3, hcs3]; rfl
          have hlt := Bg.take_lt hRt.dg 2
          have hst := Bg.int_step (k := 2) (v := v3) (by omega) hv3 hRt.dg
          have hpw : (1048576 : Nat) ^ 2 = 1099511627776 := by decide
          rw [hpw] at hst hlt
          have hst0 := hst.2
          have hst1 : Bg.nv (a_Digits.take 3) = _ := hst.1
          refine nm (v3 % 18446744073709551616 : Int) fun n7 hn7 => ?_
          refine nm (n7 * 1099511627776 : Int) fun n8 hn8 => ?_
          refine nm (u + n8 : Int) fun n9 hn9 => ?_
          refine V.go [.k (.int .u64 u),
            .k (iv v3),
            .ek g0 .u64 v3 n7 (fun _ => by rw [wrapU64, hn7]),
            .k (iv 2),
            .k (iv 40),
            .shlm g0 .u64 .i64 n7 40 n8 40 (fun _ => ⟨rfl, by decide, by show _ = IntKind.u64.wrap (n7 * 1099511627776); rw [wrapU64]; omega⟩),
            .oru g0 u n8 n7 n9 40 (by rw [hn8]; rfl) (fun _ => ⟨by decide, by omega, ⟨by omega, by show _ < (1099511627776 : Int); omega⟩, by rw [hn9, hn8]; show _ = _ * (1099511627776 : Int) + _; omega, by omega⟩),
            .k (.int .u64 n9)] (fun _ _ => by kernel_rfl) fun _ _ G17 => ?_
          intro S17 t17
          refine V.go [.k (iv 3),
            .k (iv 3)] (fun _ _ => by kernel_rfl) fun _ _ G18 => ?_
          intro S18 t18
          refine V.rnd hZ1 (n9, 3) [0] (by kernel_rfl) ?_ ?_
          · skip
            refine ⟨?_, ?_, ?_, ?_⟩
            · show 0 ≤ (3 : Int)
              omega
            · show (3 : Int) ≤ (a_Digits.length : Int)
              omega
            · show n9 = (Bg.nv (a_Digits.take (3 : Int).toNat) : Int)
              show n9 = (Bg.nv (a_Digits.take 3) : Int); rw [hst1, hn9, hn8]; omega
            · show n9 < 9223372036854775808 * 2
              omega
          · show ((a_Digits.length : Int) - (3 : Int)).toNat < ((a_Digits.length : Int) - k0).toNat
            omega
        · skip
          refine V.alt (fun (zz : Int) => (⟨[(1, pp ((G1 0).b) 0), (4, .int .u64 u), (17, a_Digitss.v), (18, iv (a_Digits.length : Int)), (19, iv zz), (20, bv (decide (k0 < (a_Digits.length : Int))))], [fs false a_Digits a_Digitss], [.blk ((G1 0).b) (ca (DBig.mk a_Sign ⟨a_Digits, a_Digitss⟩)) 31]⟩ : St)) hcs4 [0] (by kernel_rfl) ?_
          refine nm (a_Digits.getD (3 : Int).toNat default : Int) fun v4 hv4 => ?_
          refine V.go [.k (iv 3),
            .ix g0 (kf false (.f 0) a_Digits (fun _ => a_Digitss)) 3 (fun _ => ⟨by omega, by omega⟩),
            .le g0 (kf false (.f 0) a_Digits (fun _ => a_Digitss)) (3 : Int) none false v4 hv4 (fun _ => ⟨by omega, by omega⟩) false (fun _ => [iv v4]),
            .k (iv 3),
            .k (iv v4)] (fun _ _ => by kernel_rfl) fun _ _ G19 => ?_
          intro S19 t19
          refine V.go [.k (iv 3),
            .kb true,
            .kb true,
            .k (iv v4),
            .k (bv (decide (8 < v4))),
            .k (bv (decide (8 < v4)))] (fun _ _ => by kernel_rfl) fun _ _ G20 => ?_
          intro S20 t20
          refine V.cond (b := decide (8 < v4)) iDT iDF (by kernel_rfl) (fun q5 => ?_) (fun q6 => ?_)
          · skip
            have hNo := Bg.int_top hRt (by omega) hv4 (by omega)
            refine V.go [.k (iv 0),
              .kb false] (fun _ _ => by kernel_rfl) fun _ _ G21 => ?_
            intro S21 t21
            have e0 : (0 : Int) = Bg.intV a_Sign a_Digits := by
              exact (Bg.intV_n hNo).symm
            have e1 : false = decide (Bg.inI a_Sign a_Digits) := by
              exact (decide_eq_false hNo).symm
            exact V.ret [0, 0] [] [] [] [] [] (.tuple #[iv 0, bv false]) (fun _ _ => by kernel_rfl) (fun _ _ => (Eq.trans (by kernel_rfl) (cong2 (fun (x0 : Int) (x1 : Bool) => (.tuple #[iv x0, bv x1] : Value)) e0 e1)).trans (by kernel_rfl)) (fun _ _ => trivial)
          · skip
            have huc : u = (Bg.nv (a_Digits.take 3) : Int) := by rw [hf3, hcs4]; rfl
            have hlt := Bg.take_lt hRt.dg 3
            have hst := Bg.int_step (k := 3) (v := v4) (by omega) hv4 hRt.dg
            have hpw : (1048576 : Nat) ^ 3 = 1152921504606846976 := by decide
            rw [hpw] at hst hlt
            have hst0 := hst.2
            have hst1 : Bg.nv (a_Digits.take 4) = _ := hst.1
            refine nm (v4 % 18446744073709551616 : Int) fun n10 hn10 => ?_
            refine nm (n10 * 1152921504606846976 : Int) fun n11 hn11 => ?_
            refine nm (u + n11 : Int) fun n12 hn12 => ?_
            refine V.go [.k (.int .u64 u),
              .k (iv v4),
              .ek g0 .u64 v4 n10 (fun _ => by rw [wrapU64, hn10]),
              .k (iv 3),
              .k (iv 60),
              .shlm g0 .u64 .i64 n10 60 n11 60 (fun _ => ⟨rfl, by decide, by show _ = IntKind.u64.wrap (n10 * 1152921504606846976); rw [wrapU64]; omega⟩),
              .oru g0 u n11 n10 n12 60 (by rw [hn11]; rfl) (fun _ => ⟨by decide, by omega, ⟨by omega, by show _ < (1152921504606846976 : Int); omega⟩, by rw [hn12, hn11]; show _ = _ * (1152921504606846976 : Int) + _; omega, by omega⟩),
              .k (.int .u64 n12)] (fun _ _ => by kernel_rfl) fun _ _ G22 => ?_
            intro S22 t22
            refine V.go [.k (iv 4),
              .k (iv 4)] (fun _ _ => by kernel_rfl) fun _ _ G23 => ?_
            intro S23 t23
            refine V.rnd hZ1 (n12, 4) [0] (by kernel_rfl) ?_ ?_
            · skip
              refine ⟨?_, ?_, ?_, ?_⟩
              · show 0 ≤ (4 : Int)
                omega
              · show (4 : Int) ≤ (a_Digits.length : Int)
                omega
              · show n12 = (Bg.nv (a_Digits.take (4 : Int).toNat) : Int)
                show n12 = (Bg.nv (a_Digits.take 4) : Int); rw [hst1, hn12, hn11]; omega
              · show n12 < 9223372036854775808 * 2
                omega
            · show ((a_Digits.length : Int) - (4 : Int)).toNat < ((a_Digits.length : Int) - k0).toNat
              omega
      · skip
        have hall : u = (Bg.nv a_Digits : Int) := by rw [hf3, List.take_of_length_le (by omega)]
        refine nm ((decide (a_Sign < 0)) && (decide (u ≤ 9223372036854775808)) : Bool) fun p2 hp2 => ?_
        refine V.go [.k (pp ((G1 0).b) 0),
          .ld 0 0 false (fun _ => [iv a_Sign]),
          .k (bv (decide (a_Sign < 0))),
          .k (bv (decide (a_Sign < 0))),
          .k (.int .u64 u),
          .k (bv (decide (u ≤ 9223372036854775808))),
          .andn g0 false (decide (a_Sign < 0)) (decide (u ≤ 9223372036854775808)) p2 hp2,
          .k (bv p2)] (fun _ _ => by kernel_rfl) fun _ _ G24 => ?_
        intro S24 t24
        refine V.cond (b := p2) (iN hp2 (iAT iDT iDT)) (iN hp2 (iAF iDF iDF)) (by kernel_rfl) (fun q7 => ?_) (fun q8 => ?_)
        · skip
          have hYes : Bg.inI a_Sign a_Digits := ⟨hRt, by omega⟩
          refine nm ((0 - u) % 18446744073709551616 : Int) fun n13 hn13 => ?_
          refine V.go [.k (.int .u64 u),
            .ek g0 .u64 (0 - u) n13 (fun _ => by rw [wrapU64, hn13]),
            .ek g0 .i64 n13 (-u) (fun _ => by rw [IntKind.wrap_i64]; omega),
            .k (iv (-u)),
            .kb true] (fun _ _ => by kernel_rfl) fun _ _ G25 => ?_
          intro S25 t25
          have e0 : (-u) = Bg.intV a_Sign a_Digits := by
            rw [Bg.intV_y hYes]; omega
          have e1 : true = decide (Bg.inI a_Sign a_Digits) := by
            exact (decide_eq_true hYes).symm
          exact V.ret [0, 0] [] [] [] [] [] (.tuple #[iv (-u), bv true]) (fun _ _ => by kernel_rfl) (fun _ _ => (Eq.trans (by kernel_rfl) (cong2 (fun (x0 : Int) (x1 : Bool) => (.tuple #[iv x0, bv x1] : Value)) e0 e1)).trans (by kernel_rfl)) (fun _ _ => trivial)
        · skip
          refine nm ((decide (0 ≤ a_Sign)) && (decide (u < 9223372036854775808)) : Bool) fun p3 hp3 => ?_
          refine V.go [.k (pp ((G1 0).b) 0),
            .ld 0 0 false (fun _ => [iv a_Sign]),
            .k (bv (decide (0 ≤ a_Sign))),
            .k (bv (decide (0 ≤ a_Sign))),
            .k (.int .u64 u),
            .k (bv (decide (u < 9223372036854775808))),
            .andn g0 false (decide (0 ≤ a_Sign)) (decide (u < 9223372036854775808)) p3 hp3,
            .k (bv p3)] (fun _ _ => by kernel_rfl) fun _ _ G26 => ?_
          intro S26 t26
          refine V.cond (b := p3) (iN hp3 (iAT iDT iDT)) (iN hp3 (iAF iDF iDF)) (by kernel_rfl) (fun q9 => ?_) (fun q10 => ?_)
          · skip
            have hYes : Bg.inI a_Sign a_Digits := ⟨hRt, by omega⟩
            refine V.go [.k (.int .u64 u),
              .ek g0 .i64 u u (fun _ => by rw [IntKind.wrap_i64]; omega),
              .k (iv u),
              .kb true] (fun _ _ => by kernel_rfl) fun _ _ G27 => ?_
            intro S27 t27
            have e0 : u = Bg.intV a_Sign a_Digits := by
              rw [Bg.intV_y hYes]; omega
            have e1 : true = decide (Bg.inI a_Sign a_Digits) := by
              exact (decide_eq_true hYes).symm
            exact V.ret [0, 0] [] [] [] [] [] (.tuple #[iv u, bv true]) (fun _ _ => by kernel_rfl) (fun _ _ => (Eq.trans (by kernel_rfl) (cong2 (fun (x0 : Int) (x1 : Bool) => (.tuple #[iv x0, bv x1] : Value)) e0 e1)).trans (by kernel_rfl)) (fun _ _ => trivial)
          · skip
            have hNo : ¬ Bg.inI a_Sign a_Digits := fun hi => by have := hi.2; omega
            refine V.go [.k (iv 0),
              .kb false] (fun _ _ => by kernel_rfl) fun _ _ G28 => ?_
            intro S28 t28
            have e0 : (0 : Int) = Bg.intV a_Sign a_Digits := by
              exact (Bg.intV_n hNo).symm
            have e1 : false = decide (Bg.inI a_Sign a_Digits) := by
              exact (decide_eq_false hNo).symm
            exact V.ret [0, 0] [] [] [] [] [] (.tuple #[iv 0, bv false]) (fun _ _ => by kernel_rfl) (fun _ _ => (Eq.trans (by kernel_rfl) (cong2 (fun (x0 : Int) (x1 : Bool) => (.tuple #[iv x0, bv x1] : Value)) e0 e1)).trans (by kernel_rfl)) (fun _ _ => trivial)
theorem int_ctv (a_Sign : Int) (a_Digits : List Int) (a_Digitss : SV) (rv0 : Int) (erv0 : rv0 = Bg.intV a_Sign a_Digits) :
    Cp Try.prog 44 #[ag (DBig.mk a_Sign ⟨a_Digits, a_Digitss⟩)] [fs true a_Digits a_Digitss] (.tuple #[iv rv0, bv (decide (Bg.inI a_Sign a_Digits))]) := by
  subst erv0; exact int_ct a_Sign a_Digits a_Digitss 

end Kb
set_option linter.unusedVariables false
set_option linter.unusedSectionVars false
set_option linter.unusedSimpArgs false
namespace Kb
open Go Go.Proofs
set_option maxRecDepth 10000 in
theorem cmpd_ct (a : List Int) (as_ : SV) (b : List Int) (bs : SV) (hda : Bg.Dg a) (hdb : Bg.Dg b) (hza : Bg.Nz a) (hzb : Bg.Nz b) :
    Cp Try.prog 84 #[as_.v, bs.v] [fs true a as_, fs true b bs] (iv (Bg.cmpI (Bg.nv a) (Bg.nv b))) := by
  refine V.fn mo Try.func84 41 0 (by kernel_rfl) fun w H ε k0 => ?_
  obtain ⟨⟨kl1, -⟩, ⟨kl2, -⟩, -⟩ : Lq a as_.v ∧ Lq b bs.v ∧ True := kn k0 (by kernel_rfl)
  clear k0
  refine V.go [.k (iv 0)] (fun _ _ => by kernel_rfl) fun _ _ G1 => ?_
  intro S1 t1
  refine V.go [.k (as_.v),
    .ln (kf false (.f 0) a (fun _ => as_)),
    .k (bs.v),
    .ln (kf false (.f 1) b (fun _ => bs)),
    .k (bv (!(decide ((a.length : Int) = (b.length : Int)))))] (fun _ _ => by kernel_rfl) fun _ _ G2 => ?_
  intro S2 t2
  refine V.cond (b := !(decide ((a.length : Int) = (b.length : Int)))) (iNT iDF) (iNF iDT) (by kernel_rfl) (fun q1 => ?_) (fun q2 => ?_)
  · skip
    refine V.go [.k (as_.v),
      .ln (kf false (.f 0) a (fun _ => as_)),
      .k (bs.v),
      .ln (kf false (.f 1) b (fun _ => bs)),
      .cp g0 4 101 [] (fun _ G => cmp_ct (a.length : Int) (b.length : Int)),
      .k (iv (Bg.cmpI (a.length : Int) (b.length : Int)))] (fun _ _ => by kernel_rfl) fun _ _ G3 => ?_
    intro S3 t3
    have e0 : (Bg.cmpI (a.length : Int) (b.length : Int)) = Bg.cmpI (Bg.nv a) (Bg.nv b) := by
      exact Bg.cmp_lens hda hdb hza hzb q1
    exact V.ret [0] [] [] [] [] [] (iv (Bg.cmpI (a.length : Int) (b.length : Int))) (fun _ _ => by kernel_rfl) (fun _ _ => (Eq.trans (by kernel_rfl) (cong1 (fun (x0 : Int) => (iv x0 : Value)) e0)).trans (by kernel_rfl)) (fun _ _ => trivial)
  · skip
    refine nm ((a.length : Int) - 1 : Int) fun n1 hn1 => ?_
    refine V.go [.k (as_.v),
      .ln (kf false (.f 0) a (fun _ => as_)),
      .ar ((a.length : Int) - 1) n1 hn1 (by omega) (by omega),
      .k (iv n1)] (fun _ _ => by kernel_rfl) fun _ _ G4 => ?_
    intro S4 t4
    refine V.loop (γ := Int) (fun i => ⟨[(0, as_.v), (1, bs.v), (5, iv i)], [fs false a as_, fs false b bs], []⟩) (fun i => (-1 ≤ i) ∧ (i < (a.length : Int)) ∧ (a.drop (i + 1).toNat = b.drop (i + 1).toNat)) (fun i => (i + 1).toNat) n1 (by kernel_rfl) [0, 1] (by kernel_rfl) ?_ ?_
    · skip
      refine ⟨?_, ?_, ?_⟩
      · show -1 ≤ n1
        omega
      · show n1 < (a.length : Int)
        omega
      · show a.drop (n1 + 1).toNat = b.drop (n1 + 1).toNat
        rw [List.drop_of_length_le (by omega), List.drop_of_length_le (by omega)]
    · rintro i hF1 kw5 Z1 hZ1
      have hF1 : (-1 ≤ i) ∧ (i < (a.length : Int)) ∧ (a.drop (i + 1).toNat = b.drop (i + 1).toNat) := hF1
      obtain ⟨hf1, hf2, hf3⟩ := hF1
      clear kw5
      refine V.go [.k (iv i),
        .k (bv (decide (0 ≤ i)))] (fun _ _ => by kernel_rfl) fun _ _ G5 => ?_
      intro S5 t5
      refine V.cond (b := decide (0 ≤ i)) iDT iDF (by kernel_rfl) (fun q3 => ?_) (fun q4 => ?_)
      · skip
        refine nm (a.getD i.toNat default : Int) fun v1 hv1 => ?_
        refine nm (b.getD i.toNat default : Int) fun v2 hv2 => ?_
        refine V.go [.k (as_.v),
          .k (iv i),
          .ix g0 (kf false (.f 0) a (fun _ => as_)) i (fun _ => ⟨by omega, by omega⟩),
          .le g0 (kf false (.f 0) a (fun _ => as_)) i none false v1 hv1 (fun _ => ⟨by omega, by omega⟩) false (fun _ => [iv v1]),
          .k (bs.v),
          .k (iv i),
          .ix g0 (kf false (.f 1) b (fun _ => bs)) i (fun _ => ⟨by omega, by omega⟩),
          .le g0 (kf false (.f 1) b (fun _ => bs)) i none false v2 hv2 (fun _ => ⟨by omega, by omega⟩) false (fun _ => [iv v2]),
          .k (bv (!(decide (v1 = v2))))] (fun _ _ => by kernel_rfl) fun _ _ G6 => ?_
        intro S6 t6
        refine V.cond (b := !(decide (v1 = v2))) (iNT iDF) (iNF iDT) (by kernel_rfl) (fun q5 => ?_) (fun q6 => ?_)
        · skip
          refine V.go [.k (as_.v),
            .k (iv i),
            .ix g0 (kf false (.f 0) a (fun _ => as_)) i (fun _ => ⟨by omega, by omega⟩),
            .le g0 (kf false (.f 0) a (fun _ => as_)) i none false v1 hv1 (fun _ => ⟨by omega, by omega⟩) false (fun _ => [iv v1]),
            .k (bs.v),
            .k (iv i),
            .ix g0 (kf false (.f 1) b (fun _ => bs)) i (fun _ => ⟨by omega, by omega⟩),
            .le g0 (kf false (.f 1) b (fun _ => bs)) i none false v2 hv2 (fun _ => ⟨by omega, by omega⟩) false (fun _ => [iv v2]),
            .cp g0 8 101 [] (fun _ G => cmp_ct v1 v2),
            .k (iv (Bg.cmpI v1 v2))] (fun _ _ => by kernel_rfl) fun _ _ G7 => ?_
          intro S7 t7
          have e0 : (Bg.cmpI v1 v2) = Bg.cmpI (Bg.nv a) (Bg.nv b) := by
            rw [hv1, hv2]; exact Bg.cmp_ne (i := i.toNat) hda hdb (by omega) (by omega) (by rw [show i.toNat + 1 = (i + 1).toNat by omega]; exact hf3) (by have hne := q5; rw [hv1, hv2] at hne; exact hne)
          exact V.ret [0] [] [] [] [] [] (iv (Bg.cmpI v1 v2)) (fun _ _ => by kernel_rfl) (fun _ _ => (Eq.trans (by kernel_rfl) (cong1 (fun (x0 : Int) => (iv x0 : Value)) e0)).trans (by kernel_rfl)) (fun _ _ => trivial)
        · skip
          refine V.go [.k (iv i),
            .a (i - 1) (by omega) (by omega),
            .k (iv (i - 1))] (fun _ _ => by kernel_rfl) fun _ _ G8 => ?_
          intro S8 t8
          refine V.rnd hZ1 (i - 1) [0, 1] (by kernel_rfl) ?_ ?_
          · skip
            refine ⟨?_, ?_, ?_⟩
            · show -1 ≤ (i - 1)
              omega
            · show (i - 1) < (a.length : Int)
              omega
            · show a.drop ((i - 1) + 1).toNat = b.drop ((i - 1) + 1).toNat
              rw [show (i - 1 + 1).toNat = i.toNat by omega]; exact Bg.drop_eq (by omega) (by omega) (by rw [show i.toNat + 1 = (i + 1).toNat by omega]; exact hf3) (by have he := q6; rw [hv1, hv2] at he; exact he)
          · show ((i - 1) + 1).toNat < (i + 1).toNat
            omega
      · skip
        refine V.go [.k (iv 0)] (fun _ _ => by kernel_rfl) fun _ _ G9 => ?_
        intro S9 t9
        have e0 : (0 : Int) = Bg.cmpI (Bg.nv a) (Bg.nv b) := by
          have hdr := hf3
          rw [show (i + 1).toNat = 0 by omega, List.drop_zero, List.drop_zero] at hdr
          rw [hdr]; unfold Bg.cmpI; rw [if_neg (by omega), if_pos rfl]
        exact V.ret [0] [] [] [] [] [] (iv 0) (fun _ _ => by kernel_rfl) (fun _ _ => (Eq.trans (by kernel_rfl) (cong1 (fun (x0 : Int) => (iv x0 : Value)) e0)).trans (by kernel_rfl)) (fun _ _ => trivial)
theorem cmpd_ctv (a : List Int) (as_ : SV) (b : List Int) (bs : SV) (hda : Bg.Dg a) (hdb : Bg.Dg b) (hza : Bg.Nz a) (hzb : Bg.Nz b) (rv0 : Int) (erv0 : rv0 = Bg.cmpI (Bg.nv a) (Bg.nv b)) :
    Cp Try.prog 84 #[as_.v, bs.v] [fs true a as_, fs true b bs] (iv rv0) := by
  subst erv0; exact cmpd_ct a as_ b bs hda hdb hza hzb

set_option maxRecDepth 10000 in
theorem Cmp_ct (a_Sign : Int) (a_Digits : List Int) (a_Digitss : SV) (b_Sign : Int) (b_Digits : List Int) (b_Digitss : SV) :
    Cp Try.prog 87 #[ag (DBig.mk a_Sign ⟨a_Digits, a_Digitss⟩), ag (DBig.mk b_Sign ⟨b_Digits, b_Digitss⟩)] [fs true a_Digits a_Digitss, fs true b_Digits b_Digitss] (iv (if (Bg.RtB a_Sign a_Digits ∧ Bg.RtB b_Sign b_Digits) then Bg.cmpI (Bg.zv a_Sign a_Digits) (Bg.zv b_Sign b_Digits) else 0)) := by
  refine V.fn mo Try.func87 31 2 (by kernel_rfl) fun w H ε k0 => ?_
  obtain ⟨⟨kl1, -⟩, ⟨kl2, -⟩, -⟩ : Lq a_Digits a_Digitss.v ∧ Lq b_Digits b_Digitss.v ∧ True := kn k0 (by kernel_rfl)
  clear k0
  refine V.go [.nb 0 0 (fun b => pp b 0) 31 (fun _ => ca (DBig.mk a_Sign ⟨a_Digits, a_Digitss⟩)),
    .nb 1 1 (fun b => pp b 0) 31 (fun _ => ca (DBig.mk b_Sign ⟨b_Digits, b_Digitss⟩)),
    .k (iv 0)] (fun _ _ => by kernel_rfl) fun _ _ G1 => ?_
  intro S1 t1
  refine nm ((!(decide (Bg.RtB a_Sign a_Digits))) || (!(decide (Bg.RtB b_Sign b_Digits))) : Bool) fun p1 hp1 => ?_
  refine V.go [.ld 0 0 true (fun _ => Dat.cells (DBig.mk a_Sign ⟨a_Digits, a_Digitss⟩)),
    .cp g0 1 51 [(kf false (.f 0) a_Digits (fun _ => a_Digitss)).a] (fun _ G => bright_ct a_Sign a_Digits a_Digitss),
    .k (bv (!(decide (Bg.RtB a_Sign a_Digits)))),
    .k (bv (!(decide (Bg.RtB a_Sign a_Digits)))),
    .ld 1 0 true (fun _ => Dat.cells (DBig.mk b_Sign ⟨b_Digits, b_Digitss⟩)),
    .cp (gF (b := !(decide (Bg.RtB a_Sign a_Digits))) (iNF iDT)) 5 51 [(kf false (.f 1) b_Digits (fun _ => b_Digitss)).a] (fun hg G => bright_ct b_Sign b_Digits b_Digitss),
    .k (bv (!(decide (Bg.RtB b_Sign b_Digits)))),
    .orn g0 false (!(decide (Bg.RtB a_Sign a_Digits))) (!(decide (Bg.RtB b_Sign b_Digits))) p1 hp1] (fun _ _ => by kernel_rfl) fun _ _ G2 => ?_
  intro S2 t2
  refine V.cond (b := p1) (iN hp1 (iOT (iNT iDF) (iNT iDF))) (iN hp1 (iOF (iNF iDT) (iNF iDT))) (by kernel_rfl) (fun q1 => ?_) (fun q2 => ?_)
  · skip
    refine V.go [.k (iv 0)] (fun _ _ => by kernel_rfl) fun _ _ G3 => ?_
    intro S3 t3
    have e0 : (0 : Int) = if (Bg.RtB a_Sign a_Digits ∧ Bg.RtB b_Sign b_Digits) then Bg.cmpI (Bg.zv a_Sign a_Digits) (Bg.zv b_Sign b_Digits) else 0 := by
      symm; refine if_neg ?_; rintro ⟨h1, h2⟩; rcases q1 with h | h; exact h h1; exact h h2
    exact V.ret [0] [] [] [] [] [] (iv 0) (fun _ _ => by kernel_rfl) (fun _ _ => (Eq.trans (by kernel_rfl) (cong1 (fun (x0 : Int) => (iv x0 : Value)) e0)).trans (by kernel_rfl)) (fun _ _ => trivial)
  · skip
    have hRR : (Bg.RtB a_Sign a_Digits ∧ Bg.RtB b_Sign b_Digits) := by first | exact q2 | exact ⟨Decidable.not_not.1 (q2).1, Decidable.not_not.1 (q2).2⟩
    refine V.go [.k (pp ((G1 0).b) 0),
      .ld 0 0 false (fun _ => [iv a_Sign]),
      .k (pp ((G1 1).b) 0),
      .ld 1 0 false (fun _ => [iv b_Sign]),
      .k (bv (!(decide (a_Sign = b_Sign))))] (fun _ _ => by kernel_rfl) fun _ _ G4 => ?_
    intro S4 t4
    refine V.cond (b := !(decide (a_Sign = b_Sign))) (iNT iDF) (iNF iDT) (by kernel_rfl) (fun q3 => ?_) (fun q4 => ?_)
    · skip
      refine V.go [.k (pp ((G1 0).b) 0),
        .ld 0 0 false (fun _ => [iv a_Sign]),
        .k (pp ((G1 1).b) 0),
        .ld 1 0 false (fun _ => [iv b_Sign]),
        .cp g0 4 101 [] (fun _ G => cmp_ct a_Sign b_Sign),
        .k (iv (Bg.cmpI a_Sign b_Sign))] (fun _ _ => by kernel_rfl) fun _ _ G5 => ?_
      intro S5 t5
      have e0 : (Bg.cmpI a_Sign b_Sign) = if (Bg.RtB a_Sign a_Digits ∧ Bg.RtB b_Sign b_Digits) then Bg.cmpI (Bg.zv a_Sign a_Digits) (Bg.zv b_Sign b_Digits) else 0 := by
        rw [if_pos hRR, ← Bg.cmp_z hRR.1 hRR.2, if_neg q3]
      exact V.ret [0] [] [] [] [] [] (iv (Bg.cmpI a_Sign b_Sign)) (fun _ _ => by kernel_rfl) (fun _ _ => (Eq.trans (by kernel_rfl) (cong1 (fun (x0 : Int) => (iv x0 : Value)) e0)).trans (by kernel_rfl)) (fun _ _ => trivial)
    · skip
      have hsE : a_Sign = b_Sign := by first | exact q4 | exact Decidable.not_not.1 q4
      have hcB := Bg.cmpI_le (x := (Bg.nv a_Digits : Int)) (y := Bg.nv b_Digits)
      have hsB := Bg.sg_le hRR.1
      refine nm (a_Sign * (Bg.cmpI (Bg.nv a_Digits) (Bg.nv b_Digits)) : Int) fun n1 hn1 => ?_
      refine V.go [.k (pp ((G1 0).b) 0),
        .ld 0 0 false (fun _ => [iv a_Sign]),
        .k (pp ((G1 0).b) 1),
        .ld 0 1 false (fun _ => [a_Digitss.v]),
        .k (pp ((G1 1).b) 1),
        .ld 1 1 false (fun _ => [b_Digitss.v]),
        .cp g0 6 84 [(kf false (.f 0) a_Digits (fun _ => a_Digitss)).a, (kf false (.f 1) b_Digits (fun _ => b_Digitss)).a] (fun _ G => cmpd_ct a_Digits a_Digitss b_Digits b_Digitss hRR.1.dg hRR.2.dg hRR.1.nz hRR.2.nz),
        .ar (a_Sign * (Bg.cmpI (Bg.nv a_Digits) (Bg.nv b_Digits))) n1 hn1 (by rw [hn1]; exact (Bg.mul1 hsB hcB).1) (by rw [hn1]; exact (Bg.mul1 hsB hcB).2),
        .k (iv n1)] (fun _ _ => by kernel_rfl) fun _ _ G6 => ?_
      intro S6 t6
      have e0 : n1 = if (Bg.RtB a_Sign a_Digits ∧ Bg.RtB b_Sign b_Digits) then Bg.cmpI (Bg.zv a_Sign a_Digits) (Bg.zv b_Sign b_Digits) else 0 := by
        rw [if_pos hRR, ← Bg.cmp_z hRR.1 hRR.2, if_pos hsE]; first | rfl | assumption
      exact V.ret [0] [] [] [] [] [] (iv n1) (fun _ _ => by kernel_rfl) (fun _ _ => (Eq.trans (by kernel_rfl) (cong1 (fun (x0 : Int) => (iv x0 : Value)) e0)).trans (by kernel_rfl)) (fun _ _ => trivial)
theorem Cmp_ctv (a_Sign : Int) (a_Digits : List Int) (a_Digitss : SV) (b_Sign : Int) (b_Digits : List Int) (b_Digitss : SV) (rv0 : Int) (erv0 : rv0 = if (Bg.RtB a_Sign a_Digits ∧ Bg.RtB b_Sign b_Digits) then Bg.cmpI (Bg.zv a_Sign a_Digits) (Bg.zv b_Sign b_Digits) else 0) :
    Cp Try.prog 87 #[ag (DBig.mk a_Sign ⟨a_Digits, a_Digitss⟩), ag (DBig.mk b_Sign ⟨b_Digits, b_Digitss⟩)] [fs true a_Digits a_Digitss, fs true b_Digits b_Digitss] (iv rv0) := by
  subst erv0; exact Cmp_ct a_Sign a_Digits a_Digitss b_Sign b_Digits b_Digitss 

set_option maxRecDepth 10000 in
theorem same_ct (a_Sign : Int) (a_Digits : List Int) (a_Digitss : SV) (b_Sign : Int) (b_Digits : List Int) (b_Digitss : SV) :
    Cp Try.prog 54 #[ag (DBig.mk a_Sign ⟨a_Digits, a_Digitss⟩), ag (DBig.mk b_Sign ⟨b_Digits, b_Digitss⟩)] [fs true a_Digits a_Digitss, fs true b_Digits b_Digitss] (bv (decide (a_Sign = b_Sign ∧ a_Digits = b_Digits))) := by
  refine V.fn mo Try.func54 17 2 (by kernel_rfl) fun w H ε k0 => ?_
  obtain ⟨⟨kl1, -⟩, ⟨kl2, -⟩, -⟩ : Lq a_Digits a_Digitss.v ∧ Lq b_Digits b_Digitss.v ∧ True := kn k0 (by kernel_rfl)
  clear k0
  refine V.go [.nb 0 0 (fun b => pp b 0) 31 (fun _ => ca (DBig.mk a_Sign ⟨a_Digits, a_Digitss⟩)),
    .nb 1 1 (fun b => pp b 0) 31 (fun _ => ca (DBig.mk b_Sign ⟨b_Digits, b_Digitss⟩)),
    .kb false] (fun _ _ => by kernel_rfl) fun _ _ G1 => ?_
  intro S1 t1
  refine nm ((decide (a_Sign = b_Sign)) && (decide (a_Digits = b_Digits)) : Bool) fun p1 hp1 => ?_
  refine V.go [.k (pp ((G1 0).b) 0),
    .ld 0 0 false (fun _ => [iv a_Sign]),
    .k (pp ((G1 1).b) 0),
    .ld 1 0 false (fun _ => [iv b_Sign]),
    .k (bv (decide (a_Sign = b_Sign))),
    .k (bv (decide (a_Sign = b_Sign))),
    .k (pp ((G1 0).b) 1),
    .ld 0 1 false (fun _ => [a_Digitss.v]),
    .k (pp ((G1 1).b) 1),
    .ld 1 1 false (fun _ => [b_Digitss.v]),
    .cp (gT (b := decide (a_Sign = b_Sign)) iDT) 10 89 [(kf false (.f 0) a_Digits (fun _ => a_Digitss)).a, (kf false (.f 1) b_Digits (fun _ => b_Digitss)).a] (fun hg G => equali_ct a_Digits a_Digitss b_Digits b_Digitss),
    .andn g0 false (decide (a_Sign = b_Sign)) (decide (a_Digits = b_Digits)) p1 hp1,
    .k (bv p1)] (fun _ _ => by kernel_rfl) fun _ _ G2 => ?_
  intro S2 t2
  have e0 : p1 = decide (a_Sign = b_Sign ∧ a_Digits = b_Digits) := by
    refine Bool.eq_iff_iff.2 (Iff.trans (iN hp1 (iAT iDT iDT)) (Iff.trans ?_ decide_eq_true_iff.symm))
    exact Iff.rfl
  exact V.ret [0] [] [] [] [] [] (bv p1) (fun _ _ => by kernel_rfl) (fun _ _ => (Eq.trans (by kernel_rfl) (cong1 (fun (x0 : Bool) => (bv x0 : Value)) e0)).trans (by kernel_rfl)) (fun _ _ => trivial)

set_option maxRecDepth 10000 in
theorem neg_ct (a_Sign : Int) (a_Digits : List Int) (a_Digitss : SV) (hcl : a_Digits.length ≤ 1099511627776) :
    Ct Try.prog 76 #[ag (DBig.mk a_Sign ⟨a_Digits, a_Digitss⟩)] [fs true a_Digits a_Digitss] [] (fun g => ag (DBig.mk (Bg.oS (Bg.RtB a_Sign a_Digits) (-Bg.zv a_Sign a_Digits)) ⟨Bg.oD (Bg.RtB a_Sign a_Digits) (-Bg.zv a_Sign a_Digits), (g.ss 0)⟩)) (fun g => [fs true (Bg.oD (Bg.RtB a_Sign a_Digits) (-Bg.zv a_Sign a_Digits)) (g.ss 0)]) (fun g => []) (fun g => []) := by
  refine V.fn mo Try.func76 14 2 (by kernel_rfl) fun w H ε k0 => ?_
  obtain ⟨⟨kl1, -⟩, -⟩ : Lq a_Digits a_Digitss.v ∧ True := kn k0 (by kernel_rfl)
  clear k0
  refine V.go [.nb 0 0 (fun b => pp b 0) 31 (fun _ => ca (DBig.mk a_Sign ⟨a_Digits, a_Digitss⟩)),
    .nb 1 1 (fun b => pp b 0) 31 (fun _ => ca (DBig.mk 0 ⟨[], {}⟩))] (fun _ _ => by kernel_rfl) fun _ _ G1 => ?_
  intro S1 t1
  refine V.go [.ld 0 0 true (fun _ => Dat.cells (DBig.mk a_Sign ⟨a_Digits, a_Digitss⟩)),
    .cp g0 1 51 [(kf false (.f 0) a_Digits (fun _ => a_Digitss)).a] (fun _ G => bright_ct a_Sign a_Digits a_Digitss),
    .k (bv (!(decide (Bg.RtB a_Sign a_Digits))))] (fun _ _ => by kernel_rfl) fun _ _ G2 => ?_
  intro S2 t2
  refine V.cond (b := !(decide (Bg.RtB a_Sign a_Digits))) (iNT iDF) (iNF iDT) (by kernel_rfl) (fun q1 => ?_) (fun q2 => ?_)
  · skip
    refine V.go [.k (ag (DBig.mk 0 ⟨[], {}⟩)),
      .st 1 (fun _ => .blk ((G1 1).b) (ca (DBig.mk 0 ⟨[], {}⟩)) 31)] (fun _ _ => by kernel_rfl) fun _ _ G3 => ?_
    intro S3 t3
    refine V.nilF (α := Int) ?_
    have e1 : ([] : List Int) = Bg.oD (Bg.RtB a_Sign a_Digits) (-Bg.zv a_Sign a_Digits) := by
      exact (Bg.oD_n q1 _).symm
    rw [← e1]
    have e0 : (0 : Int) = Bg.oS (Bg.RtB a_Sign a_Digits) (-Bg.zv a_Sign a_Digits) := by
      exact (Bg.oS_n q1 _).symm
    exact V.ret [1] [{}] [fun _ => {}] [] [1] [] (ag (DBig.mk 0 ⟨([] : List Int), {}⟩)) (fun _ _ => by kernel_rfl) (fun _ _ => (Eq.trans (by kernel_rfl) (cong1 (fun (x0 : Int) => (.agg #[iv x0, SV.v ({})] : Value)) e0)).trans (by kernel_rfl)) (fun _ _ => trivial)
  · skip
    have hRt : Bg.RtB a_Sign a_Digits := by first | exact q2 | exact Decidable.not_not.1 q2
    have hsB := Bg.sg_le hRt
    refine V.reg [.k (pp ((G1 0).b) 0),
      .ld 0 0 false (fun _ => [iv a_Sign]),
      .ng a_Sign (-a_Sign) rfl (by omega) (by omega),
      .k (pp ((G1 0).b) 1),
      .ld 0 1 false (fun _ => [a_Digitss.v]),
      .ct g0 5 63 false [] [] [(kf false (.f 0) a_Digits (fun _ => a_Digitss)).a] (fun _ G => clonef_ct a_Digits a_Digitss (by omega)),
      .ctT g0 6 81 [(kf true (.g 5 0) a_Digits (fun G => (G 5).ss 0)).a] (fun _ G => signed_ct (-a_Sign) a_Digits ((G 5).ss 0) hRt.dg),
      .st 1 (fun G => .blk ((G1 1).b) (ca (DBig.mk (Bg.sg0 (Bg.nv a_Digits) (-a_Sign)) ⟨Bg.dig (Bg.nv a_Digits), (G 6).ss 0⟩)) 31)] (fun _ _ => by kernel_rfl) fun _ _ G4 kw4 => ?_
    intro S4 t4
    obtain ⟨⟨kl2, -⟩, ⟨kl3, -⟩, -⟩ : Lq a_Digits (((G4 5).ss 0).v) ∧ Lq (Bg.dig (Bg.nv a_Digits)) (((G4 6).ss 0).v) ∧ True := kn kw4 (by kernel_rfl)
    clear kw4
    have e1 : Bg.dig (Bg.nv a_Digits) = Bg.oD (Bg.RtB a_Sign a_Digits) (-Bg.zv a_Sign a_Digits) := by
      rw [Bg.oD_y hRt]; exact Bg.neg_d hRt
    rw [← e1]
    have e0 : (Bg.sg0 (Bg.nv a_Digits) (-a_Sign)) = Bg.oS (Bg.RtB a_Sign a_Digits) (-Bg.zv a_Sign a_Digits) := by
      rw [Bg.oS_y hRt]; exact Bg.neg_s hRt
    exact V.ret [1] [(G4 6).ss 0] [fun _ => {}] [] [2] [] (ag (DBig.mk (Bg.sg0 (Bg.nv a_Digits) (-a_Sign)) ⟨Bg.dig (Bg.nv a_Digits), (G4 6).ss 0⟩)) (fun _ _ => by kernel_rfl) (fun _ _ => (Eq.trans (by kernel_rfl) (cong1 (fun (x0 : Int) => (.agg #[iv x0, ((G4 6).ss 0).v] : Value)) e0)).trans (by kernel_rfl)) (fun _ _ => trivial)
theorem neg_ctv (a_Sign : Int) (a_Digits : List Int) (a_Digitss : SV) (hcl : a_Digits.length ≤ 1099511627776) (rv0 : Int) (erv0 : rv0 = Bg.oS (Bg.RtB a_Sign a_Digits) (-Bg.zv a_Sign a_Digits)) (rv1 : List Int) (erv1 : rv1 = Bg.oD (Bg.RtB a_Sign a_Digits) (-Bg.zv a_Sign a_Digits)) :
    Ct Try.prog 76 #[ag (DBig.mk a_Sign ⟨a_Digits, a_Digitss⟩)] [fs true a_Digits a_Digitss] [] (fun g => ag (DBig.mk rv0 ⟨rv1, (g.ss 0)⟩)) (fun g => [fs true rv1 (g.ss 0)]) (fun g => []) (fun g => []) := by
  subst erv0 erv1; exact neg_ct a_Sign a_Digits a_Digitss hcl

end Kb
set_option linter.unusedVariables false
set_option linter.unusedSectionVars false
set_option linter.unusedSimpArgs false
namespace Kb
open Go Go.Proofs
set_option maxRecDepth 10000 in
theorem add_ct (a : List Int) (as_ : SV) (b : List Int) (bs : SV) (hda : Bg.Dg a) (hdb : Bg.Dg b) (hla : a.length ≤ 1099511627776) (hlb : b.length ≤ 1099511627776) :
    Ct Try.prog 83 #[as_.v, bs.v] [fs true a as_, fs true b bs] [] (fun g => ((g.ss 0)).v) (fun g => [fs true (Bg.dig (Bg.nv a + Bg.nv b)) (g.ss 0)]) (fun g => []) (fun g => []) := by
  refine V.fn mo Try.func83 55 1 (by kernel_rfl) fun w H ε k0 => ?_
  obtain ⟨⟨kl1, -⟩, ⟨kl2, -⟩, -⟩ : Lq a as_.v ∧ Lq b bs.v ∧ True := kn k0 (by kernel_rfl)
  clear k0
  refine V.go [.k (.slice none 0 0)] (fun _ _ => by kernel_rfl) fun _ _ G1 => ?_
  intro S1 t1
  refine V.go [.k (as_.v),
    .ln (kf false (.f 0) a (fun _ => as_)),
    .k (bs.v),
    .ln (kf false (.f 1) b (fun _ => bs)),
    .k (bv (decide ((a.length : Int) < (b.length : Int))))] (fun _ _ => by kernel_rfl) fun _ _ G2 => ?_
  intro S2 t2
  refine V.cond (b := decide ((a.length : Int) < (b.length : Int))) iDT iDF (by kernel_rfl) (fun q1 => ?_) (fun q2 => ?_)
  · skip
    refine V.go [.k (bs.v),
      .k (as_.v),
      .k (bs.v),
      .k (as_.v)] (fun _ _ => by kernel_rfl) fun _ _ G3 => ?_
    intro S3 t3
    refine nm ((b.length : Int) + 1 : Int) fun n1 hn1 => ?_
    refine nm (List.replicate n1.toNat (0 : Int) : List Int) fun l1 hl1 => ?_
    have hl1n := congrArg List.length hl1; try simp only [List.length_append, List.length_cons, List.length_nil, List.length_replicate, List.length_set, List.length_take, List.length_drop, List.length_map, List.length_reverse, List.length_range] at hl1n
    refine V.go [.k (bs.v),
      .ln (kf false (.f 1) b (fun _ => bs)),
      .ar ((b.length : Int) + 1) n1 hn1 (by omega) (by omega),
      .mks 3 0 3 8 n1 l1 hl1 (by omega) (by omega) (by omega),
      .v fun G => ((G 3).s).v] (fun _ _ => by kernel_rfl) fun _ _ G4 => ?_
    intro S4 t4
    refine V.go [.k (iv 0)] (fun _ _ => by kernel_rfl) fun _ _ G5 => ?_
    intro S5 t5
    refine V.go [.k (bs.v),
      .ln (kf false (.f 1) b (fun _ => bs)),
      .k (iv 0)] (fun _ _ => by kernel_rfl) fun _ _ G6 => ?_
    intro S6 t6
    refine V.loop (γ := List Int × SV × Int × Int) (fun ⟨out, outs, carry, k0⟩ => ⟨[(0, bs.v), (1, as_.v), (5, outs.v), (6, iv carry), (20, bs.v), (21, iv (b.length : Int)), (22, iv k0)], [fs false b bs, fs false a as_], [os true 3 out outs]⟩) (fun ⟨out, outs, carry, k0⟩ => (0 ≤ k0) ∧ (k0 ≤ (b.length : Int)) ∧ (Bg.AddI b a out k0.toNat carry)) (fun ⟨out, outs, carry, k0⟩ => ((b.length : Int) - k0).toNat) (l1, (G4 3).s, 0, 0) (by kernel_rfl) [1, 0] (by kernel_rfl) ?_ ?_
    · skip
      refine ⟨?_, ?_, ?_⟩
      · show 0 ≤ (0 : Int)
        first | omega | rfl | (simp; done) | (subst_vars; simp; done)
      · show (0 : Int) ≤ (b.length : Int)
        first | omega | rfl | (simp; done) | (subst_vars; simp; done)
      · show Bg.AddI b a l1 (0 : Int).toNat (0 : Int)
        rw [hl1, show n1.toNat = b.length + 1 by omega]; exact Bg.add_start _ _
    · rintro ⟨out, outs, carry, k0⟩ hF1 kw7 Z1 hZ1
      have hF1 : (0 ≤ k0) ∧ (k0 ≤ (b.length : Int)) ∧ (Bg.AddI b a out k0.toNat carry) := hF1
      obtain ⟨hf1, hf2, hf3⟩ := hF1
      obtain ⟨-, -, ⟨kl3, -⟩, -⟩ : Lq b bs.v ∧ Lq a as_.v ∧ Lq out outs.v ∧ True := kn kw7 (by kernel_rfl)
      clear kw7
      have hol := hf3.len
      have hc0 := hf3.c0
      have hda_ := hdb.get' k0.toNat
      have hdb_ := hda.get' k0.toNat
      refine V.go [.k (bv (decide (k0 < (b.length : Int))))] (fun _ _ => by kernel_rfl) fun _ _ G7 => ?_
      intro S7 t7
      refine V.cond (b := decide (k0 < (b.length : Int))) iDT iDF (by kernel_rfl) (fun q3 => ?_) (fun q4 => ?_)
      · skip
        refine nm (b.getD k0.toNat default : Int) fun v1 hv1 => ?_
        refine V.go [.k (iv k0),
          .ix g0 (kf false (.f 0) b (fun _ => bs)) k0 (fun _ => ⟨by omega, by omega⟩),
          .le g0 (kf false (.f 0) b (fun _ => bs)) k0 none false v1 hv1 (fun _ => ⟨by omega, by omega⟩) false (fun _ => [iv v1]),
          .k (iv k0),
          .k (iv v1)] (fun _ _ => by kernel_rfl) fun _ _ G8 => ?_
        intro S8 t8
        have e1 : b.getD k0.toNat 0 = v1 := hv1.symm
        refine V.go [.k (iv carry),
          .k (iv v1),
          .a (carry + v1) (by omega) (by omega),
          .k (iv (carry + v1))] (fun _ _ => by kernel_rfl) fun _ _ G9 => ?_
        intro S9 t9
        refine V.go [.k (iv k0),
          .k (as_.v),
          .ln (kf false (.f 1) a (fun _ => as_)),
          .k (bv (decide (k0 < (a.length : Int))))] (fun _ _ => by kernel_rfl) fun _ _ G10 => ?_
        intro S10 t10
        refine V.cond (b := decide (k0 < (a.length : Int))) iDT iDF (by kernel_rfl) (fun q5 => ?_) (fun q6 => ?_)
        · skip
          refine nm (a.getD k0.toNat default : Int) fun v2 hv2 => ?_
          refine nm (carry + v1 + v2 : Int) fun n2 hn2 => ?_
          have e2 : a.getD k0.toNat 0 = v2 := hv2.symm
          refine V.go [.k (iv (carry + v1)),
            .k (as_.v),
            .k (iv k0),
            .ix g0 (kf false (.f 1) a (fun _ => as_)) k0 (fun _ => ⟨by omega, by omega⟩),
            .le g0 (kf false (.f 1) a (fun _ => as_)) k0 none false v2 hv2 (fun _ => ⟨by omega, by omega⟩) false (fun _ => [iv v2]),
            .ar (carry + v1 + v2) n2 hn2 (by omega) (by omega),
            .k (iv n2)] (fun _ _ => by kernel_rfl) fun _ _ G11 => ?_
          intro S11 t11
          have hxx : n2 = carry + b.getD k0.toNat 0 + a.getD k0.toNat 0 := by omega
          refine nm (n2 % 1048576 : Int) fun n3 hn3 => ?_
          refine nm (out.getD k0.toNat default : Int) fun v3 hv3 => ?_
          refine nm (out.set k0.toNat n3 : List Int) fun l2 hl2 => ?_
          have hl2n := congrArg List.length hl2; try simp only [List.length_append, List.length_cons, List.length_nil, List.length_replicate, List.length_set, List.length_take, List.length_drop, List.length_map, List.length_reverse, List.length_range] at hl2n
          refine V.go [.k (outs.v),
            .k (iv k0),
            .k (iv n2),
            .andm g0 n2 1048575 n3 20 (by decide) rfl (by rw [hn3]; rfl),
            .ix g0 (ko true 3 0 out (fun _ => outs)) k0 (fun _ => ⟨by omega, by omega⟩),
            .se g0 5 0 3 true out (fun _ => outs) k0 none v3 n3 hv3 true l2 hl2 (fun _ => ⟨by omega, by omega⟩) (fun _ => rfl) [] (fun _ _ _ _ => trivial)] (fun _ _ => by kernel_rfl) fun _ _ G12 => ?_
          intro S12 t12
          refine nm (n2 / 1048576 : Int) fun n4 hn4 => ?_
          refine V.go [.k (iv n2),
            .shrm g0 .i64 .u64 n2 n4 20 (by decide) (by rw [hn4]; rfl),
            .k (iv n4)] (fun _ _ => by kernel_rfl) fun _ _ G13 => ?_
          intro S13 t13
          refine V.go [.a (k0 + 1) (by omega) (by omega),
            .k (iv (k0 + 1))] (fun _ _ => by kernel_rfl) fun _ _ G14 => ?_
          intro S14 t14
          refine V.rnd hZ1 (l2, outs, n4, k0 + 1) [0, 1] (by kernel_rfl) ?_ ?_
          · skip
            refine ⟨?_, ?_, ?_⟩
            · show 0 ≤ (k0 + 1)
              first | omega | rfl | (simp; done) | (subst_vars; simp; done)
            · show (k0 + 1) ≤ (b.length : Int)
              first | omega | rfl | (simp; done) | (subst_vars; simp; done)
            · show Bg.AddI b a l2 (k0 + 1).toNat n4
              rw [hl2, hn3, hn4, show (k0 + 1).toNat = k0.toNat + 1 by omega]; exact Bg.add_step hf3 hdb hda (by omega) hxx
          · show ((b.length : Int) - (k0 + 1)).toNat < ((b.length : Int) - k0).toNat
            omega
        · skip
          have e2 := Bg.getD_out (l := a) (i := k0.toNat) (by omega)
          have hxx : carry + v1 = carry + b.getD k0.toNat 0 + a.getD k0.toNat 0 := by omega
          refine nm ((carry + v1) % 1048576 : Int) fun n5 hn5 => ?_
          refine nm (out.getD k0.toNat default : Int) fun v4 hv4 => ?_
          refine nm (out.set k0.toNat n5 : List Int) fun l3 hl3 => ?_
          have hl3n := congrArg List.length hl3; try simp only [List.length_append, List.length_cons, List.length_nil, List.length_replicate, List.length_set, List.length_take, List.length_drop, List.length_map, List.length_reverse, List.length_range] at hl3n
          refine V.go [.k (outs.v),
            .k (iv k0),
            .k (iv (carry + v1)),
            .andm g0 (carry + v1) 1048575 n5 20 (by decide) rfl (by rw [hn5]; rfl),
            .ix g0 (ko true 3 0 out (fun _ => outs)) k0 (fun _ => ⟨by omega, by omega⟩),
            .se g0 5 0 3 true out (fun _ => outs) k0 none v4 n5 hv4 true l3 hl3 (fun _ => ⟨by omega, by omega⟩) (fun _ => rfl) [] (fun _ _ _ _ => trivial)] (fun _ _ => by kernel_rfl) fun _ _ G15 => ?_
          intro S15 t15
          refine nm ((carry + v1) / 1048576 : Int) fun n6 hn6 => ?_
          refine V.go [.k (iv (carry + v1)),
            .shrm g0 .i64 .u64 (carry + v1) n6 20 (by decide) (by rw [hn6]; rfl),
            .k (iv n6)] (fun _ _ => by kernel_rfl) fun _ _ G16 => ?_
          intro S16 t16
          refine V.go [.a (k0 + 1) (by omega) (by omega),
            .k (iv (k0 + 1))] (fun _ _ => by kernel_rfl) fun _ _ G17 => ?_
          intro S17 t17
          refine V.rnd hZ1 (l3, outs, n6, k0 + 1) [0, 1] (by kernel_rfl) ?_ ?_
          · skip
            refine ⟨?_, ?_, ?_⟩
            · show 0 ≤ (k0 + 1)
              first | omega | rfl | (simp; done) | (subst_vars; simp; done)
            · show (k0 + 1) ≤ (b.length : Int)
              first | omega | rfl | (simp; done) | (subst_vars; simp; done)
            · show Bg.AddI b a l3 (k0 + 1).toNat n6
              rw [hl3, hn5, hn6, show (k0 + 1).toNat = k0.toNat + 1 by omega]; exact Bg.add_step hf3 hdb hda (by omega) hxx
          · show ((b.length : Int) - (k0 + 1)).toNat < ((b.length : Int) - k0).toNat
            omega
      · skip
        have hkl : k0.toNat = b.length := by omega
        have hen := hf3
        rw [hkl] at hen
        obtain ⟨hen1, hen2⟩ := Bg.add_end hen (by omega)
        refine nm (out.getD (b.length : Int).toNat default : Int) fun v5 hv5 => ?_
        refine nm (out.set (b.length : Int).toNat carry : List Int) fun l4 hl4 => ?_
        have hl4n := congrArg List.length hl4; try simp only [List.length_append, List.length_cons, List.length_nil, List.length_replicate, List.length_set, List.length_take, List.length_drop, List.length_map, List.length_reverse, List.length_range] at hl4n
        refine V.go [.k (outs.v),
          .k (bs.v),
          .ln (kf false (.f 0) b (fun _ => bs)),
          .k (iv carry),
          .ix g0 (ko true 3 0 out (fun _ => outs)) (b.length : Int) (fun _ => ⟨by omega, by omega⟩),
          .se g0 5 0 3 true out (fun _ => outs) (b.length : Int) none v5 carry hv5 true l4 hl4 (fun _ => ⟨by omega, by omega⟩) (fun _ => rfl) [] (fun _ _ _ _ => trivial)] (fun _ _ => by kernel_rfl) fun _ _ G18 => ?_
        intro S18 t18
        have hl2e : l4 = out.set b.length carry := by rw [hl4]; congr 1
        rw [← hl2e] at hen1 hen2
        refine V.frz 0 true 3 l4 outs (by kernel_rfl) ?_
        refine V.reg [.k (outs.v),
          .ctT g0 1 100 [(kf true (.f 2) l4 (fun _ => outs)).a] (fun _ G => trim_ct l4 outs hen1),
          .v fun G => ((G 1).ss 0).v] (fun _ _ => by kernel_rfl) fun _ _ G19 kw20 => ?_
        intro S19 t19
        obtain ⟨⟨kl4, -⟩, -⟩ : Lq (Bg.dig (Bg.nv l4)) (((G19 1).ss 0).v) ∧ True := kn kw20 (by kernel_rfl)
        clear kw20
        have e0 : Bg.dig (Bg.nv l4) = Bg.dig (Bg.nv a + Bg.nv b) := by
          rw [hen2]; rw [Nat.add_comm]
        rw [← e0]
        exact V.ret [0] [(G19 1).ss 0] [fun _ => {}] [] [3] [] (((G19 1).ss 0).v) (fun _ _ => by kernel_rfl) (fun _ _ => by kernel_rfl) (fun _ _ => trivial)
  · skip
    refine nm ((a.length : Int) + 1 : Int) fun n7 hn7 => ?_
    refine nm (List.replicate n7.toNat (0 : Int) : List Int) fun l5 hl5 => ?_
    have hl5n := congrArg List.length hl5; try simp only [List.length_append, List.length_cons, List.length_nil, List.length_replicate, List.length_set, List.length_take, List.length_drop, List.length_map, List.length_reverse, List.length_range] at hl5n
    refine V.go [.k (as_.v),
      .ln (kf false (.f 0) a (fun _ => as_)),
      .ar ((a.length : Int) + 1) n7 hn7 (by omega) (by omega),
      .mks 3 0 3 8 n7 l5 hl5 (by omega) (by omega) (by omega),
      .v fun G => ((G 3).s).v] (fun _ _ => by kernel_rfl) fun _ _ G20 => ?_
    intro S20 t20
    refine V.go [.k (iv 0)] (fun _ _ => by kernel_rfl) fun _ _ G21 => ?_
    intro S21 t21
    refine V.go [.k (as_.v),
      .ln (kf false (.f 0) a (fun _ => as_)),
      .k (iv 0)] (fun _ _ => by kernel_rfl) fun _ _ G22 => ?_
    intro S22 t22
    refine V.loop (γ := List Int × SV × Int × Int) (fun ⟨out_1, out_1s, carry_1, k0_1⟩ => ⟨[(0, as_.v), (1, bs.v), (5, out_1s.v), (6, iv carry_1), (20, as_.v), (21, iv (a.length : Int)), (22, iv k0_1)], [fs false a as_, fs false b bs], [os true 3 out_1 out_1s]⟩) (fun ⟨out_1, out_1s, carry_1, k0_1⟩ => (0 ≤ k0_1) ∧ (k0_1 ≤ (a.length : Int)) ∧ (Bg.AddI a b out_1 k0_1.toNat carry_1)) (fun ⟨out_1, out_1s, carry_1, k0_1⟩ => ((a.length : Int) - k0_1).toNat) (l5, (G20 3).s, 0, 0) (by kernel_rfl) [0, 1] (by kernel_rfl) ?_ ?_
    · skip
      refine ⟨?_, ?_, ?_⟩
      · show 0 ≤ (0 : Int)
        first | omega | rfl | (simp; done) | (subst_vars; simp; done)
      · show (0 : Int) ≤ (a.length : Int)
        first | omega | rfl | (simp; done) | (subst_vars; simp; done)
      · show Bg.AddI a b l5 (0 : Int).toNat (0 : Int)
        rw [hl5, show n7.toNat = a.length + 1 by omega]; exact Bg.add_start _ _
    · rintro ⟨out_1, out_1s, carry_1, k0_1⟩ hF2 kw24 Z2 hZ2
      have hF2 : (0 ≤ k0_1) ∧ (k0_1 ≤ (a.length : Int)) ∧ (Bg.AddI a b out_1 k0_1.toNat carry_1) := hF2
      obtain ⟨hf4, hf5, hf6⟩ := hF2
      obtain ⟨-, -, ⟨kl5, -⟩, -⟩ : Lq a as_.v ∧ Lq b bs.v ∧ Lq out_1 out_1s.v ∧ True := kn kw24 (by kernel_rfl)
      clear kw24
      have hol := hf6.len
      have hc0 := hf6.c0
      have hda_ := hda.get' k0_1.toNat
      have hdb_ := hdb.get' k0_1.toNat
      refine V.go [.k (bv (decide (k0_1 < (a.length : Int))))] (fun _ _ => by kernel_rfl) fun _ _ G23 => ?_
      intro S23 t23
      refine V.cond (b := decide (k0_1 < (a.length : Int))) iDT iDF (by kernel_rfl) (fun q7 => ?_) (fun q8 => ?_)
      · skip
        refine nm (a.getD k0_1.toNat default : Int) fun v6 hv6 => ?_
        refine V.go [.k (iv k0_1),
          .ix g0 (kf false (.f 0) a (fun _ => as_)) k0_1 (fun _ => ⟨by omega, by omega⟩),
          .le g0 (kf false (.f 0) a (fun _ => as_)) k0_1 none false v6 hv6 (fun _ => ⟨by omega, by omega⟩) false (fun _ => [iv v6]),
          .k (iv k0_1),
          .k (iv v6)] (fun _ _ => by kernel_rfl) fun _ _ G24 => ?_
        intro S24 t24
        have e1 : a.getD k0_1.toNat 0 = v6 := hv6.symm
        refine V.go [.k (iv carry_1),
          .k (iv v6),
          .a (carry_1 + v6) (by omega) (by omega),
          .k (iv (carry_1 + v6))] (fun _ _ => by kernel_rfl) fun _ _ G25 => ?_
        intro S25 t25
        refine V.go [.k (iv k0_1),
          .k (bs.v),
          .ln (kf false (.f 1) b (fun _ => bs)),
          .k (bv (decide (k0_1 < (b.length : Int))))] (fun _ _ => by kernel_rfl) fun _ _ G26 => ?_
        intro S26 t26
        refine V.cond (b := decide (k0_1 < (b.length : Int))) iDT iDF (by kernel_rfl) (fun q9 => ?_) (fun q10 => ?_)
        · skip
          refine nm (b.getD k0_1.toNat default : Int) fun v7 hv7 => ?_
          refine nm (carry_1 + v6 + v7 : Int) fun n8 hn8 => ?_
          have e2 : b.getD k0_1.toNat 0 = v7 := hv7.symm
          refine V.go [.k (iv (carry_1 + v6)),
            .k (bs.v),
            .k (iv k0_1),
            .ix g0 (kf false (.f 1) b (fun _ => bs)) k0_1 (fun _ => ⟨by omega, by omega⟩),
            .le g0 (kf false (.f 1) b (fun _ => bs)) k0_1 none false v7 hv7 (fun _ => ⟨by omega, by omega⟩) false (fun _ => [iv v7]),
            .ar (carry_1 + v6 + v7) n8 hn8 (by omega) (by omega),
            .k (iv n8)] (fun _ _ => by kernel_rfl) fun _ _ G27 => ?_
          intro S27 t27
          have hxx : n8 = carry_1 + a.getD k0_1.toNat 0 + b.getD k0_1.toNat 0 := by omega
          refine nm (n8 % 1048576 : Int) fun n9 hn9 => ?_
          refine nm (out_1.getD k0_1.toNat default : Int) fun v8 hv8 => ?_
          refine nm (out_1.set k0_1.toNat n9 : List Int) fun l6 hl6 => ?_
          have hl6n := congrArg List.length hl6; try simp only [List.length_append, List.length_cons, List.length_nil, List.length_replicate, List.length_set, List.length_take, List.length_drop, List.length_map, List.length_reverse, List.length_range] at hl6n
          refine V.go [.k (out_1s.v),
            .k (iv k0_1),
            .k (iv n8),
            .andm g0 n8 1048575 n9 20 (by decide) rfl (by rw [hn9]; rfl),
            .ix g0 (ko true 3 0 out_1 (fun _ => out_1s)) k0_1 (fun _ => ⟨by omega, by omega⟩),
            .se g0 5 0 3 true out_1 (fun _ => out_1s) k0_1 none v8 n9 hv8 true l6 hl6 (fun _ => ⟨by omega, by omega⟩) (fun _ => rfl) [] (fun _ _ _ _ => trivial)] (fun _ _ => by kernel_rfl) fun _ _ G28 => ?_
          intro S28 t28
          refine nm (n8 / 1048576 : Int) fun n10 hn10 => ?_
          refine V.go [.k (iv n8),
            .shrm g0 .i64 .u64 n8 n10 20 (by decide) (by rw [hn10]; rfl),
            .k (iv n10)] (fun _ _ => by kernel_rfl) fun _ _ G29 => ?_
          intro S29 t29
          refine V.go [.a (k0_1 + 1) (by omega) (by omega),
            .k (iv (k0_1 + 1))] (fun _ _ => by kernel_rfl) fun _ _ G30 => ?_
          intro S30 t30
          refine V.rnd hZ2 (l6, out_1s, n10, k0_1 + 1) [0, 1] (by kernel_rfl) ?_ ?_
          · skip
            refine ⟨?_, ?_, ?_⟩
            · show 0 ≤ (k0_1 + 1)
              first | omega | rfl | (simp; done) | (subst_vars; simp; done)
            · show (k0_1 + 1) ≤ (a.length : Int)
              first | omega | rfl | (simp; done) | (subst_vars; simp; done)
            · show Bg.AddI a b l6 (k0_1 + 1).toNat n10
              rw [hl6, hn9, hn10, show (k0_1 + 1).toNat = k0_1.toNat + 1 by omega]; exact Bg.add_step hf6 hda hdb (by omega) hxx
          · show ((a.length : Int) - (k0_1 + 1)).toNat < ((a.length : Int) - k0_1).toNat
            omega
        · skip
          have e2 := Bg.getD_out (l := b) (i := k0_1.toNat) (by omega)
          have hxx : carry_1 + v6 = carry_1 + a.getD k0_1.toNat 0 + b.getD k0_1.toNat 0 := by omega
          refine nm ((carry_1 + v6) % 1048576 : Int) fun n11 hn11 => ?_
          refine nm (out_1.getD k0_1.toNat default : Int) fun v9 hv9 => ?_
          refine nm (out_1.set k0_1.toNat n11 : List Int) fun l7 hl7 => ?_
          have hl7n := congrArg List.length hl7; try simp only [List.length_append, List.length_cons, List.length_nil, List.length_replicate, List.length_set, List.length_take, List.length_drop, List.length_map, List.length_reverse, List.length_range] at hl7n
          refine V.go [.k (out_1s.v),
            .k (iv k0_1),
            .k (iv (carry_1 + v6)),
            .andm g0 (carry_1 + v6) 1048575 n11 20 (by decide) rfl (by rw [hn11]; rfl),
            .ix g0 (ko true 3 0 out_1 (fun _ => out_1s)) k0_1 (fun _ => ⟨by omega, by omega⟩),
            .se g0 5 0 3 true out_1 (fun _ => out_1s) k0_1 none v9 n11 hv9 true l7 hl7 (fun _ => ⟨by omega, by omega⟩) (fun _ => rfl) [] (fun _ _ _ _ => trivial)] (fun _ _ => by kernel_rfl) fun _ _ G31 => ?_
          intro S31 t31
          refine nm ((carry_1 + v6) / 1048576 : Int) fun n12 hn12 => ?_
          refine V.go [.k (iv (carry_1 + v6)),
            .shrm g0 .i64 .u64 (carry_1 + v6) n12 20 (by decide) (by rw [hn12]; rfl),
            .k (iv n12)] (fun _ _ => by kernel_rfl) fun _ _ G32 => ?_
          intro S32 t32
          refine V.go [.a (k0_1 + 1) (by omega) (by omega),
            .k (iv (k0_1 + 1))] (fun _ _ => by kernel_rfl) fun _ _ G33 => ?_
          intro S33 t33
          refine V.rnd hZ2 (l7, out_1s, n12, k0_1 + 1) [0, 1] (by kernel_rfl) ?_ ?_
          · skip
            refine ⟨?_, ?_, ?_⟩
            · show 0 ≤ (k0_1 + 1)
              first | omega | rfl | (simp; done) | (subst_vars; simp; done)
            · show (k0_1 + 1) ≤ (a.length : Int)
              first | omega | rfl | (simp; done) | (subst_vars; simp; done)
            · show Bg.AddI a b l7 (k0_1 + 1).toNat n12
              rw [hl7, hn11, hn12, show (k0_1 + 1).toNat = k0_1.toNat + 1 by omega]; exact Bg.add_step hf6 hda hdb (by omega) hxx
          · show ((a.length : Int) - (k0_1 + 1)).toNat < ((a.length : Int) - k0_1).toNat
            omega
      · skip
        have hkl : k0_1.toNat = a.length := by omega
        have hen := hf6
        rw [hkl] at hen
        obtain ⟨hen1, hen2⟩ := Bg.add_end hen (by omega)
        refine nm (out_1.getD (a.length : Int).toNat default : Int) fun v10 hv10 => ?_
        refine nm (out_1.set (a.length : Int).toNat carry_1 : List Int) fun l8 hl8 => ?_
        have hl8n := congrArg List.length hl8; try simp only [List.length_append, List.length_cons, List.length_nil, List.length_replicate, List.length_set, List.length_take, List.length_drop, List.length_map, List.length_reverse, List.length_range] at hl8n
        refine V.go [.k (out_1s.v),
          .k (as_.v),
          .ln (kf false (.f 0) a (fun _ => as_)),
          .k (iv carry_1),
          .ix g0 (ko true 3 0 out_1 (fun _ => out_1s)) (a.length : Int) (fun _ => ⟨by omega, by omega⟩),
          .se g0 5 0 3 true out_1 (fun _ => out_1s) (a.length : Int) none v10 carry_1 hv10 true l8 hl8 (fun _ => ⟨by omega, by omega⟩) (fun _ => rfl) [] (fun _ _ _ _ => trivial)] (fun _ _ => by kernel_rfl) fun _ _ G34 => ?_
        intro S34 t34
        have hl2e : l8 = out_1.set a.length carry_1 := by rw [hl8]; congr 1
        rw [← hl2e] at hen1 hen2
        refine V.frz 0 true 3 l8 out_1s (by kernel_rfl) ?_
        refine V.reg [.k (out_1s.v),
          .ctT g0 1 100 [(kf true (.f 2) l8 (fun _ => out_1s)).a] (fun _ G => trim_ct l8 out_1s hen1),
          .v fun G => ((G 1).ss 0).v] (fun _ _ => by kernel_rfl) fun _ _ G35 kw37 => ?_
        intro S35 t35
        obtain ⟨⟨kl6, -⟩, -⟩ : Lq (Bg.dig (Bg.nv l8)) (((G35 1).ss 0).v) ∧ True := kn kw37 (by kernel_rfl)
        clear kw37
        have e0 : Bg.dig (Bg.nv l8) = Bg.dig (Bg.nv a + Bg.nv b) := by
          rw [hen2]
        rw [← e0]
        exact V.ret [0] [(G35 1).ss 0] [fun _ => {}] [] [3] [] (((G35 1).ss 0).v) (fun _ _ => by kernel_rfl) (fun _ _ => by kernel_rfl) (fun _ _ => trivial)
theorem add_ctv (a : List Int) (as_ : SV) (b : List Int) (bs : SV) (hda : Bg.Dg a) (hdb : Bg.Dg b) (hla : a.length ≤ 1099511627776) (hlb : b.length ≤ 1099511627776) (rv0 : List Int) (erv0 : rv0 = Bg.dig (Bg.nv a + Bg.nv b)) :
    Ct Try.prog 83 #[as_.v, bs.v] [fs true a as_, fs true b bs] [] (fun g => ((g.ss 0)).v) (fun g => [fs true rv0 (g.ss 0)]) (fun g => []) (fun g => []) := by
  subst erv0; exact add_ct a as_ b bs hda hdb hla hlb

set_option maxRecDepth 10000 in
theorem sub_ct (a : List Int) (as_ : SV) (b : List Int) (bs : SV) (hda : Bg.Dg a) (hdb : Bg.Dg b) (hla : a.length ≤ 1099511627776) (hlb : b.length ≤ 1099511627776) (hzb : Bg.Nz b) (hle : Bg.nv b ≤ Bg.nv a) :
    Ct Try.prog 85 #[as_.v, bs.v] [fs true a as_, fs true b bs] [] (fun g => ((g.ss 0)).v) (fun g => [fs true (Bg.dig (Bg.nv a - Bg.nv b)) (g.ss 0)]) (fun g => []) (fun g => []) := by
  refine V.fn mo Try.func85 43 1 (by kernel_rfl) fun w H ε k0 => ?_
  obtain ⟨⟨kl1, -⟩, ⟨kl2, -⟩, -⟩ : Lq a as_.v ∧ Lq b bs.v ∧ True := kn k0 (by kernel_rfl)
  clear k0
  refine V.go [.k (.slice none 0 0)] (fun _ _ => by kernel_rfl) fun _ _ G1 => ?_
  intro S1 t1
  refine V.go [.k (as_.v),
    .ct g0 1 63 false [] [0] [(kf false (.f 0) a (fun _ => as_)).a] (fun _ G => clonei_ct a as_ (by omega)),
    .v fun G => ((G 1).ss 0).v] (fun _ _ => by kernel_rfl) fun _ _ G2 => ?_
  intro S2 t2
  refine V.go [.k (iv 0)] (fun _ _ => by kernel_rfl) fun _ _ G3 => ?_
  intro S3 t3
  refine V.go [.k (((G2 1).ss 0).v),
    .ln (ko true 3 0 a (fun _ => (G2 1).ss 0)),
    .k (iv 0)] (fun _ _ => by kernel_rfl) fun _ _ G4 => ?_
  intro S4 t4
  refine V.loop (γ := List Int × SV × Int × Int) (fun ⟨out, outs, borrow, k0⟩ => ⟨[(1, bs.v), (5, outs.v), (6, iv borrow), (12, iv (a.length : Int)), (13, iv k0)], [fs false b bs], [os true 3 out outs]⟩) (fun ⟨out, outs, borrow, k0⟩ => (0 ≤ k0) ∧ (k0 ≤ (a.length : Int)) ∧ (Bg.SubI a b out k0.toNat borrow)) (fun ⟨out, outs, borrow, k0⟩ => ((a.length : Int) - k0).toNat) (a, (G2 1).ss 0, 0, 0) (by kernel_rfl) [1] (by kernel_rfl) ?_ ?_
  · skip
    refine ⟨?_, ?_, ?_⟩
    · show 0 ≤ (0 : Int)
      first | omega | rfl | (simp; done) | (subst_vars; simp; done)
    · show (0 : Int) ≤ (a.length : Int)
      first | omega | rfl | (simp; done) | (subst_vars; simp; done)
    · show Bg.SubI a b a (0 : Int).toNat (0 : Int)
      exact Bg.sub_start _ _ hda
  · rintro ⟨out, outs, borrow, k0⟩ hF1 kw5 Z1 hZ1
    have hF1 : (0 ≤ k0) ∧ (k0 ≤ (a.length : Int)) ∧ (Bg.SubI a b out k0.toNat borrow) := hF1
    obtain ⟨hf1, hf2, hf3⟩ := hF1
    obtain ⟨-, ⟨kl3, -⟩, -⟩ : Lq b bs.v ∧ Lq out outs.v ∧ True := kn kw5 (by kernel_rfl)
    clear kw5
    have hol := hf3.len
    have hc0 := hf3.c0
    have hda_ := hf3.dg.get' k0.toNat
    have hdb_ := hdb.get' k0.toNat
    refine V.go [.k (bv (decide (k0 < (a.length : Int))))] (fun _ _ => by kernel_rfl) fun _ _ G5 => ?_
    intro S5 t5
    refine V.cond (b := decide (k0 < (a.length : Int))) iDT iDF (by kernel_rfl) (fun q1 => ?_) (fun q2 => ?_)
    · skip
      refine V.go [.k (iv k0),
        .k (iv k0)] (fun _ _ => by kernel_rfl) fun _ _ G6 => ?_
      intro S6 t6
      refine nm (out.getD k0.toNat default : Int) fun v1 hv1 => ?_
      have e1 : out.getD k0.toNat 0 = v1 := hv1.symm
      refine V.go [.k (outs.v),
        .k (iv k0),
        .ix g0 (ko true 3 0 out (fun _ => outs)) k0 (fun _ => ⟨by omega, by omega⟩),
        .le g0 (ko true 3 0 out (fun _ => outs)) k0 none false v1 hv1 (fun _ => ⟨by omega, by omega⟩) false (fun _ => [iv v1]),
        .k (iv borrow),
        .a (v1 - borrow) (by omega) (by omega),
        .k (iv (v1 - borrow))] (fun _ _ => by kernel_rfl) fun _ _ G7 => ?_
      intro S7 t7
      refine V.go [.k (iv k0),
        .k (bs.v),
        .ln (kf false (.f 0) b (fun _ => bs)),
        .k (bv (decide (k0 < (b.length : Int))))] (fun _ _ => by kernel_rfl) fun _ _ G8 => ?_
      intro S8 t8
      refine V.cond (b := decide (k0 < (b.length : Int))) iDT iDF (by kernel_rfl) (fun q3 => ?_) (fun q4 => ?_)
      · skip
        refine nm (b.getD k0.toNat default : Int) fun v2 hv2 => ?_
        refine nm (v1 - borrow - v2 : Int) fun n1 hn1 => ?_
        have e2 : b.getD k0.toNat 0 = v2 := hv2.symm
        refine V.go [.k (iv (v1 - borrow)),
          .k (bs.v),
          .k (iv k0),
          .ix g0 (kf false (.f 0) b (fun _ => bs)) k0 (fun _ => ⟨by omega, by omega⟩),
          .le g0 (kf false (.f 0) b (fun _ => bs)) k0 none false v2 hv2 (fun _ => ⟨by omega, by omega⟩) false (fun _ => [iv v2]),
          .ar (v1 - borrow - v2) n1 hn1 (by omega) (by omega),
          .k (iv n1)] (fun _ _ => by kernel_rfl) fun _ _ G9 => ?_
        intro S9 t9
        have hxx : n1 = out.getD k0.toNat 0 - borrow - b.getD k0.toNat 0 := by omega
        refine nm (n1 / 1048576 : Int) fun n2 hn2 => ?_
        refine nm (n2 % 2 : Int) fun n3 hn3 => ?_
        refine V.go [.k (iv n1),
          .shrm g0 .i64 .u64 n1 n2 20 (by decide) (by rw [hn2]; rfl),
          .andm g0 n2 1 n3 1 (by decide) rfl (by rw [hn3]; rfl),
          .k (iv n3)] (fun _ _ => by kernel_rfl) fun _ _ G10 => ?_
        intro S10 t10
        refine nm (n1 % 1048576 : Int) fun n4 hn4 => ?_
        refine nm (out.set k0.toNat n4 : List Int) fun l1 hl1 => ?_
        have hl1n := congrArg List.length hl1; try simp only [List.length_append, List.length_cons, List.length_nil, List.length_replicate, List.length_set, List.length_take, List.length_drop, List.length_map, List.length_reverse, List.length_range] at hl1n
        refine V.go [.k (outs.v),
          .k (iv k0),
          .k (iv n1),
          .andm g0 n1 1048575 n4 20 (by decide) rfl (by rw [hn4]; rfl),
          .ix g0 (ko true 3 0 out (fun _ => outs)) k0 (fun _ => ⟨by omega, by omega⟩),
          .se g0 5 0 3 true out (fun _ => outs) k0 none v1 n4 hv1 true l1 hl1 (fun _ => ⟨by omega, by omega⟩) (fun _ => rfl) [] (fun _ _ _ _ => trivial)] (fun _ _ => by kernel_rfl) fun _ _ G11 => ?_
        intro S11 t11
        refine V.go [.a (k0 + 1) (by omega) (by omega),
          .k (iv (k0 + 1))] (fun _ _ => by kernel_rfl) fun _ _ G12 => ?_
        intro S12 t12
        refine V.rnd hZ1 (l1, outs, n3, k0 + 1) [0] (by kernel_rfl) ?_ ?_
        · skip
          refine ⟨?_, ?_, ?_⟩
          · show 0 ≤ (k0 + 1)
            first | omega | rfl | (simp; done) | (subst_vars; simp; done)
          · show (k0 + 1) ≤ (a.length : Int)
            first | omega | rfl | (simp; done) | (subst_vars; simp; done)
          · show Bg.SubI a b l1 (k0 + 1).toNat n3
            rw [hl1, hn4, hn3, hn2, show (k0 + 1).toNat = k0.toNat + 1 by omega]; exact Bg.sub_step hf3 hdb (by omega) hxx
        · show ((a.length : Int) - (k0 + 1)).toNat < ((a.length : Int) - k0).toNat
          omega
      · skip
        have e2 := Bg.getD_out (l := b) (i := k0.toNat) (by omega)
        have hxx : v1 - borrow = out.getD k0.toNat 0 - borrow - b.getD k0.toNat 0 := by omega
        refine nm ((v1 - borrow) / 1048576 : Int) fun n5 hn5 => ?_
        refine nm (n5 % 2 : Int) fun n6 hn6 => ?_
        refine V.go [.k (iv (v1 - borrow)),
          .shrm g0 .i64 .u64 (v1 - borrow) n5 20 (by decide) (by rw [hn5]; rfl),
          .andm g0 n5 1 n6 1 (by decide) rfl (by rw [hn6]; rfl),
          .k (iv n6)] (fun _ _ => by kernel_rfl) fun _ _ G13 => ?_
        intro S13 t13
        refine nm ((v1 - borrow) % 1048576 : Int) fun n7 hn7 => ?_
        refine nm (out.set k0.toNat n7 : List Int) fun l2 hl2 => ?_
        have hl2n := congrArg List.length hl2; try simp only [List.length_append, List.length_cons, List.length_nil, List.length_replicate, List.length_set, List.length_take, List.length_drop, List.length_map, List.length_reverse, List.length_range] at hl2n
        refine V.go [.k (outs.v),
          .k (iv k0),
          .k (iv (v1 - borrow)),
          .andm g0 (v1 - borrow) 1048575 n7 20 (by decide) rfl (by rw [hn7]; rfl),
          .ix g0 (ko true 3 0 out (fun _ => outs)) k0 (fun _ => ⟨by omega, by omega⟩),
          .se g0 5 0 3 true out (fun _ => outs) k0 none v1 n7 hv1 true l2 hl2 (fun _ => ⟨by omega, by omega⟩) (fun _ => rfl) [] (fun _ _ _ _ => trivial)] (fun _ _ => by kernel_rfl) fun _ _ G14 => ?_
        intro S14 t14
        refine V.go [.a (k0 + 1) (by omega) (by omega),
          .k (iv (k0 + 1))] (fun _ _ => by kernel_rfl) fun _ _ G15 => ?_
        intro S15 t15
        refine V.rnd hZ1 (l2, outs, n6, k0 + 1) [0] (by kernel_rfl) ?_ ?_
        · skip
          refine ⟨?_, ?_, ?_⟩
          · show 0 ≤ (k0 + 1)
            first | omega | rfl | (simp; done) | (subst_vars; simp; done)
          · show (k0 + 1) ≤ (a.length : Int)
            first | omega | rfl | (simp; done) | (subst_vars; simp; done)
          · show Bg.SubI a b l2 (k0 + 1).toNat n6
            rw [hl2, hn7, hn6, hn5, show (k0 + 1).toNat = k0.toNat + 1 by omega]; exact Bg.sub_step hf3 hdb (by omega) hxx
        · show ((a.length : Int) - (k0 + 1)).toNat < ((a.length : Int) - k0).toNat
          omega
    · skip
      have hen := hf3
      rw [show k0.toNat = a.length by omega] at hen
      have hse := Bg.sub_end hen (Bg.len_le hda hdb hzb hle) hle
      have hsd := hen.dg
      refine V.frz 0 true 3 out outs (by kernel_rfl) ?_
      refine V.reg [.k (outs.v),
        .ctT g0 1 100 [(kf true (.f 1) out (fun _ => outs)).a] (fun _ G => trim_ct out outs hsd),
        .v fun G => ((G 1).ss 0).v] (fun _ _ => by kernel_rfl) fun _ _ G16 kw17 => ?_
      intro S16 t16
      obtain ⟨⟨kl4, -⟩, -⟩ : Lq (Bg.dig (Bg.nv out)) (((G16 1).ss 0).v) ∧ True := kn kw17 (by kernel_rfl)
      clear kw17
      have e0 : Bg.dig (Bg.nv out) = Bg.dig (Bg.nv a - Bg.nv b) := by
        rw [hse]
      rw [← e0]
      exact V.ret [0] [(G16 1).ss 0] [fun _ => {}] [] [2] [] (((G16 1).ss 0).v) (fun _ _ => by kernel_rfl) (fun _ _ => by kernel_rfl) (fun _ _ => trivial)
theorem sub_ctv (a : List Int) (as_ : SV) (b : List Int) (bs : SV) (hda : Bg.Dg a) (hdb : Bg.Dg b) (hla : a.length ≤ 1099511627776) (hlb : b.length ≤ 1099511627776) (hzb : Bg.Nz b) (hle : Bg.nv b ≤ Bg.nv a) (rv0 : List Int) (erv0 : rv0 = Bg.dig (Bg.nv a - Bg.nv b)) :
    Ct Try.prog 85 #[as_.v, bs.v] [fs true a as_, fs true b bs] [] (fun g => ((g.ss 0)).v) (fun g => [fs true rv0 (g.ss 0)]) (fun g => []) (fun g => []) := by
  subst erv0; exact sub_ct a as_ b bs hda hdb hla hlb hzb hle

end Kb
set_option linter.unusedVariables false
set_option linter.unusedSectionVars false
set_option linter.unusedSimpArgs false
namespace Kb
open Go Go.Proofs
set_option maxRecDepth 10000 in
theorem mulo_ct (a : List Int) (as_ : SV) (b : List Int) (bs : SV) (hda : Bg.Dg a) (hdb : Bg.Dg b) (hla : a.length ≤ 1099511627776) (hlb : b.length ≤ 1099511627776) :
    Ct Try.prog 99 #[as_.v, bs.v] [fs true a as_, fs true b bs] [] (fun g => ((g.ss 0)).v) (fun g => []) (fun g => [os true 3 (Bg.dig (Bg.nv a * Bg.nv b)) (g.ss 0)]) (fun g => []) := by
  refine V.fn mo Try.func99 67 1 (by kernel_rfl) fun w H ε k0 => ?_
  obtain ⟨⟨kl1, -⟩, ⟨kl2, -⟩, -⟩ : Lq a as_.v ∧ Lq b bs.v ∧ True := kn k0 (by kernel_rfl)
  clear k0
  refine V.go [.k (.slice none 0 0)] (fun _ _ => by kernel_rfl) fun _ _ G1 => ?_
  intro S1 t1
  refine nm ((a.length : Int) + (b.length : Int) : Int) fun n1 hn1 => ?_
  refine nm (List.replicate n1.toNat (0 : Int) : List Int) fun l1 hl1 => ?_
  have hl1n := congrArg List.length hl1; try simp only [List.length_append, List.length_cons, List.length_nil, List.length_replicate, List.length_set, List.length_take, List.length_drop, List.length_map, List.length_reverse, List.length_range] at hl1n
  refine V.go [.k (as_.v),
    .ln (kf false (.f 0) a (fun _ => as_)),
    .k (bs.v),
    .ln (kf false (.f 1) b (fun _ => bs)),
    .ar ((a.length : Int) + (b.length : Int)) n1 hn1 (by omega) (by omega),
    .mks 5 0 3 8 n1 l1 hl1 (by omega) (by omega) (by omega),
    .v fun G => ((G 5).s).v] (fun _ _ => by kernel_rfl) fun _ _ G2 => ?_
  intro S2 t2
  refine V.go [.k (as_.v),
    .ln (kf false (.f 0) a (fun _ => as_)),
    .k (iv 0)] (fun _ _ => by kernel_rfl) fun _ _ G3 => ?_
  intro S3 t3
  refine V.loop (γ := List Int × SV × Int) (fun ⟨out, outs, k0⟩ => ⟨[(1, bs.v), (5, outs.v), (18, as_.v), (19, iv (a.length : Int)), (20, iv k0)], [fs false b bs, fs false a as_], [os true 3 out outs]⟩) (fun ⟨out, outs, k0⟩ => (0 ≤ k0) ∧ (k0 ≤ (a.length : Int)) ∧ (Bg.MulO a b out k0.toNat)) (fun ⟨out, outs, k0⟩ => ((a.length : Int) - k0).toNat) (l1, (G2 5).s, 0) (by kernel_rfl) [1, 0] (by kernel_rfl) ?_ ?_
  · skip
    refine ⟨?_, ?_, ?_⟩
    · show 0 ≤ (0 : Int)
      first | omega | rfl | (simp; done) | (subst_vars; simp; done)
    · show (0 : Int) ≤ (a.length : Int)
      first | omega | rfl | (simp; done) | (subst_vars; simp; done)
    · show Bg.MulO a b l1 (0 : Int).toNat
      rw [hl1, show n1.toNat = a.length + b.length by omega]; exact Bg.mul_start _ _
  · rintro ⟨out, outs, k0⟩ hF1 kw4 Z1 hZ1
    have hF1 : (0 ≤ k0) ∧ (k0 ≤ (a.length : Int)) ∧ (Bg.MulO a b out k0.toNat) := hF1
    obtain ⟨hf1, hf2, hf3⟩ := hF1
    obtain ⟨-, -, ⟨kl3, -⟩, -⟩ : Lq b bs.v ∧ Lq a as_.v ∧ Lq out outs.v ∧ True := kn kw4 (by kernel_rfl)
    clear kw4
    have hol := hf3.len
    refine V.go [.k (bv (decide (k0 < (a.length : Int))))] (fun _ _ => by kernel_rfl) fun _ _ G4 => ?_
    intro S4 t4
    refine V.cond (b := decide (k0 < (a.length : Int))) iDT iDF (by kernel_rfl) (fun q1 => ?_) (fun q2 => ?_)
    · skip
      refine nm (a.getD k0.toNat default : Int) fun v1 hv1 => ?_
      refine V.go [.k (iv k0),
        .ix g0 (kf false (.f 1) a (fun _ => as_)) k0 (fun _ => ⟨by omega, by omega⟩),
        .le g0 (kf false (.f 1) a (fun _ => as_)) k0 none false v1 hv1 (fun _ => ⟨by omega, by omega⟩) false (fun _ => [iv v1]),
        .k (iv k0),
        .k (iv v1)] (fun _ _ => by kernel_rfl) fun _ _ G5 => ?_
      intro S5 t5
      refine V.go [.k (iv 0)] (fun _ _ => by kernel_rfl) fun _ _ G6 => ?_
      intro S6 t6
      refine V.go [.k (bs.v),
        .ln (kf false (.f 0) b (fun _ => bs)),
        .k (iv 0)] (fun _ _ => by kernel_rfl) fun _ _ G7 => ?_
      intro S7 t7
      refine V.loop (γ := List Int × SV × Int × Int) (fun ⟨out_1, out_1s, carry, k1⟩ => ⟨[(1, bs.v), (5, out_1s.v), (6, iv k0), (7, iv v1), (8, iv carry), (18, as_.v), (19, iv (a.length : Int)), (20, iv k0), (25, bs.v), (26, iv (b.length : Int)), (27, iv k1)], [fs false b bs, fs false a as_], [os true 3 out_1 out_1s]⟩) (fun ⟨out_1, out_1s, carry, k1⟩ => (0 ≤ k1) ∧ (k1 ≤ (b.length : Int)) ∧ (Bg.MulI a b out_1 k0.toNat k1.toNat carry)) (fun ⟨out_1, out_1s, carry, k1⟩ => ((b.length : Int) - k1).toNat) (out, outs, 0, 0) (by kernel_rfl) [0, 1] (by kernel_rfl) ?_ ?_
      · skip
        refine ⟨?_, ?_, ?_⟩
        · show 0 ≤ (0 : Int)
          first | omega | rfl | (simp; done) | (subst_vars; simp; done)
        · show (0 : Int) ≤ (b.length : Int)
          first | omega | rfl | (simp; done) | (subst_vars; simp; done)
        · show Bg.MulI a b out k0.toNat (0 : Int).toNat (0 : Int)
          exact Bg.MulO.inner hf3
      · rintro ⟨out_1, out_1s, carry, k1⟩ hF2 kw9 Z2 hZ2
        have hF2 : (0 ≤ k1) ∧ (k1 ≤ (b.length : Int)) ∧ (Bg.MulI a b out_1 k0.toNat k1.toNat carry) := hF2
        obtain ⟨hf4, hf5, hf6⟩ := hF2
        obtain ⟨-, -, ⟨kl4, -⟩, -⟩ : Lq b bs.v ∧ Lq a as_.v ∧ Lq out_1 out_1s.v ∧ True := kn kw9 (by kernel_rfl)
        clear kw9
        have hol2 := hf6.len
        refine V.go [.k (bv (decide (k1 < (b.length : Int))))] (fun _ _ => by kernel_rfl) fun _ _ G8 => ?_
        intro S8 t8
        refine V.cond (b := decide (k1 < (b.length : Int))) iDT iDF (by kernel_rfl) (fun q3 => ?_) (fun q4 => ?_)
        · skip
          refine nm (b.getD k1.toNat default : Int) fun v2 hv2 => ?_
          refine V.go [.k (iv k1),
            .ix g0 (kf false (.f 0) b (fun _ => bs)) k1 (fun _ => ⟨by omega, by omega⟩),
            .le g0 (kf false (.f 0) b (fun _ => bs)) k1 none false v2 hv2 (fun _ => ⟨by omega, by omega⟩) false (fun _ => [iv v2]),
            .k (iv k1),
            .k (iv v2)] (fun _ _ => by kernel_rfl) fun _ _ G9 => ?_
          intro S9 t9
          refine nm (out_1.getD (k0 + k1).toNat default : Int) fun v3 hv3 => ?_
          refine nm (v1 * v2 : Int) fun n2 hn2 => ?_
          refine nm (v3 + n2 + carry : Int) fun n3 hn3 => ?_
          have ex : a.getD k0.toNat 0 = v1 := hv1.symm
          have ey : b.getD k1.toNat 0 = v2 := hv2.symm
          have eo : out_1.getD (k0 + k1).toNat 0 = v3 := hv3.symm
          have bx := hda.get' k0.toNat; have by_ := hdb.get' k1.toNat; have bo := hf6.dg.get' (k0 + k1).toNat; have bc := hf6.c0
          rw [ex] at bx; rw [ey] at by_; rw [eo] at bo
          have bp := Bg.dmul bx by_
          refine V.go [.k (out_1s.v),
            .k (iv k0),
            .k (iv k1),
            .a (k0 + k1) (by omega) (by omega),
            .ix g0 (ko true 3 0 out_1 (fun _ => out_1s)) (k0 + k1) (fun _ => ⟨by omega, by omega⟩),
            .le g0 (ko true 3 0 out_1 (fun _ => out_1s)) (k0 + k1) none false v3 hv3 (fun _ => ⟨by omega, by omega⟩) false (fun _ => [iv v3]),
            .k (iv v1),
            .k (iv v2),
            .ar (v1 * v2) n2 hn2 (by omega) (by omega),
            .a (v3 + n2) (by omega) (by omega),
            .k (iv carry),
            .ar (v3 + n2 + carry) n3 hn3 (by omega) (by omega),
            .k (iv n3)] (fun _ _ => by kernel_rfl) fun _ _ G10 => ?_
          intro S10 t10
          have hxx : n3 = out_1.getD (k0.toNat + k1.toNat) 0 + a.getD k0.toNat 0 * b.getD k1.toNat 0 + carry := by rw [ex, ey, show k0.toNat + k1.toNat = (k0 + k1).toNat by omega, eo]; omega
          have stp := Bg.mul_step hf6 hda hdb (by omega) (by omega) hxx
          have stp1 := stp.1; have stp2 := stp.2; clear stp
          refine nm (n3 % 1048576 : Int) fun n4 hn4 => ?_
          refine nm (n3 / 1048576 : Int) fun n5 hn5 => ?_
          refine nm (out_1.set (k0 + k1).toNat n4 : List Int) fun l2 hl2 => ?_
          have hl2n := congrArg List.length hl2; try simp only [List.length_append, List.length_cons, List.length_nil, List.length_replicate, List.length_set, List.length_take, List.length_drop, List.length_map, List.length_reverse, List.length_range] at hl2n
          refine V.go [.k (out_1s.v),
            .k (iv k0),
            .k (iv k1),
            .a (k0 + k1) (by omega) (by omega),
            .k (iv n3),
            .andm g0 n3 1048575 n4 20 (by decide) rfl (by rw [hn4]; rfl),
            .k (iv n3),
            .shrm g0 .i64 .u64 n3 n5 20 (by decide) (by rw [hn5]; rfl),
            .ix g0 (ko true 3 0 out_1 (fun _ => out_1s)) (k0 + k1) (fun _ => ⟨by omega, by omega⟩),
            .se g0 9 0 3 true out_1 (fun _ => out_1s) (k0 + k1) none v3 n4 hv3 true l2 hl2 (fun _ => ⟨by omega, by omega⟩) (fun _ => rfl) [] (fun _ _ _ _ => trivial),
            .k (iv n5)] (fun _ _ => by kernel_rfl) fun _ _ G11 => ?_
          intro S11 t11
          refine V.go [.a (k1 + 1) (by omega) (by omega),
            .k (iv (k1 + 1))] (fun _ _ => by kernel_rfl) fun _ _ G12 => ?_
          intro S12 t12
          refine V.rnd hZ2 (l2, out_1s, n5, k1 + 1) [0, 1] (by kernel_rfl) ?_ ?_
          · skip
            refine ⟨?_, ?_, ?_⟩
            · show 0 ≤ (k1 + 1)
              first | omega | rfl | (simp; done) | (subst_vars; simp; done)
            · show (k1 + 1) ≤ (b.length : Int)
              first | omega | rfl | (simp; done) | (subst_vars; simp; done)
            · show Bg.MulI a b l2 k0.toNat (k1 + 1).toNat n5
              rw [hl2, hn4, hn5, show (k0 + k1).toNat = k0.toNat + k1.toNat by omega, show (k1 + 1).toNat = k1.toNat + 1 by omega]; exact stp2
          · show ((b.length : Int) - (k1 + 1)).toNat < ((b.length : Int) - k1).toNat
            omega
        · skip
          refine nm (k0 + (b.length : Int) : Int) fun n6 hn6 => ?_
          refine nm (out_1.getD n6.toNat default : Int) fun v4 hv4 => ?_
          refine nm (out_1.set n6.toNat (v4 + carry) : List Int) fun l3 hl3 => ?_
          have hl3n := congrArg List.length hl3; try simp only [List.length_append, List.length_cons, List.length_nil, List.length_replicate, List.length_set, List.length_take, List.length_drop, List.length_map, List.length_reverse, List.length_range] at hl3n
          have hml := hf6
          rw [show k1.toNat = b.length by omega] at hml
          have eo : out_1.getD n6.toNat 0 = v4 := hv4.symm
          have bo := hml.dg.get' n6.toNat; have bc := hml.c0; have hol3 := hml.len
          rw [eo] at bo
          refine V.go [.k (out_1s.v),
            .k (iv k0),
            .k (bs.v),
            .ln (kf false (.f 0) b (fun _ => bs)),
            .ar (k0 + (b.length : Int)) n6 hn6 (by omega) (by omega),
            .ix g0 (ko true 3 0 out_1 (fun _ => out_1s)) n6 (fun _ => ⟨by omega, by omega⟩),
            .le g0 (ko true 3 0 out_1 (fun _ => out_1s)) n6 none false v4 hv4 (fun _ => ⟨by omega, by omega⟩) false (fun _ => [iv v4]),
            .k (iv carry),
            .a (v4 + carry) (by omega) (by omega),
            .ix g0 (ko true 3 0 out_1 (fun _ => out_1s)) n6 (fun _ => ⟨by omega, by omega⟩),
            .se g0 10 0 3 true out_1 (fun _ => out_1s) n6 none v4 (v4 + carry) hv4 true l3 hl3 (fun _ => ⟨by omega, by omega⟩) (fun _ => rfl) [] (fun _ _ _ _ => trivial)] (fun _ _ => by kernel_rfl) fun _ _ G13 => ?_
          intro S13 t13
          refine V.go [.a (k0 + 1) (by omega) (by omega),
            .k (iv (k0 + 1))] (fun _ _ => by kernel_rfl) fun _ _ G14 => ?_
          intro S14 t14
          refine V.rnd hZ1 (l3, out_1s, k0 + 1) [0, 1] (by kernel_rfl) ?_ ?_
          · skip
            refine ⟨?_, ?_, ?_⟩
            · show 0 ≤ (k0 + 1)
              first | omega | rfl | (simp; done) | (subst_vars; simp; done)
            · show (k0 + 1) ≤ (a.length : Int)
              first | omega | rfl | (simp; done) | (subst_vars; simp; done)
            · show Bg.MulO a b l3 (k0 + 1).toNat
              have hme := Bg.mul_end (x := (v4 + carry)) hml (by omega) (by rw [show k0.toNat + b.length = n6.toNat by omega, eo])
              rw [hl3, show n6.toNat = k0.toNat + b.length by omega, show (k0 + 1).toNat = k0.toNat + 1 by omega]; exact hme
          · show ((a.length : Int) - (k0 + 1)).toNat < ((a.length : Int) - k0).toNat
            omega
    · skip
      have hen := hf3
      rw [show k0.toNat = a.length by omega] at hen
      have hsd := hen.dg
      have hse := hen.sum
      rw [List.take_length] at hse
      refine V.go [.k (outs.v),
        .ct g0 1 100 false [0] [] [] (fun _ G => trimo_ct out outs hsd),
        .v fun G => ((G 1).ss 0).v] (fun _ _ => by kernel_rfl) fun _ _ G15 => ?_
      intro S15 t15
      have e0 : Bg.dig (Bg.nv out) = Bg.dig (Bg.nv a * Bg.nv b) := by
        rw [hse]
      rw [← e0]
      exact V.ret [0] [(G15 1).ss 0] [fun _ => {}] [] [] [0] (((G15 1).ss 0).v) (fun _ _ => by kernel_rfl) (fun _ _ => by kernel_rfl) (fun _ _ => trivial)

set_option maxRecDepth 10000 in
theorem mul_ct (a : List Int) (as_ : SV) (b : List Int) (bs : SV) (hda : Bg.Dg a) (hdb : Bg.Dg b) (hla : a.length ≤ 1099511627776) (hlb : b.length ≤ 1099511627776) :
    Ct Try.prog 99 #[as_.v, bs.v] [fs true a as_, fs true b bs] [] (fun g => ((g.ss 0)).v) (fun g => [fs true (Bg.dig (Bg.nv a * Bg.nv b)) (g.ss 0)]) (fun g => []) (fun g => []) := by
  refine V.fn mo Try.func99 67 1 (by kernel_rfl) fun w H ε k0 => ?_
  obtain ⟨⟨kl1, -⟩, ⟨kl2, -⟩, -⟩ : Lq a as_.v ∧ Lq b bs.v ∧ True := kn k0 (by kernel_rfl)
  clear k0
  refine V.go [.k (.slice none 0 0)] (fun _ _ => by kernel_rfl) fun _ _ G1 => ?_
  intro S1 t1
  refine nm ((a.length : Int) + (b.length : Int) : Int) fun n1 hn1 => ?_
  refine nm (List.replicate n1.toNat (0 : Int) : List Int) fun l1 hl1 => ?_
  have hl1n := congrArg List.length hl1; try simp only [List.length_append, List.length_cons, List.length_nil, List.length_replicate, List.length_set, List.length_take, List.length_drop, List.length_map, List.length_reverse, List.length_range] at hl1n
  refine V.go [.k (as_.v),
    .ln (kf false (.f 0) a (fun _ => as_)),
    .k (bs.v),
    .ln (kf false (.f 1) b (fun _ => bs)),
    .ar ((a.length : Int) + (b.length : Int)) n1 hn1 (by omega) (by omega),
    .mks 5 0 3 8 n1 l1 hl1 (by omega) (by omega) (by omega),
    .v fun G => ((G 5).s).v] (fun _ _ => by kernel_rfl) fun _ _ G2 => ?_
  intro S2 t2
  refine V.go [.k (as_.v),
    .ln (kf false (.f 0) a (fun _ => as_)),
    .k (iv 0)] (fun _ _ => by kernel_rfl) fun _ _ G3 => ?_
  intro S3 t3
  refine V.loop (γ := List Int × SV × Int) (fun ⟨out, outs, k0⟩ => ⟨[(1, bs.v), (5, outs.v), (18, as_.v), (19, iv (a.length : Int)), (20, iv k0)], [fs false b bs, fs false a as_], [os true 3 out outs]⟩) (fun ⟨out, outs, k0⟩ => (0 ≤ k0) ∧ (k0 ≤ (a.length : Int)) ∧ (Bg.MulO a b out k0.toNat)) (fun ⟨out, outs, k0⟩ => ((a.length : Int) - k0).toNat) (l1, (G2 5).s, 0) (by kernel_rfl) [1, 0] (by kernel_rfl) ?_ ?_
  · skip
    refine ⟨?_, ?_, ?_⟩
    · show 0 ≤ (0 : Int)
      first | omega | rfl | (simp; done) | (subst_vars; simp; done)
    · show (0 : Int) ≤ (a.length : Int)
      first | omega | rfl | (simp; done) | (subst_vars; simp; done)
    · show Bg.MulO a b l1 (0 : Int).toNat
      rw [hl1, show n1.toNat = a.length + b.length by omega]; exact Bg.mul_start _ _
  · rintro ⟨out, outs, k0⟩ hF1 kw4 Z1 hZ1
    have hF1 : (0 ≤ k0) ∧ (k0 ≤ (a.length : Int)) ∧ (Bg.MulO a b out k0.toNat) := hF1
    obtain ⟨hf1, hf2, hf3⟩ := hF1
    obtain ⟨-, -, ⟨kl3, -⟩, -⟩ : Lq b bs.v ∧ Lq a as_.v ∧ Lq out outs.v ∧ True := kn kw4 (by kernel_rfl)
    clear kw4
    have hol := hf3.len
    refine V.go [.k (bv (decide (k0 < (a.length : Int))))] (fun _ _ => by kernel_rfl) fun _ _ G4 => ?_
    intro S4 t4
    refine V.cond (b := decide (k0 < (a.length : Int))) iDT iDF (by kernel_rfl) (fun q1 => ?_) (fun q2 => ?_)
    · skip
      refine nm (a.getD k0.toNat default : Int) fun v1 hv1 => ?_
      refine V.go [.k (iv k0),
        .ix g0 (kf false (.f 1) a (fun _ => as_)) k0 (fun _ => ⟨by omega, by omega⟩),
        .le g0 (kf false (.f 1) a (fun _ => as_)) k0 none false v1 hv1 (fun _ => ⟨by omega, by omega⟩) false (fun _ => [iv v1]),
        .k (iv k0),
        .k (iv v1)] (fun _ _ => by kernel_rfl) fun _ _ G5 => ?_
      intro S5 t5
      refine V.go [.k (iv 0)] (fun _ _ => by kernel_rfl) fun _ _ G6 => ?_
      intro S6 t6
      refine V.go [.k (bs.v),
        .ln (kf false (.f 0) b (fun _ => bs)),
        .k (iv 0)] (fun _ _ => by kernel_rfl) fun _ _ G7 => ?_
      intro S7 t7
      refine V.loop (γ := List Int × SV × Int × Int) (fun ⟨out_1, out_1s, carry, k1⟩ => ⟨[(1, bs.v), (5, out_1s.v), (6, iv k0), (7, iv v1), (8, iv carry), (18, as_.v), (19, iv (a.length : Int)), (20, iv k0), (25, bs.v), (26, iv (b.length : Int)), (27, iv k1)], [fs false b bs, fs false a as_], [os true 3 out_1 out_1s]⟩) (fun ⟨out_1, out_1s, carry, k1⟩ => (0 ≤ k1) ∧ (k1 ≤ (b.length : Int)) ∧ (Bg.MulI a b out_1 k0.toNat k1.toNat carry)) (fun ⟨out_1, out_1s, carry, k1⟩ => ((b.length : Int) - k1).toNat) (out, outs, 0, 0) (by kernel_rfl) [0, 1] (by kernel_rfl) ?_ ?_
      · skip
        refine ⟨?_, ?_, ?_⟩
        · show 0 ≤ (0 : Int)
          first | omega | rfl | (simp; done) | (subst_vars; simp; done)
        · show (0 : Int) ≤ (b.length : Int)
          first | omega | rfl | (simp; done) | (subst_vars; simp; done)
        · show Bg.MulI a b out k0.toNat (0 : Int).toNat (0 : Int)
          exact Bg.MulO.inner hf3
      · rintro ⟨out_1, out_1s, carry, k1⟩ hF2 kw9 Z2 hZ2
        have hF2 : (0 ≤ k1) ∧ (k1 ≤ (b.length : Int)) ∧ (Bg.MulI a b out_1 k0.toNat k1.toNat carry) := hF2
        obtain ⟨hf4, hf5, hf6⟩ := hF2
        obtain ⟨-, -, ⟨kl4, -⟩, -⟩ : Lq b bs.v ∧ Lq a as_.v ∧ Lq out_1 out_1s.v ∧ True := kn kw9 (by kernel_rfl)
        clear kw9
        have hol2 := hf6.len
        refine V.go [.k (bv (decide (k1 < (b.length : Int))))] (fun _ _ => by kernel_rfl) fun _ _ G8 => ?_
        intro S8 t8
        refine V.cond (b := decide (k1 < (b.length : Int))) iDT iDF (by kernel_rfl) (fun q3 => ?_) (fun q4 => ?_)
        · skip
          refine nm (b.getD k1.toNat default : Int) fun v2 hv2 => ?_
          refine V.go [.k (iv k1),
            .ix g0 (kf false (.f 0) b (fun _ => bs)) k1 (fun _ => ⟨by omega, by omega⟩),
            .le g0 (kf false (.f 0) b (fun _ => bs)) k1 none false v2 hv2 (fun _ => ⟨by omega, by omega⟩) false (fun _ => [iv v2]),
            .k (iv k1),
            .k (iv v2)] (fun _ _ => by kernel_rfl) fun _ _ G9 => ?_
          intro S9 t9
          refine nm (out_1.getD (k0 + k1).toNat default : Int) fun v3 hv3 => ?_
          refine nm (v1 * v2 : Int) fun n2 hn2 => ?_
          refine nm (v3 + n2 + carry : Int) fun n3 hn3 => ?_
          have ex : a.getD k0.toNat 0 = v1 := hv1.symm
          have ey : b.getD k1.toNat 0 = v2 := hv2.symm
          have eo : out_1.getD (k0 + k1).toNat 0 = v3 := hv3.symm
          have bx := hda.get' k0.toNat; have by_ := hdb.get' k1.toNat; have bo := hf6.dg.get' (k0 + k1).toNat; have bc := hf6.c0
          rw [ex] at bx; rw [ey] at by_; rw [eo] at bo
          have bp := Bg.dmul bx by_
          refine V.go [.k (out_1s.v),
            .k (iv k0),
            .k (iv k1),
            .a (k0 + k1) (by omega) (by omega),
            .ix g0 (ko true 3 0 out_1 (fun _ => out_1s)) (k0 + k1) (fun _ => ⟨by omega, by omega⟩),
            .le g0 (ko true 3 0 out_1 (fun _ => out_1s)) (k0 + k1) none false v3 hv3 (fun _ => ⟨by omega, by omega⟩) false (fun _ => [iv v3]),
            .k (iv v1),
            .k (iv v2),
            .ar (v1 * v2) n2 hn2 (by omega) (by omega),
            .a (v3 + n2) (by omega) (by omega),
            .k (iv carry),
            .ar (v3 + n2 + carry) n3 hn3 (by omega) (by omega),
            .k (iv n3)] (fun _ _ => by kernel_rfl) fun _ _ G10 => ?_
          intro S10 t10
          have hxx : n3 = out_1.getD (k0.toNat + k1.toNat) 0 + a.getD k0.toNat 0 * b.getD k1.toNat 0 + carry := by rw [ex, ey, show k0.toNat + k1.toNat = (k0 + k1).toNat by omega, eo]; omega
          have stp := Bg.mul_step hf6 hda hdb (by omega) (by omega) hxx
          have stp1 := stp.1; have stp2 := stp.2; clear stp
          refine nm (n3 % 1048576 : Int) fun n4 hn4 => ?_
          refine nm (n3 / 1048576 : Int) fun n5 hn5 => ?_
          refine nm (out_1.set (k0 + k1).toNat n4 : List Int) fun l2 hl2 => ?_
          have hl2n := congrArg List.length hl2; try simp only [List.length_append, List.length_cons, List.length_nil, List.length_replicate, List.length_set, List.length_take, List.length_drop, List.length_map, List.length_reverse, List.length_range] at hl2n
          refine V.go [.k (out_1s.v),
            .k (iv k0),
            .k (iv k1),
            .a (k0 + k1) (by omega) (by omega),
            .k (iv n3),
            .andm g0 n3 1048575 n4 20 (by decide) rfl (by rw [hn4]; rfl),
            .k (iv n3),
            .shrm g0 .i64 .u64 n3 n5 20 (by decide) (by rw [hn5]; rfl),
            .ix g0 (ko true 3 0 out_1 (fun _ => out_1s)) (k0 + k1) (fun _ => ⟨by omega, by omega⟩),
            .se g0 9 0 3 true out_1 (fun _ => out_1s) (k0 + k1) none v3 n4 hv3 true l2 hl2 (fun _ => ⟨by omega, by omega⟩) (fun _ => rfl) [] (fun _ _ _ _ => trivial),
            .k (iv n5)] (fun _ _ => by kernel_rfl) fun _ _ G11 => ?_
          intro S11 t11
          refine V.go [.a (k1 + 1) (by omega) (by omega),
            .k (iv (k1 + 1))] (fun _ _ => by kernel_rfl) fun _ _ G12 => ?_
          intro S12 t12
          refine V.rnd hZ2 (l2, out_1s, n5, k1 + 1) [0, 1] (by kernel_rfl) ?_ ?_
          · skip
            refine ⟨?_, ?_, ?_⟩
            · show 0 ≤ (k1 + 1)
              first | omega | rfl | (simp; done) | (subst_vars; simp; done)
            · show (k1 + 1) ≤ (b.length : Int)
              first | omega | rfl | (simp; done) | (subst_vars; simp; done)
            · show Bg.MulI a b l2 k0.toNat (k1 + 1).toNat n5
              rw [hl2, hn4, hn5, show (k0 + k1).toNat = k0.toNat + k1.toNat by omega, show (k1 + 1).toNat = k1.toNat + 1 by omega]; exact stp2
          · show ((b.length : Int) - (k1 + 1)).toNat < ((b.length : Int) - k1).toNat
            omega
        · skip
          refine nm (k0 + (b.length : Int) : Int) fun n6 hn6 => ?_
          refine nm (out_1.getD n6.toNat default : Int) fun v4 hv4 => ?_
          refine nm (out_1.set n6.toNat (v4 + carry) : List Int) fun l3 hl3 => ?_
          have hl3n := congrArg List.length hl3; try simp only [List.length_append, List.length_cons, List.length_nil, List.length_replicate, List.length_set, List.length_take, List.length_drop, List.length_map, List.length_reverse, List.length_range] at hl3n
          have hml := hf6
          rw [show k1.toNat = b.length by omega] at hml
          have eo : out_1.getD n6.toNat 0 = v4 := hv4.symm
          have bo := hml.dg.get' n6.toNat; have bc := hml.c0; have hol3 := hml.len
          rw [eo] at bo
          refine V.go [.k (out_1s.v),
            .k (iv k0),
            .k (bs.v),
            .ln (kf false (.f 0) b (fun _ => bs)),
            .ar (k0 + (b.length : Int)) n6 hn6 (by omega) (by omega),
            .ix g0 (ko true 3 0 out_1 (fun _ => out_1s)) n6 (fun _ => ⟨by omega, by omega⟩),
            .le g0 (ko true 3 0 out_1 (fun _ => out_1s)) n6 none false v4 hv4 (fun _ => ⟨by omega, by omega⟩) false (fun _ => [iv v4]),
            .k (iv carry),
            .a (v4 + carry) (by omega) (by omega),
            .ix g0 (ko true 3 0 out_1 (fun _ => out_1s)) n6 (fun _ => ⟨by omega, by omega⟩),
            .se g0 10 0 3 true out_1 (fun _ => out_1s) n6 none v4 (v4 + carry) hv4 true l3 hl3 (fun _ => ⟨by omega, by omega⟩) (fun _ => rfl) [] (fun _ _ _ _ => trivial)] (fun _ _ => by kernel_rfl) fun _ _ G13 => ?_
          intro S13 t13
          refine V.go [.a (k0 + 1) (by omega) (by omega),
            .k (iv (k0 + 1))] (fun _ _ => by kernel_rfl) fun _ _ G14 => ?_
          intro S14 t14
          refine V.rnd hZ1 (l3, out_1s, k0 + 1) [0, 1] (by kernel_rfl) ?_ ?_
          · skip
            refine ⟨?_, ?_, ?_⟩
            · show 0 ≤ (k0 + 1)
              first | omega | rfl | (simp; done) | (subst_vars; simp; done)
            · show (k0 + 1) ≤ (a.length : Int)
              first | omega | rfl | (simp; done) | (subst_vars; simp; done)
            · show Bg.MulO a b l3 (k0 + 1).toNat
              have hme := Bg.mul_end (x := (v4 + carry)) hml (by omega) (by rw [show k0.toNat + b.length = n6.toNat by omega, eo])
              rw [hl3, show n6.toNat = k0.toNat + b.length by omega, show (k0 + 1).toNat = k0.toNat + 1 by omega]; exact hme
          · show ((a.length : Int) - (k0 + 1)).toNat < ((a.length : Int) - k0).toNat
            omega
    · skip
      have hen := hf3
      rw [show k0.toNat = a.length by omega] at hen
      have hsd := hen.dg
      have hse := hen.sum
      rw [List.take_length] at hse
      refine V.frz 0 true 3 out outs (by kernel_rfl) ?_
      refine V.reg [.k (outs.v),
        .ctT g0 1 100 [(kf true (.f 2) out (fun _ => outs)).a] (fun _ G => trim_ct out outs hsd),
        .v fun G => ((G 1).ss 0).v] (fun _ _ => by kernel_rfl) fun _ _ G15 kw17 => ?_
      intro S15 t15
      obtain ⟨⟨kl5, -⟩, -⟩ : Lq (Bg.dig (Bg.nv out)) (((G15 1).ss 0).v) ∧ True := kn kw17 (by kernel_rfl)
      clear kw17
      have e0 : Bg.dig (Bg.nv out) = Bg.dig (Bg.nv a * Bg.nv b) := by
        rw [hse]
      rw [← e0]
      exact V.ret [0] [(G15 1).ss 0] [fun _ => {}] [] [3] [] (((G15 1).ss 0).v) (fun _ _ => by kernel_rfl) (fun _ _ => by kernel_rfl) (fun _ _ => trivial)
theorem mul_ctv (a : List Int) (as_ : SV) (b : List Int) (bs : SV) (hda : Bg.Dg a) (hdb : Bg.Dg b) (hla : a.length ≤ 1099511627776) (hlb : b.length ≤ 1099511627776) (rv0 : List Int) (erv0 : rv0 = Bg.dig (Bg.nv a * Bg.nv b)) :
    Ct Try.prog 99 #[as_.v, bs.v] [fs true a as_, fs true b bs] [] (fun g => ((g.ss 0)).v) (fun g => [fs true rv0 (g.ss 0)]) (fun g => []) (fun g => []) := by
  subst erv0; exact mul_ct a as_ b bs hda hdb hla hlb

set_option maxRecDepth 10000 in
theorem short_ct (a : List Int) (as_ : SV) (d : Int) (hda : Bg.Dg a) (hdd : 0 < d ∧ d < 1048576) (hla : a.length ≤ 1099511627776) :
    Ct Try.prog 104 #[as_.v, iv d] [fs true a as_] [] (fun g => .tuple #[((g.ss 0)).v, iv ((Bg.nv a % d.toNat : Nat) : Int)]) (fun g => [fs true (Bg.dig (Bg.nv a / d.toNat)) (g.ss 0)]) (fun g => []) (fun g => []) := by
  refine V.fn mo Try.func104 38 1 (by kernel_rfl) fun w H ε k0 => ?_
  obtain ⟨⟨kl1, -⟩, -⟩ : Lq a as_.v ∧ True := kn k0 (by kernel_rfl)
  clear k0
  refine V.go [.k (.slice none 0 0),
    .k (iv 0)] (fun _ _ => by kernel_rfl) fun _ _ G1 => ?_
  intro S1 t1
  refine nm (List.replicate (a.length : Int).toNat (0 : Int) : List Int) fun l1 hl1 => ?_
  have hl1n := congrArg List.length hl1; try simp only [List.length_append, List.length_cons, List.length_nil, List.length_replicate, List.length_set, List.length_take, List.length_drop, List.length_map, List.length_reverse, List.length_range] at hl1n
  refine V.go [.k (as_.v),
    .ln (kf false (.f 0) a (fun _ => as_)),
    .mks 2 0 3 8 (a.length : Int) l1 hl1 (by omega) (by omega) (by omega),
    .v fun G => ((G 2).s).v] (fun _ _ => by kernel_rfl) fun _ _ G2 => ?_
  intro S2 t2
  refine V.go [.k (iv 0)] (fun _ _ => by kernel_rfl) fun _ _ G3 => ?_
  intro S3 t3
  refine nm ((a.length : Int) - 1 : Int) fun n1 hn1 => ?_
  refine V.go [.k (as_.v),
    .ln (kf false (.f 0) a (fun _ => as_)),
    .ar ((a.length : Int) - 1) n1 hn1 (by omega) (by omega),
    .k (iv n1)] (fun _ _ => by kernel_rfl) fun _ _ G4 => ?_
  intro S4 t4
  refine V.loop (γ := List Int × SV × Int × Int) (fun ⟨out, outs, r, i⟩ => ⟨[(0, as_.v), (1, iv d), (6, outs.v), (7, iv r), (8, iv i)], [fs false a as_], [os true 3 out outs]⟩) (fun ⟨out, outs, r, i⟩ => (-1 ≤ i) ∧ (i < (a.length : Int)) ∧ (Bg.ShoI a out d (i + 1).toNat r)) (fun ⟨out, outs, r, i⟩ => (i + 1).toNat) (l1, (G2 2).s, 0, n1) (by kernel_rfl) [0] (by kernel_rfl) ?_ ?_
  · skip
    refine ⟨?_, ?_, ?_⟩
    · show -1 ≤ n1
      omega
    · show n1 < (a.length : Int)
      omega
    · show Bg.ShoI a l1 d (n1 + 1).toNat (0 : Int)
      rw [show (n1 + 1).toNat = a.length by omega, hl1, show ((a.length : Int)).toNat = a.length by omega]; exact Bg.sho_start _ hdd.1
  · rintro ⟨out, outs, r, i⟩ hF1 kw5 Z1 hZ1
    have hF1 : (-1 ≤ i) ∧ (i < (a.length : Int)) ∧ (Bg.ShoI a out d (i + 1).toNat r) := hF1
    obtain ⟨hf1, hf2, hf3⟩ := hF1
    obtain ⟨-, ⟨kl2, -⟩, -⟩ : Lq a as_.v ∧ Lq out outs.v ∧ True := kn kw5 (by kernel_rfl)
    clear kw5
    refine V.go [.k (iv i),
      .k (bv (decide (0 ≤ i)))] (fun _ _ => by kernel_rfl) fun _ _ G5 => ?_
    intro S5 t5
    refine V.cond (b := decide (0 ≤ i)) iDT iDF (by kernel_rfl) (fun q1 => ?_) (fun q2 => ?_)
    · skip
      refine nm (r * 1048576 : Int) fun n2 hn2 => ?_
      refine nm (a.getD i.toNat default : Int) fun v1 hv1 => ?_
      refine nm (n2 + v1 : Int) fun n3 hn3 => ?_
      have ea : a.getD i.toNat 0 = v1 := hv1.symm
      have ba := hda.get' i.toNat; rw [ea] at ba
      have br := hf3.r0
      have hol := hf3.len
      refine V.go [.k (iv r),
        .shlm g0 .i64 .u64 r 20 n2 20 (fun _ => ⟨rfl, by decide, by show _ = IntKind.i64.wrap (r * 1048576); rw [IntKind.wrap_i64]; omega⟩),
        .k (as_.v),
        .k (iv i),
        .ix g0 (kf false (.f 0) a (fun _ => as_)) i (fun _ => ⟨by omega, by omega⟩),
        .le g0 (kf false (.f 0) a (fun _ => as_)) i none false v1 hv1 (fun _ => ⟨by omega, by omega⟩) false (fun _ => [iv v1]),
        .orm g0 n2 r v1 n3 20 (by rw [hn2]; rfl) (fun _ => ⟨by decide, by omega, ⟨by omega, by show _ < (1048576 : Int); omega⟩, by rw [hn3, hn2]; rfl, by omega⟩),
        .k (iv n3)] (fun _ _ => by kernel_rfl) fun _ _ G6 => ?_
      intro S6 t6
      have hsf := hf3
      rw [show (i + 1).toNat = i.toNat + 1 by omega] at hsf
      have stp := Bg.sho_step (x := n3) hsf hda hdd (by omega) (by rw [ea]; omega)
      have stp1 := stp.1; have stp2 := stp.2.1; have stp3 := stp.2.2; clear stp
      refine nm (n3 / d : Int) fun n4 hn4 => ?_
      refine nm (out.getD i.toNat default : Int) fun v2 hv2 => ?_
      refine nm (out.set i.toNat n4 : List Int) fun l2 hl2 => ?_
      have hl2n := congrArg List.length hl2; try simp only [List.length_append, List.length_cons, List.length_nil, List.length_replicate, List.length_set, List.length_take, List.length_drop, List.length_map, List.length_reverse, List.length_range] at hl2n
      refine V.go [.k (outs.v),
        .k (iv i),
        .k (iv n3),
        .k (iv d),
        .qov g0 n3 d n4 hn4 (fun _ => ⟨by omega, by omega⟩) (fun _ => by omega),
        .ix g0 (ko true 3 0 out (fun _ => outs)) i (fun _ => ⟨by omega, by omega⟩),
        .se g0 6 0 3 true out (fun _ => outs) i none v2 n4 hv2 true l2 hl2 (fun _ => ⟨by omega, by omega⟩) (fun _ => rfl) [] (fun _ _ _ _ => trivial)] (fun _ _ => by kernel_rfl) fun _ _ G7 => ?_
      intro S7 t7
      refine nm (n3 % d : Int) fun n5 hn5 => ?_
      refine V.go [.k (iv n3),
        .k (iv d),
        .rmv g0 n3 d n5 hn5 (fun _ => ⟨by omega, by omega⟩),
        .k (iv n5)] (fun _ _ => by kernel_rfl) fun _ _ G8 => ?_
      intro S8 t8
      refine V.go [.k (iv i),
        .a (i - 1) (by omega) (by omega),
        .k (iv (i - 1))] (fun _ _ => by kernel_rfl) fun _ _ G9 => ?_
      intro S9 t9
      refine V.rnd hZ1 (l2, outs, n5, i - 1) [0] (by kernel_rfl) ?_ ?_
      · skip
        refine ⟨?_, ?_, ?_⟩
        · show -1 ≤ (i - 1)
          omega
        · show (i - 1) < (a.length : Int)
          omega
        · show Bg.ShoI a l2 d ((i - 1) + 1).toNat n5
          rw [hl2, hn4, hn5, show (i - 1 + 1).toNat = i.toNat by omega]; exact stp3
      · show ((i - 1) + 1).toNat < (i + 1).toNat
        omega
    · skip
      have hen := hf3
      rw [show (i + 1).toNat = 0 by omega] at hen
      have hsd := hen.dg
      obtain ⟨hse, hsr⟩ := Bg.sho_end hen
      refine V.frz 0 true 3 out outs (by kernel_rfl) ?_
      refine V.reg [.k (outs.v),
        .ctT g0 1 100 [(kf true (.f 1) out (fun _ => outs)).a] (fun _ G => trim_ct out outs hsd),
        .k (iv r),
        .v fun G => ((G 1).ss 0).v,
        .k (iv r)] (fun _ _ => by kernel_rfl) fun _ _ G10 kw11 => ?_
      intro S10 t10
      obtain ⟨⟨kl3, -⟩, -⟩ : Lq (Bg.dig (Bg.nv out)) (((G10 1).ss 0).v) ∧ True := kn kw11 (by kernel_rfl)
      clear kw11
      have e0 : Bg.dig (Bg.nv out) = Bg.dig (Bg.nv a / d.toNat) := by
        rw [hse]
      rw [← e0]
      have e1 : r = ((Bg.nv a % d.toNat : Nat) : Int) := by
        exact hsr
      exact V.ret [0, 0] [(G10 1).ss 0] [fun _ => {}] [] [2] [] (.tuple #[((G10 1).ss 0).v, iv r]) (fun _ _ => by kernel_rfl) (fun _ _ => (Eq.trans (by kernel_rfl) (cong1 (fun (x1 : Int) => (.tuple #[((G10 1).ss 0).v, iv x1] : Value)) e1)).trans (by kernel_rfl)) (fun _ _ => trivial)
theorem short_ctv (a : List Int) (as_ : SV) (d : Int) (hda : Bg.Dg a) (hdd : 0 < d ∧ d < 1048576) (hla : a.length ≤ 1099511627776) (rv0 : List Int) (erv0 : rv0 = Bg.dig (Bg.nv a / d.toNat)) (rv1 : Int) (erv1 : rv1 = ((Bg.nv a % d.toNat : Nat) : Int)) :
    Ct Try.prog 104 #[as_.v, iv d] [fs true a as_] [] (fun g => .tuple #[((g.ss 0)).v, iv rv1]) (fun g => [fs true rv0 (g.ss 0)]) (fun g => []) (fun g => []) := by
  subst erv0 erv1; exact short_ct a as_ d hda hdd hla

end Kb
