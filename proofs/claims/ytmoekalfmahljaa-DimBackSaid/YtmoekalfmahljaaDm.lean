/- Dimensions and their texts. No program in sight. -/
import Derived.Test.YtmoekalfmahljaaHp
import Derived.Lib.Join
set_option linter.unusedVariables false
set_option linter.unusedSectionVars false
set_option linter.unusedSimpArgs false
namespace Kb
open Go
namespace Dm
def Rt (l : List Int) : Prop := ∀ x ∈ l, -9 ≤ x ∧ x ≤ 9
instance (l : List Int) : Decidable (Rt l) := by unfold Rt; infer_instance
theorem Rt6 {a b c d e f : Int} : Rt [a, b, c, d, e, f] ↔ (-9 ≤ a ∧ a ≤ 9) ∧ (-9 ≤ b ∧ b ≤ 9) ∧ (-9 ≤ c ∧ c ≤ 9) ∧ (-9 ≤ d ∧ d ≤ 9) ∧ (-9 ≤ e ∧ e ≤ 9) ∧ -9 ≤ f ∧ f ≤ 9 := by
  unfold Rt; simp
def mk (l : List Int) (i : Nat) : Int := if Rt l then l.getD i 0 else 0
def mkE (l : List Int) : Int := if Rt l then 0 else 3
def opV (p : Prop) [Decidable p] (l : List Int) (i : Nat) : Int := if p then mk l i else 0
def opE (p : Prop) [Decidable p] (l : List Int) : Int := if p then mkE l else 1
theorem mk_y {l : List Int} (h : Rt l) (i : Nat) : mk l i = l.getD i 0 := if_pos h
theorem mk_n {l : List Int} (h : ¬ Rt l) (i : Nat) : mk l i = 0 := if_neg h
theorem mkE_y {l : List Int} (h : Rt l) : mkE l = 0 := if_pos h
theorem mkE_n {l : List Int} (h : ¬ Rt l) : mkE l = 3 := if_neg h
theorem opV_y {p : Prop} [Decidable p] (h : p) (l : List Int) (i : Nat) : opV p l i = mk l i := if_pos h
theorem opV_n {p : Prop} [Decidable p] (h : ¬ p) (l : List Int) (i : Nat) : opV p l i = 0 := if_neg h
theorem opE_y {p : Prop} [Decidable p] (h : p) (l : List Int) : opE p l = mkE l := if_pos h
theorem opE_n {p : Prop} [Decidable p] (h : ¬ p) (l : List Int) : opE p l = 1 := if_neg h
/-- a power by a number that is not too great -/
theorem clamp {a b c d e f n m : Int} (h : Rt [a, b, c, d, e, f]) (hz : ¬ (a = 0 ∧ b = 0 ∧ c = 0 ∧ d = 0 ∧ e = 0 ∧ f = 0)) (hm : m = max (-10) (min n 10)) :
    (Rt [a * m, b * m, c * m, d * m, e * m, f * m] ↔ Rt [a * n, b * n, c * n, d * n, e * n, f * n]) ∧ (Rt [a * n, b * n, c * n, d * n, e * n, f * n] → m = n) := by
  have one : ∀ x k : Int, x ≠ 0 → -9 ≤ x * k → x * k ≤ 9 → -9 ≤ k ∧ k ≤ 9 := fun x k hx h1 h2 => by
    have h3 : (x * k).natAbs ≤ 9 := by omega
    rw [Int.natAbs_mul] at h3
    have h4 : 1 * k.natAbs ≤ x.natAbs * k.natAbs := Nat.mul_le_mul_right _ (by omega)
    omega
  have key : ∀ k : Int, Rt [a * k, b * k, c * k, d * k, e * k, f * k] → -9 ≤ k ∧ k ≤ 9 := fun k hk => by
    rw [Rt6] at hk
    by_cases ha : a = 0
    · by_cases hb : b = 0
      · by_cases hc : c = 0
        · by_cases hd : d = 0
          · by_cases he : e = 0
            · by_cases hf : f = 0
              · exact absurd ⟨ha, hb, hc, hd, he, hf⟩ hz
              · exact one f k hf hk.2.2.2.2.2.1 hk.2.2.2.2.2.2
            · exact one e k he hk.2.2.2.2.1.1 hk.2.2.2.2.1.2
          · exact one d k hd hk.2.2.2.1.1 hk.2.2.2.1.2
        · exact one c k hc hk.2.2.1.1 hk.2.2.1.2
      · exact one b k hb hk.2.1.1 hk.2.1.2
    · exact one a k ha hk.1.1 hk.1.2
  refine ⟨⟨fun hh => ?_, fun hh => ?_⟩, fun hh => ?_⟩
  · have := key m hh
    have e : m = n := by omega
    rw [← e]; exact hh
  · have := key n hh
    have e : m = n := by omega
    rw [e]; exact hh
  · have := key n hh
    omega
/-! ### texts -/
def sy : List ByteArray := [⟨#[103]⟩, ⟨#[109]⟩, ⟨#[115]⟩, ⟨#[74]⟩, ⟨#[99, 101, 110, 116]⟩, ⟨#[112, 99]⟩]
def item (s : ByteArray) (e : Int) : ByteArray := if e = 1 then s else s ++ ⟨#[UInt8.ofNat (48 + e).toNat]⟩
def abN (D : List Int) : Nat → List ByteArray
  | 0 => []
  | n + 1 => if 0 < D.getD n 0 then abN D n ++ [item (sy.getD n default) (D.getD n 0)] else abN D n
def beN (D : List Int) : Nat → ByteArray
  | 0 => ByteArray.empty
  | n + 1 => if D.getD n 0 < 0 then beN D n ++ (⟨#[47]⟩ ++ item (sy.getD n default) (-D.getD n 0)) else beN D n
def jn (l : List ByteArray) (sep : ByteArray) : ByteArray := ⟨(Lib.join (l.map (·.data.toList)) sep.data.toList).toArray⟩
def ab (D : List Int) : List ByteArray := if (abN D 6).length = 0 then [⟨#[49]⟩] else abN D 6
def text (D : List Int) : ByteArray := if Rt D then jn (ab D) ⟨#[42]⟩ ++ beN D 6 else ByteArray.empty
theorem item_size {s : ByteArray} {e : Int} : s.size ≤ (item s e).size ∧ (item s e).size ≤ s.size + 1 := by
  unfold item; split
  · omega
  · rw [ByteArray.size_append]
    have : (⟨#[UInt8.ofNat (48 + e).toNat]⟩ : ByteArray).size = 1 := rfl
    omega
theorem sy_size (n : Nat) : (sy.getD n default).size ≤ 4 := by
  unfold sy
  match n with
  | 0 => decide
  | 1 => decide
  | 2 => decide
  | 3 => decide
  | 4 => decide
  | 5 => decide
  | n + 6 => simp [List.getD_eq_getElem?_getD]; decide
theorem abN_mem {D : List Int} : ∀ n, (abN D n).length ≤ n ∧ ∀ x ∈ abN D n, x.size ≤ 5
  | 0 => ⟨Nat.le_refl _, fun x h => by cases h⟩
  | n + 1 => by
    obtain ⟨h1, h2⟩ := abN_mem (D := D) n
    unfold abN; split
    · refine ⟨by simp; omega, fun x hx => ?_⟩
      rcases List.mem_append.1 hx with hx | hx
      · exact h2 x hx
      · have : x = item (sy.getD n default) (D.getD n 0) := by simpa using hx
        subst this
        have a := (item_size (s := sy.getD n default) (e := D.getD n 0)).2
        have b := sy_size n
        omega
    · exact ⟨by omega, h2⟩
theorem beN_size {D : List Int} : ∀ n, (beN D n).size ≤ 6 * n
  | 0 => by show ByteArray.empty.size ≤ 0; decide
  | n + 1 => by
    have ih := beN_size (D := D) n
    unfold beN; split
    · rw [ByteArray.size_append, ByteArray.size_append]
      have a := (item_size (s := sy.getD n default) (e := -D.getD n 0)).2
      have b := sy_size n
      have c : (⟨#[47]⟩ : ByteArray).size = 1 := rfl
      omega
    · omega
theorem lens_le {l : List ByteArray} (h : ∀ x ∈ l, x.size ≤ 5) : Lib.lens (l.map (·.data.toList)) ≤ 5 * l.length := by
  induction l with
  | nil => simp [Lib.lens]
  | cons x l ih =>
    have h1 := ih fun y hy => h y (List.mem_cons_of_mem _ hy)
    have h2 := h x List.mem_cons_self
    have e : (x.data.toList).length = x.size := by rw [Array.length_toList]; rfl
    simp only [Lib.lens, List.map_cons, List.sum_cons, List.length_cons] at h1 ⊢
    rw [e]; omega
theorem jn_size {l : List ByteArray} (h : ∀ x ∈ l, x.size ≤ 5) (hl : l.length ≤ 6) : (Lib.join (l.map (·.data.toList)) (⟨#[42]⟩ : ByteArray).data.toList).length ≤ 36 ∧ (jn l ⟨#[42]⟩).size ≤ 36 := by
  have key : (Lib.join (l.map (·.data.toList)) (⟨#[42]⟩ : ByteArray).data.toList).length ≤ 36 := by
    cases l with
    | nil => simp [Lib.join_nil]
    | cons x l =>
      rw [List.map_cons, Lib.join_length]
      have h1 := lens_le h
      rw [List.map_cons] at h1
      have e : ((⟨#[42]⟩ : ByteArray).data.toList) = [42] := rfl
      rw [e]
      simp only [List.length_cons, List.length_map, List.length_nil] at h1 hl ⊢
      omega
  refine ⟨key, ?_⟩
  unfold jn
  show (Lib.join _ _).toArray.size ≤ 36
  rw [List.size_toArray]; exact key
theorem ab_ok (D : List Int) : (∀ x ∈ ab D, x.size ≤ 5) ∧ (ab D).length ≤ 6 := by
  unfold ab; split
  · exact ⟨fun x hx => by have : x = ⟨#[49]⟩ := by simpa using hx
                          subst this; decide, by simp⟩
  · exact ⟨(abN_mem 6).2, (abN_mem 6).1⟩
theorem text_size (D : List Int) : (text D).size ≤ 72 := by
  unfold text; split
  · rw [ByteArray.size_append]
    have := (jn_size (ab_ok D).1 (ab_ok D).2).2
    have := beN_size (D := D) 6
    omega
  · decide
/-! ### reading -/
def cpB (s p : ByteArray) : Prop := (p.size : Int) ≤ s.size ∧ s.extract 0 p.size = p
instance (s p : ByteArray) : Decidable (cpB s p) := by unfold cpB; infer_instance
def cpR (s p : ByteArray) : ByteArray := if cpB s p then s.extract p.size s.size else s
/-- what follows a symbol -/
def aft (i : Int) (t : ByteArray) : Int × Int × ByteArray :=
  if t.size ≠ 0 ∧ 50 ≤ ((bl t).getD 0 default).toNat ∧ ((bl t).getD 0 default).toNat ≤ 57 then (i, (((bl t).getD 0 default).toNat : Int) - 48, t.extract 1 t.size) else (i, 1, t)
def cutN (s : ByteArray) : Nat → List ByteArray → Option (Int × Int × ByteArray)
  | _, [] => none
  | i, p :: l => if cpB s p then some (aft i (cpR s p)) else cutN s (i + 1) l
def cut (s : ByteArray) : Option (Int × Int × ByteArray) := cutN s 0 sy
def cuB (s : ByteArray) : Int := ((cut s).getD (0, 0, ByteArray.empty)).1
def cuE (s : ByteArray) : Int := ((cut s).getD (0, 0, ByteArray.empty)).2.1
def cuR (s : ByteArray) : ByteArray := ((cut s).getD (0, 0, ByteArray.empty)).2.2
def parseN : Nat → ByteArray → List Int → Option (List Int)
  | 0, r, d => if r.size = 0 then some d else none
  | n + 1, r, d => if r.size = 0 then some d else
      if ¬ (((bl r).getD 0 default).toNat = 42 ∨ ((bl r).getD 0 default).toNat = 47) then none else
      match cut (r.extract 1 r.size) with
      | none => none
      | some (b, e, r') => parseN n r' (d.set b.toNat (if ((bl r).getD 0 default).toNat = 42 then e else -e))
def start (s : ByteArray) : ByteArray := if cpB s ⟨#[49]⟩ then cpR s ⟨#[49]⟩ else ⟨#[42]⟩ ++ s
def parse (r : ByteArray) (d : List Int) : Option (List Int) := parseN r.size r d
def read (s : ByteArray) : Option (List Int) := match parse (start s) [0, 0, 0, 0, 0, 0] with
  | none => none
  | some d => if text d = s then some d else none
def rdB (s : ByteArray) : Bool := (read s).isSome
def rdV (s : ByteArray) (i : Nat) : Int := ((read s).getD [0, 0, 0, 0, 0, 0]).getD i 0
theorem cpR_size {s p : ByteArray} : (cpR s p).size ≤ s.size := by
  unfold cpR; split
  · rw [ByteArray.size_extract]; omega
  · omega
theorem aft_ok {i : Int} {t : ByteArray} : (aft i t).1 = i ∧ (1 ≤ (aft i t).2.1 ∧ (aft i t).2.1 ≤ 9) ∧ (aft i t).2.2.size ≤ t.size := by
  unfold aft
  split
  · rename_i h; refine ⟨rfl, ?_, ?_⟩
    · show 1 ≤ (((bl t).getD 0 default).toNat : Int) - 48 ∧ (((bl t).getD 0 default).toNat : Int) - 48 ≤ 9; omega
    · show (t.extract 1 t.size).size ≤ _; rw [ByteArray.size_extract]; omega
  · exact ⟨rfl, ⟨by show (1 : Int) ≤ 1; omega, by show (1 : Int) ≤ 9; omega⟩, Nat.le_refl _⟩
theorem cutN_ok {s : ByteArray} : ∀ (l : List ByteArray) (i : Nat) (x : Int × Int × ByteArray), cutN s i l = some x → ((i : Int) ≤ x.1 ∧ x.1 < i + l.length) ∧ (1 ≤ x.2.1 ∧ x.2.1 ≤ 9) ∧ x.2.2.size ≤ s.size
  | [], _, _, h => by cases h
  | p :: l, i, x, h => by
    unfold cutN at h
    split at h
    · obtain rfl := Option.some.inj h
      obtain ⟨h1, h2, h3⟩ := aft_ok (i := (i : Int)) (t := cpR s p)
      have := cpR_size (s := s) (p := p)
      rw [h1]
      exact ⟨by simp; omega, h2, by omega⟩
    · obtain ⟨h1, h2, h3⟩ := cutN_ok l (i + 1) x h
      exact ⟨by simp only [List.length_cons]; omega, h2, h3⟩
theorem cut_ok {s : ByteArray} (h : (cut s).isSome = true) : (0 ≤ cuB s ∧ cuB s < 6) ∧ (1 ≤ cuE s ∧ cuE s ≤ 9) ∧ (cuR s).size ≤ s.size := by
  obtain ⟨x, hx⟩ := Option.isSome_iff_exists.1 h
  obtain ⟨h1, h2, h3⟩ := cutN_ok sy 0 x hx
  unfold cuB cuE cuR
  rw [hx]
  simp only [sy, List.length_cons, List.length_nil] at h1
  exact ⟨by simp; omega, by simpa using h2, by simpa using h3⟩
theorem parseN_fuel : ∀ (n m : Nat) (r : ByteArray) (d : List Int), r.size ≤ n → r.size ≤ m → parseN n r d = parseN m r d
  | 0, 0, _, _, _, _ => rfl
  | 0, m + 1, r, d, h, _ => by
    have h0 : r.size = 0 := by omega
    unfold parseN; rw [if_pos h0, if_pos h0]
  | n + 1, 0, r, d, _, h => by
    have h0 : r.size = 0 := by omega
    unfold parseN; rw [if_pos h0, if_pos h0]
  | n + 1, m + 1, r, d, h1, h2 => by
    unfold parseN
    by_cases h0 : r.size = 0
    · rw [if_pos h0, if_pos h0]
    · rw [if_neg h0, if_neg h0]
      by_cases hc : ¬ (((bl r).getD 0 default).toNat = 42 ∨ ((bl r).getD 0 default).toNat = 47)
      · rw [if_pos hc, if_pos hc]
      · rw [if_neg hc, if_neg hc]
        cases hx : cut (r.extract 1 r.size) with
        | none => rfl
        | some x =>
          obtain ⟨b, e, r'⟩ := x
          have := (cutN_ok sy 0 _ hx).2.2
          simp only at this
          rw [ByteArray.size_extract] at this
          exact parseN_fuel n m r' _ (by omega) (by omega)
theorem parse_end {r : ByteArray} {d : List Int} (h : r = ByteArray.empty) : parse r d = some d := by subst h; rfl
theorem size_ne {r : ByteArray} (h : ¬ r = ByteArray.empty) : r.size ≠ 0 := fun h0 => h (by
  apply bl_inj
  rw [bl_empty]
  exact List.eq_nil_of_length_eq_zero (by rw [bl_len]; exact h0))
theorem parse_bad {r : ByteArray} {d : List Int} {c : UInt8} (h : ¬ r = ByteArray.empty) (hc : c = (bl r).getD (0 : Int).toNat default) (h1 : ¬ (c.toNat : Int) = 42) (h2 : ¬ (c.toNat : Int) = 47) : parse r d = none := by
  have h0 := size_ne h
  unfold parse
  obtain ⟨n, hn⟩ : ∃ n, r.size = n + 1 := ⟨r.size - 1, by omega⟩
  rw [hn, parseN, if_neg h0, if_pos]
  subst hc
  rintro (h | h)
  · exact h1 (by exact_mod_cast h)
  · exact h2 (by exact_mod_cast h)
theorem parse_none {r t : ByteArray} {d : List Int} (h : ¬ r = ByteArray.empty) (ht : t = r.extract (1 : Int).toNat (r.size : Int).toNat) (hc : ¬ (cut t).isSome = true) : parse r d = none := by
  have h0 := size_ne h
  have ht' : t = r.extract 1 r.size := by rw [ht]; rfl
  unfold parse
  obtain ⟨n, hn⟩ : ∃ n, r.size = n + 1 := ⟨r.size - 1, by omega⟩
  rw [hn, parseN, if_neg h0]
  split
  · rfl
  · rw [← ht']
    cases hx : cut t with
    | none => rfl
    | some x => rw [hx] at hc; exact absurd rfl hc
theorem parse_step {r t : ByteArray} {d : List Int} {c : UInt8} {sg : Int} (h : ¬ r = ByteArray.empty) (hc : c = (bl r).getD (0 : Int).toNat default) (ht : t = r.extract (1 : Int).toNat (r.size : Int).toNat) (hx : (cut t).isSome = true) (hs : ((c.toNat : Int) = 42 ∧ sg = 1) ∨ (¬ (c.toNat : Int) = 42 ∧ (c.toNat : Int) = 47 ∧ sg = -1)) :
    parse r d = parse (cuR t) (d.set (cuB t).toNat (sg * cuE t)) := by
  have h0 := size_ne h
  have ht' : t = r.extract 1 r.size := by rw [ht]; rfl
  obtain ⟨⟨b, e, r'⟩, hx'⟩ := Option.isSome_iff_exists.1 hx
  have hsz := (cut_ok hx).2.2
  rw [ht', ByteArray.size_extract, ← ht'] at hsz
  unfold parse
  obtain ⟨n, hn⟩ : ∃ n, r.size = n + 1 := ⟨r.size - 1, by omega⟩
  have hc' : c = (bl r).getD 0 default := hc
  rw [hn, parseN, if_neg h0, if_neg, ← ht', hx']
  · show parseN n r' (d.set b.toNat _) = _
    have e1 : cuR t = r' := by unfold cuR; rw [hx']; rfl
    have e2 : cuB t = b := by unfold cuB; rw [hx']; rfl
    have e3 : cuE t = e := by unfold cuE; rw [hx']; rfl
    rw [e1] at hsz
    rw [e1, e2, e3, ← hc']
    rw [parseN_fuel n r'.size _ _ (by omega) (Nat.le_refl _)]
    congr 2
    rcases hs with ⟨a, b⟩ | ⟨a, _, b⟩
    · rw [if_pos (by exact_mod_cast a), b, Int.one_mul]
    · rw [if_neg (by exact_mod_cast a), b]; omega
  · intro hh; apply hh
    rw [← hc']
    rcases hs with ⟨a, _⟩ | ⟨_, a, _⟩
    · exact .inl (by exact_mod_cast a)
    · exact .inr (by exact_mod_cast a)
/-! ### as the walks want it -/
theorem Rt_all {l : List Int} (hl : l.length = 6) (h : ∀ j : Nat, j < 6 → -9 ≤ l.getD j 0 ∧ l.getD j 0 ≤ 9) : Rt l := fun x hx => by
  obtain ⟨j, hj, rfl⟩ := List.mem_iff_getElem.1 hx
  have := h j (by omega)
  simpa [List.getD_eq_getElem?_getD, hj] using this
theorem upto_succ {P : Nat → Prop} {k n : Nat} (hk : k = n) (h : ∀ j, j < k → P j) (hp : P n) : ∀ j, j < n + 1 → P j := fun j hj => by
  by_cases e : j < k
  · exact h j e
  · have : j = n := by omega
    subst this; exact hp
theorem mulB {x n : Int} (h : -9 ≤ x ∧ x ≤ 9) (k : -10 ≤ n ∧ n ≤ 10) : -90 ≤ x * n ∧ x * n ≤ 90 := by
  have h1 : (x * n).natAbs ≤ 90 := by
    rw [Int.natAbs_mul]
    have : x.natAbs * n.natAbs ≤ 9 * 10 := Nat.mul_le_mul (by omega) (by omega)
    omega
  omega
theorem abN_pos {D : List Int} {n : Nat} (h : 0 < D.getD n 0) : abN D (n + 1) = abN D n ++ [item (sy.getD n default) (D.getD n 0)] := by rw [abN, if_pos h]
theorem abN_no {D : List Int} {n : Nat} (h : ¬ 0 < D.getD n 0) : abN D (n + 1) = abN D n := by rw [abN, if_neg h]
theorem beN_neg {D : List Int} {n : Nat} (h : D.getD n 0 < 0) : beN D (n + 1) = beN D n ++ (⟨#[47]⟩ ++ item (sy.getD n default) (-D.getD n 0)) := by rw [beN, if_pos h]
theorem beN_no {D : List Int} {n : Nat} (h : ¬ D.getD n 0 < 0) : beN D (n + 1) = beN D n := by rw [beN, if_neg h]
theorem aft_y {i : Int} {t u : ByteArray} {c : UInt8} (h : ¬ t = ByteArray.empty) (hc : c = (bl t).getD (0 : Int).toNat default) (h1 : 50 ≤ (c.toNat : Int)) (h2 : (c.toNat : Int) ≤ 57) (hu : u = t.extract (1 : Int).toNat (t.size : Int).toNat) : aft i t = (i, (c.toNat : Int) - 48, u) := by
  unfold aft
  have hc' : (bl t).getD 0 default = c := hc.symm
  rw [hc', if_pos ⟨size_ne h, by omega, by omega⟩, hu]; rfl
theorem aft_n {i : Int} {t : ByteArray} {c : UInt8} (hc : c = (bl t).getD (0 : Int).toNat default) (h : (t = ByteArray.empty ∨ ¬ 50 ≤ (c.toNat : Int)) ∨ ¬ (c.toNat : Int) ≤ 57) : aft i t = (i, 1, t) := by
  unfold aft
  have hc' : (bl t).getD 0 default = c := hc.symm
  rw [hc', if_neg]
  rintro ⟨a, b, d⟩
  rcases h with (h | h) | h
  · subst h; exact a rfl
  · omega
  · omega
theorem cutN_at {s : ByteArray} : ∀ (l : List ByteArray) (i n : Nat), n < l.length → (∀ j, j < n → ¬ cpB s (l.getD j default)) → cpB s (l.getD n default) → cutN s i l = some (aft ((i + n : Nat) : Int) (cpR s (l.getD n default)))
  | p :: l, i, 0, _, _, h => by unfold cutN; rw [if_pos (by simpa using h)]; rfl
  | p :: l, i, n + 1, hn, hj, h => by
    unfold cutN
    have h0 := hj 0 (by omega)
    rw [if_neg (by simpa using h0)]
    have := cutN_at l (i + 1) n (by simpa using hn) (fun j hj' => by have := hj (j + 1) (by omega); simpa using this) (by simpa using h)
    rw [this]
    simp only [List.getD_cons_succ]
    rw [show i + 1 + n = i + (n + 1) by omega]
theorem cutN_no {s : ByteArray} : ∀ (l : List ByteArray) (i : Nat), (∀ j, j < l.length → ¬ cpB s (l.getD j default)) → cutN s i l = none
  | [], _, _ => rfl
  | p :: l, i, h => by
    unfold cutN
    have h0 := h 0 (by simp)
    rw [if_neg (by simpa using h0)]
    exact cutN_no l (i + 1) fun j hj => by have := h (j + 1) (by simp; omega); simpa using this
theorem cut_at {s : ByteArray} (n : Nat) (hn : n < 6) (h : ∀ j, j < n → ¬ cpB s (sy.getD j default)) (hc : cpB s (sy.getD n default)) : cut s = some (aft (n : Int) (cpR s (sy.getD n default))) := by
  have := cutN_at sy 0 n hn h hc
  rw [Nat.zero_add] at this
  exact this
theorem cut_no {s : ByteArray} (h : ∀ j, j < 6 → ¬ cpB s (sy.getD j default)) : cut s = none := cutN_no sy 0 h
theorem read_bad {s : ByteArray} (h : parse (start s) [0, 0, 0, 0, 0, 0] = none) : read s = none := by unfold read; rw [h]
theorem read_ne {s : ByteArray} {d : List Int} (h : some d = parse (start s) [0, 0, 0, 0, 0, 0]) (ht : ¬ text d = s) : read s = none := by unfold read; rw [← h]; simp only [if_neg ht]
theorem read_ok {s : ByteArray} {d : List Int} (h : some d = parse (start s) [0, 0, 0, 0, 0, 0]) (ht : text d = s) : read s = some d := by unfold read; rw [← h]; simp only [if_pos ht]
end Dm
end Kb
