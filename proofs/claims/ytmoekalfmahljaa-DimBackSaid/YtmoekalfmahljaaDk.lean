/- Reading what was written: texts of dimensions. No program in sight. -/
import Derived.Test.YtmoekalfmahljaaDm
import Derived.Lib.Join
set_option linter.unusedVariables false
set_option linter.unusedSectionVars false
set_option linter.unusedSimpArgs false
namespace Kb
open Go
namespace Dm
theorem ne_empty {s : ByteArray} : s ≠ ByteArray.empty ↔ bl s ≠ [] := ⟨fun h e => h (bl_inj e), fun h e => h (by rw [e]; rfl)⟩
theorem cpB_iff {s p : ByteArray} : cpB s p ↔ bl p <+: bl s := by
  unfold cpB
  constructor
  · rintro ⟨h1, h2⟩
    have h3 : bl p = (bl s).take p.size := by
      rw [← h2, bl_extract]
      have : (s.extract 0 p.size).size = p.size := by rw [h2]
      rw [this, List.drop_zero]
    rw [h3]; exact List.take_prefix _ _
  · intro h
    have hl := h.length_le
    rw [bl_len, bl_len] at hl
    refine ⟨by omega, bl_inj ?_⟩
    rw [bl_extract, List.drop_zero, ← bl_len]
    exact (List.prefix_iff_eq_take.1 h).symm
theorem cpR_bl {s p : ByteArray} (h : cpB s p) : bl (cpR s p) = (bl s).drop p.size := by
  unfold cpR
  rw [if_pos h, bl_extract, ← bl_len s, List.take_length]
theorem cpR_of {s p r : ByteArray} (h : bl s = bl p ++ bl r) : cpB s p ∧ cpR s p = r := by
  have h1 : cpB s p := cpB_iff.2 ⟨_, h.symm⟩
  refine ⟨h1, bl_inj ?_⟩
  rw [cpR_bl h1, h, List.drop_left' (by simp)]
theorem cpB_not {s p : ByteArray} {x y : UInt8} {l m : List UInt8} (h1 : bl s = x :: l) (h2 : bl p = y :: m) (h : x ≠ y) : ¬ cpB s p := by
  rw [cpB_iff, h1, h2]
  rintro ⟨t, ht⟩
  simp at ht
  exact h ht.1.symm
/-- a token's tail: nothing, or a sign -/
def Tl (r : ByteArray) : Prop := bl r = [] ∨ ∃ x l, bl r = x :: l ∧ x.toNat < 50
theorem sy_fst : ∀ n, n < 6 → ∃ m, bl (sy.getD n default) = ([103, 109, 115, 74, 99, 112] : List UInt8).getD n 0 :: m
  | 0, _ => ⟨_, rfl⟩
  | 1, _ => ⟨_, rfl⟩
  | 2, _ => ⟨_, rfl⟩
  | 3, _ => ⟨_, rfl⟩
  | 4, _ => ⟨_, rfl⟩
  | 5, _ => ⟨_, rfl⟩
theorem fst_ne : ∀ n, n < 6 → ∀ m, m < n → ([103, 109, 115, 74, 99, 112] : List UInt8).getD n 0 ≠ ([103, 109, 115, 74, 99, 112] : List UInt8).getD m 0 := by decide
theorem dig_ok : ∀ e : Fin 10, 2 ≤ e.1 → 50 ≤ (UInt8.ofNat (48 + e.1)).toNat ∧ (UInt8.ofNat (48 + e.1)).toNat ≤ 57 ∧ (UInt8.ofNat (48 + e.1)).toNat = 48 + e.1 := by decide
theorem bl_item {s : ByteArray} {e : Int} : bl (item s e) = bl s ++ (if e = 1 then [] else [UInt8.ofNat (48 + e).toNat]) := by
  unfold item
  split
  · simp
  · rw [bl_append]; rfl
theorem aft_item {i e : Int} {t r : ByteArray} (he : 1 ≤ e ∧ e ≤ 9) (hr : Tl r) (ht : bl t = (if e = 1 then [] else [UInt8.ofNat (48 + e).toNat]) ++ bl r) : aft i t = (i, e, r) := by
  by_cases h1 : e = 1
  · rw [if_pos h1, List.nil_append] at ht
    obtain rfl := bl_inj ht
    unfold aft
    rw [if_neg, h1]
    rintro ⟨h2, h3, _⟩
    rcases hr with hr | ⟨x, l, hr, hx⟩
    · have := congrArg List.length hr; rw [bl_len] at this; exact h2 this
    · rw [hr] at h3; have : (x :: l).getD 0 default = x := rfl
      rw [this] at h3; omega
  · rw [if_neg h1] at ht
    obtain ⟨n, rfl⟩ := Int.eq_ofNat_of_zero_le (show 0 ≤ e by omega)
    have hd := dig_ok ⟨n, by omega⟩ (by show 2 ≤ n; omega)
    simp only at hd
    have e1 : (48 + (n : Int)).toNat = 48 + n := by omega
    rw [e1] at ht
    unfold aft
    have e2 : (bl t).getD 0 default = UInt8.ofNat (48 + n) := by rw [ht]; rfl
    have e3 : t.size ≠ 0 := by rw [← bl_len, ht]; simp
    rw [e2, if_pos ⟨e3, hd.1, hd.2.1⟩, hd.2.2, show ((48 + n : Nat) : Int) - 48 = (n : Int) by omega]
    congr 2
    · apply bl_inj
      rw [bl_extract, ← bl_len t, List.take_length, ht]; rfl
theorem cut_item {n : Nat} {e : Int} {s r : ByteArray} (hn : n < 6) (he : 1 ≤ e ∧ e ≤ 9) (hr : Tl r) (hs : bl s = bl (item (sy.getD n default) e) ++ bl r) : cut s = some ((n : Int), e, r) := by
  rw [bl_item, List.append_assoc] at hs
  obtain ⟨m, hm⟩ := sy_fst n hn
  obtain ⟨h1, h2⟩ := cpR_of (s := s) (p := sy.getD n default) (r := ⟨((if e = 1 then [] else [UInt8.ofNat (48 + e).toNat]) ++ bl r).toArray⟩) (by rw [bl_mk]; exact hs)
  rw [cut_at n hn (fun j hj => ?_) h1, h2, aft_item he hr (by rw [bl_mk])]
  obtain ⟨m', hm'⟩ := sy_fst j (by omega)
  rw [hm, List.cons_append] at hs
  exact cpB_not hs hm' (fst_ne n hn j hj)
/-! ### tokens -/
def tk (x : Nat × Int) : List UInt8 := (if 0 < x.2 then 42 else 47) :: bl (item (sy.getD x.1 default) (if 0 < x.2 then x.2 else -x.2))
def tks (l : List (Nat × Int)) : List UInt8 := (l.map tk).flatten
theorem tks_cons (x : Nat × Int) (l : List (Nat × Int)) : tks (x :: l) = tk x ++ tks l := by simp [tks]
theorem tks_append (l m : List (Nat × Int)) : tks (l ++ m) = tks l ++ tks m := by simp [tks]
theorem tl_tks {l : List (Nat × Int)} {r : ByteArray} (h : bl r = tks l) : Tl r := by
  cases l with
  | nil => exact .inl h
  | cons x l =>
    rw [tks_cons] at h
    unfold tk at h
    refine .inr ⟨_, _, h, ?_⟩
    split <;> decide
theorem parse_tks : ∀ (l : List (Nat × Int)) (r : ByteArray) (d : List Int), (∀ x ∈ l, x.1 < 6 ∧ x.2 ≠ 0 ∧ -9 ≤ x.2 ∧ x.2 ≤ 9) → bl r = tks l → parse r d = some (l.foldl (fun d x => d.set x.1 x.2) d)
  | [], r, d, _, h => parse_end (bl_inj h)
  | (n, e) :: l, r, d, hl, h => by
    obtain ⟨h1, h2, h3, h4⟩ := hl _ List.mem_cons_self
    rw [tks_cons] at h
    unfold tk at h
    simp only at h h1 h2 h3 h4
    have hne : ¬ r = ByteArray.empty := fun e0 => by rw [e0] at h; cases h
    have hb : 1 ≤ (if 0 < e then e else -e) ∧ (if 0 < e then e else -e) ≤ 9 := by split <;> omega
    have ht : bl (r.extract (1 : Int).toNat (r.size : Int).toNat) = bl (item (sy.getD n default) (if 0 < e then e else -e)) ++ bl (⟨(tks l).toArray⟩ : ByteArray) := by
      rw [bl_extract]
      have : (r.size : Int).toNat = (bl r).length := by simp
      rw [this, List.take_length, h, bl_mk]; rfl
    have hc := cut_item h1 hb (tl_tks (l := l) (by rw [bl_mk])) ht
    have e0 : (bl r).getD (0 : Int).toNat default = if 0 < e then 42 else 47 := by rw [h]; rfl
    rw [parse_step hne rfl rfl (by rw [hc]; rfl) (sg := if 0 < e then 1 else -1) ?_]
    · have e1 : cuR (r.extract (1 : Int).toNat (r.size : Int).toNat) = ⟨(tks l).toArray⟩ := by unfold cuR; rw [hc]; rfl
      have e2 : cuB (r.extract (1 : Int).toNat (r.size : Int).toNat) = n := by unfold cuB; rw [hc]; rfl
      have e3 : cuE (r.extract (1 : Int).toNat (r.size : Int).toNat) = (if 0 < e then e else -e) := by unfold cuE; rw [hc]; rfl
      have e4 : (if 0 < e then (1 : Int) else -1) * (if 0 < e then e else -e) = e := by split <;> omega
      rw [e1, e2, e3, e4, parse_tks l _ _ (fun x hx => hl x (List.mem_cons_of_mem _ hx)) (by rw [bl_mk])]
      rfl
    · rw [e0]
      split
      · exact .inl ⟨rfl, rfl⟩
      · exact .inr ⟨by decide, rfl, rfl⟩
def poN (D : List Int) : Nat → List (Nat × Int)
  | 0 => []
  | n + 1 => if 0 < D.getD n 0 then poN D n ++ [(n, D.getD n 0)] else poN D n
def neN (D : List Int) : Nat → List (Nat × Int)
  | 0 => []
  | n + 1 => if D.getD n 0 < 0 then neN D n ++ [(n, D.getD n 0)] else neN D n
theorem poN_mem {D : List Int} : ∀ n, ∀ x ∈ poN D n, x.1 < n ∧ 0 < x.2 ∧ x.2 = D.getD x.1 0
  | 0, x, h => by cases h
  | n + 1, x, h => by
    unfold poN at h
    split at h
    · rcases List.mem_append.1 h with h | h
      · have := poN_mem n x h; exact ⟨by omega, this.2⟩
      · have : x = (n, D.getD n 0) := by simpa using h
        subst this
        exact ⟨by show n < n + 1; omega, by assumption, rfl⟩
    · have := poN_mem n x h; exact ⟨by omega, this.2⟩
theorem neN_mem {D : List Int} : ∀ n, ∀ x ∈ neN D n, x.1 < n ∧ x.2 < 0 ∧ x.2 = D.getD x.1 0
  | 0, x, h => by cases h
  | n + 1, x, h => by
    unfold neN at h
    split at h
    · rcases List.mem_append.1 h with h | h
      · have := neN_mem n x h; exact ⟨by omega, this.2⟩
      · have : x = (n, D.getD n 0) := by simpa using h
        subst this
        exact ⟨by show n < n + 1; omega, by assumption, rfl⟩
    · have := neN_mem n x h; exact ⟨by omega, this.2⟩
theorem be_tks {D : List Int} : ∀ n, bl (beN D n) = tks (neN D n)
  | 0 => rfl
  | n + 1 => by
    unfold beN neN
    by_cases h : D.getD n 0 < 0
    · rw [if_pos h, if_pos h, bl_append, bl_append, be_tks n, tks_append, tks_cons]
      unfold tk
      simp only [if_neg (show ¬ 0 < D.getD n 0 by omega)]
      show _ ++ (bl ⟨#[47]⟩ ++ _) = _ ++ (_ ++ [])
      rw [List.append_nil]; rfl
    · rw [if_neg h, if_neg h, be_tks n]
theorem ab_tks {D : List Int} : ∀ n, Lib.joinTail [42] ((abN D n).map bl) = tks (poN D n)
  | 0 => rfl
  | n + 1 => by
    unfold abN poN
    by_cases h : 0 < D.getD n 0
    · rw [if_pos h, if_pos h, tks_append, tks_cons, ← ab_tks n]
      unfold tk
      simp only [if_pos h]
      simp [Lib.joinTail, tks]
    · rw [if_neg h, if_neg h, ab_tks n]
theorem set_po {D : List Int} : ∀ n (d : List Int), (((poN D n).foldl (fun d x => d.set x.1 x.2) d).length = d.length) ∧ ∀ j, j < d.length → ((poN D n).foldl (fun d x => d.set x.1 x.2) d).getD j 0 = if j < n ∧ 0 < D.getD j 0 then D.getD j 0 else d.getD j 0
  | 0, d => ⟨rfl, fun j _ => by simp [poN]⟩
  | n + 1, d => by
    obtain ⟨h1, h2⟩ := set_po (D := D) n d
    unfold poN
    split
    · rename_i hp
      rw [List.foldl_append]
      refine ⟨by simp [h1], fun j hj => ?_⟩
      show (List.set _ _ _).getD j 0 = _
      rw [List.getD_eq_getElem?_getD, List.getElem?_set]
      by_cases e : n = j
      · subst e
        rw [if_pos rfl, if_pos (by omega), if_pos ⟨by omega, hp⟩]; rfl
      · rw [if_neg e, ← List.getD_eq_getElem?_getD, h2 j hj]
        by_cases c : j < n ∧ 0 < D.getD j 0
        · rw [if_pos c, if_pos ⟨by omega, c.2⟩]
        · rw [if_neg c, if_neg fun h => c ⟨by omega, h.2⟩]
    · rename_i hp
      refine ⟨h1, fun j hj => ?_⟩
      rw [h2 j hj]
      by_cases c : j < n ∧ 0 < D.getD j 0
      · rw [if_pos c, if_pos ⟨by omega, c.2⟩]
      · rw [if_neg c, if_neg]
        rintro ⟨ha, hb⟩
        by_cases e : j = n
        · subst e; exact hp hb
        · exact c ⟨by omega, hb⟩
theorem set_ne {D : List Int} : ∀ n (d : List Int), (((neN D n).foldl (fun d x => d.set x.1 x.2) d).length = d.length) ∧ ∀ j, j < d.length → ((neN D n).foldl (fun d x => d.set x.1 x.2) d).getD j 0 = if j < n ∧ D.getD j 0 < 0 then D.getD j 0 else d.getD j 0
  | 0, d => ⟨rfl, fun j _ => by simp [neN]⟩
  | n + 1, d => by
    obtain ⟨h1, h2⟩ := set_ne (D := D) n d
    unfold neN
    split
    · rename_i hp
      rw [List.foldl_append]
      refine ⟨by simp [h1], fun j hj => ?_⟩
      show (List.set _ _ _).getD j 0 = _
      rw [List.getD_eq_getElem?_getD, List.getElem?_set]
      by_cases e : n = j
      · subst e
        rw [if_pos rfl, if_pos (by omega), if_pos ⟨by omega, hp⟩]; rfl
      · rw [if_neg e, ← List.getD_eq_getElem?_getD, h2 j hj]
        by_cases c : j < n ∧ D.getD j 0 < 0
        · rw [if_pos c, if_pos ⟨by omega, c.2⟩]
        · rw [if_neg c, if_neg fun h => c ⟨by omega, h.2⟩]
    · rename_i hp
      refine ⟨h1, fun j hj => ?_⟩
      rw [h2 j hj]
      by_cases c : j < n ∧ D.getD j 0 < 0
      · rw [if_pos c, if_pos ⟨by omega, c.2⟩]
      · rw [if_neg c, if_neg]
        rintro ⟨ha, hb⟩
        by_cases e : j = n
        · subst e; exact hp hb
        · exact c ⟨by omega, hb⟩
theorem set_all {D : List Int} (hD : D.length = 6) : (poN D 6 ++ neN D 6).foldl (fun d x => d.set x.1 x.2) [0, 0, 0, 0, 0, 0] = D := by
  rw [List.foldl_append]
  obtain ⟨h1, h2⟩ := set_po (D := D) 6 [0, 0, 0, 0, 0, 0]
  generalize hm : (poN D 6).foldl (fun d x => d.set x.1 x.2) [0, 0, 0, 0, 0, 0] = m at h1 h2 ⊢
  obtain ⟨h3, h4⟩ := set_ne (D := D) 6 m
  have h1' : m.length = 6 := h1
  refine List.ext_getElem (by omega) fun j hj hj' => ?_
  have e1 := h4 j (by omega)
  have e2 := h2 j (by show j < 6; omega)
  rw [e2] at e1
  rw [List.getD_eq_getElem?_getD, List.getElem?_eq_getElem hj] at e1
  have e3 : D.getD j 0 = D[j] := by rw [List.getD_eq_getElem?_getD, List.getElem?_eq_getElem hj']; rfl
  have e4 : ([0, 0, 0, 0, 0, 0] : List Int).getD j 0 = 0 := by
    have : ∀ j, j < 6 → ([0, 0, 0, 0, 0, 0] : List Int).getD j 0 = 0 := by decide
    exact this j (by omega)
  rw [e3, e4] at e1
  have e5 : ((neN D 6).foldl (fun d x => d.set x.1 x.2) m)[j] = _ := e1
  rw [e5]
  split
  · rfl
  · split
    · rfl
    · omega
theorem toks_ok {D : List Int} (h : Rt D) (hD : D.length = 6) : ∀ x ∈ poN D 6 ++ neN D 6, x.1 < 6 ∧ x.2 ≠ 0 ∧ -9 ≤ x.2 ∧ x.2 ≤ 9 := by
  have key : ∀ j, j < 6 → -9 ≤ D.getD j 0 ∧ D.getD j 0 ≤ 9 := fun j hj => h _ (by simp [List.getD_eq_getElem?_getD, show j < D.length by omega])
  intro x hx
  rcases List.mem_append.1 hx with hx | hx
  · obtain ⟨a, b, c⟩ := poN_mem 6 x hx
    have := key x.1 a
    rw [← c] at this
    exact ⟨a, by omega, this⟩
  · obtain ⟨a, b, c⟩ := neN_mem 6 x hx
    have := key x.1 a
    rw [← c] at this
    exact ⟨a, by omega, this⟩
theorem text_y {D : List Int} (h : Rt D) : bl (text D) = Lib.join ((ab D).map bl) [42] ++ bl (beN D 6) := by
  unfold text
  rw [if_pos h, bl_append]
  congr 1
theorem abN_item {D : List Int} : ∀ n, n ≤ 6 → ∀ x ∈ abN D n, ∃ j, j < 6 ∧ ∃ e, x = item (sy.getD j default) e
  | 0, _, x, h => by cases h
  | n + 1, hn, x, h => by
    unfold abN at h
    split at h
    · rcases List.mem_append.1 h with h | h
      · exact abN_item n (by omega) x h
      · exact ⟨n, by omega, D.getD n 0, by simpa using h⟩
    · exact abN_item n (by omega) x h
theorem start_tks {D : List Int} (h : Rt D) : bl (start (text D)) = tks (poN D 6 ++ neN D 6) ∧ bl (text D) ≠ [] := by
  have ht := text_y h
  have hp := ab_tks (D := D) 6
  rw [tks_append, ← hp, ← be_tks]
  unfold ab at ht
  cases hab : abN D 6 with
  | nil =>
    rw [hab] at ht
    have ht' : bl (text D) = bl ⟨#[49]⟩ ++ bl (beN D 6) := ht
    obtain ⟨h1, h2⟩ := cpR_of ht'
    unfold start
    rw [if_pos h1, h2]
    exact ⟨rfl, by rw [ht']; exact List.cons_ne_nil _ _⟩
  | cons x l =>
    rw [hab, if_neg (by simp), List.map_cons, Lib.join_cons] at ht
    obtain ⟨j, hj, e, hx⟩ := abN_item 6 (Nat.le_refl _) x (by rw [hab]; exact List.mem_cons_self)
    obtain ⟨m, hm⟩ := sy_fst j hj
    have hb : bl x = ([103, 109, 115, 74, 99, 112] : List UInt8).getD j 0 :: (m ++ if e = 1 then [] else [UInt8.ofNat (48 + e).toNat]) := by rw [hx, bl_item, hm]; rfl
    have ht2 := ht
    rw [hb, List.cons_append, List.cons_append] at ht2
    have hne : ∀ j, j < 6 → ([103, 109, 115, 74, 99, 112] : List UInt8).getD j 0 ≠ 49 := by decide
    have hn : ¬ cpB (text D) ⟨#[49]⟩ := cpB_not ht2 (y := 49) (m := []) rfl (hne j hj)
    unfold start
    rw [if_neg hn, bl_append, ht]
    refine ⟨?_, by rw [← ht, ht2]; exact List.cons_ne_nil _ _⟩
    show [42] ++ (_ ++ _ ++ _) = _
    unfold Lib.joinTail
    simp
theorem read_text {D : List Int} (h : Rt D) (hD : D.length = 6) : read (text D) = some D := by
  have := parse_tks _ _ [0, 0, 0, 0, 0, 0] (toks_ok h hD) (start_tks h).1
  rw [set_all hD] at this
  exact read_ok this.symm rfl
theorem text_ne {D : List Int} : text D ≠ ByteArray.empty ↔ Rt D := by
  refine ⟨fun h => ?_, fun h => ne_empty.2 (start_tks h).2⟩
  unfold text at h
  split at h
  · assumption
  · exact absurd rfl h
theorem read_empty : read ByteArray.empty = none := by decide +kernel
theorem read_some {s : ByteArray} {d : List Int} (h : read s = some d) : text d = s ∧ Rt d := by
  have h0 := h
  unfold read at h
  split at h
  · cases h
  · split at h
    · rename_i ht
      obtain rfl := Option.some.inj h
      refine ⟨ht, text_ne.1 fun e => ?_⟩
      rw [ht] at e
      rw [e, read_empty] at h0; cases h0
    · cases h
theorem parseN_len : ∀ (n : Nat) (r : ByteArray) (d e : List Int), parseN n r d = some e → e.length = d.length
  | 0, r, d, e, h => by
    unfold parseN at h
    split at h
    · cases h; rfl
    · cases h
  | n + 1, r, d, e, h => by
    unfold parseN at h
    split at h
    · cases h; rfl
    · split at h
      · cases h
      · split at h
        · cases h
        · have := parseN_len n _ _ _ h
          rwa [List.length_set] at this
theorem read_len {s : ByteArray} {d : List Int} (h : read s = some d) : d.length = 6 := by
  unfold read at h
  split at h
  · cases h
  · rename_i hp
    split at h
    · obtain rfl := Option.some.inj h
      exact parseN_len _ _ _ _ hp
    · cases h
theorem six_of {d : List Int} (h : d.length = 6) : [d.getD 0 0, d.getD 1 0, d.getD 2 0, d.getD 3 0, d.getD 4 0, d.getD 5 0] = d := by
  match d, h with
  | [_, _, _, _, _, _], _ => rfl
theorem back_y {D : List Int} (h : Rt D) (hD : D.length = 6) : rdB (text D) = true ∧ ∀ i, rdV (text D) i = D.getD i 0 := by
  unfold rdB rdV
  rw [read_text h hD]; exact ⟨rfl, fun _ => rfl⟩
theorem back_n {D : List Int} (h : ¬ Rt D) : text D = ByteArray.empty ∧ rdB (text D) = false := by
  have e : text D = ByteArray.empty := Decidable.not_not.1 fun hn => h (text_ne.1 hn)
  refine ⟨e, ?_⟩
  unfold rdB; rw [e, read_empty]; rfl
theorem rd_n {s : ByteArray} (h : ¬ rdB s = true) : rdV s 0 = 0 ∧ rdV s 1 = 0 ∧ rdV s 2 = 0 ∧ rdV s 3 = 0 ∧ rdV s 4 = 0 ∧ rdV s 5 = 0 := by
  unfold rdB at h
  unfold rdV
  cases hr : read s with
  | none => exact ⟨rfl, rfl, rfl, rfl, rfl, rfl⟩
  | some d => rw [hr] at h; exact absurd rfl h
theorem rd_y {s : ByteArray} (h : rdB s = true) : Rt [rdV s 0, rdV s 1, rdV s 2, rdV s 3, rdV s 4, rdV s 5] ∧ text [rdV s 0, rdV s 1, rdV s 2, rdV s 3, rdV s 4, rdV s 5] = s := by
  unfold rdB at h
  obtain ⟨d, hd⟩ := Option.isSome_iff_exists.1 h
  obtain ⟨h1, h2⟩ := read_some hd
  have e : [rdV s 0, rdV s 1, rdV s 2, rdV s 3, rdV s 4, rdV s 5] = d := by
    unfold rdV; rw [hd]; exact six_of (read_len hd)
  rw [e]; exact ⟨h2, h1⟩
end Dm
end Kb
