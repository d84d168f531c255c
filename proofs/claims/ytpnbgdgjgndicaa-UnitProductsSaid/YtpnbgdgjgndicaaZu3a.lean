/- Texts for the claim, put together: the calculus of regions, its rules, and contracts of the functions that the law reaches. -/
import Derived.Test.YtpnbgdgjgndicaaZuwf
import Derived.Test.YtpnbgdgjgndicaaZu013a
import Derived.Test.YtpnbgdgjgndicaaZu123a
import Derived.Test.YtpnbgdgjgndicaaZu13a
import Derived.Test.YtpnbgdgjgndicaaZu23a
import Derived.Laws.Cells
import Derived.Laws.World
import Derived.KernelRfl
import Derived.Laws.Small
import Derived.Laws.Cover3
import Derived.Lib.Join
set_option linter.unusedVariables false
set_option linter.unusedSectionVars false
set_option linter.unusedSimpArgs false
namespace Kb
open Go
theorem min_if (x y : Int) : (if y < x then y else x) = min x y := by omega

open Go
namespace Hint
variable {P : Program}
def mn (x y : Int) : Hint P := e g0 (.int .i64 (if y < x then y else x)) (.int .i64 (min x y)) fun _ => by rw [min_if]
end Hint

open Go
namespace Un
open Fr Bg
theorem tmN_pos {a f : Rat} {p : Prop} [Decidable p] (ha : 0 < a) (hf : 0 < f) : ∀ n, 0 < tmN a f p n
  | 0 => ha
  | n + 1 => by
    have ih := tmN_pos (p := p) ha hf n
    rw [tmN]
    split
    · exact Rat.mul_pos ih hf
    · rw [Rat.div_def]; exact Rat.mul_pos ih (Rat.inv_pos.2 hf)
theorem tm_pos {a f : Rat} (ha : 0 < a) (hf : 0 < f) (e : Int) : 0 < tm a f e := tmN_pos ha hf _
end Un

open Go
namespace Dm
theorem six_of {d : List Int} (h : d.length = 6) : [d.getD 0 0, d.getD 1 0, d.getD 2 0, d.getD 3 0, d.getD 4 0, d.getD 5 0] = d := by
  match d, h with
  | [_, _, _, _, _, _], _ => rfl
end Dm

open Go
namespace Un
open Fr Bg
theorem nlL_app {q : List UInt8} (h : nlL q = 0) : ∀ l, nlL (l ++ q) = nlL l
  | [] => by rw [List.nil_append, h]; rfl
  | c :: l => by rw [List.cons_append]; unfold nlL; rw [nlL_app h l]
theorem nl_app {t q : ByteArray} (h : Sg q) : nl (t ++ q) = nl t := by unfold nl; rw [bl_append, nlL_app h.nl]
theorem head_app {t q : ByteArray} (h : ¬ t = ByteArray.empty) : (bl (t ++ q)).getD 0 default = (bl t).getD 0 default := by
  rw [bl_append]
  have h0 : bl t ≠ [] := Dm.ne_empty.1 h
  cases ht : bl t with
  | nil => exact absurd ht h0
  | cons c l => rfl
theorem app_ne {t q : ByteArray} (h : ¬ t = ByteArray.empty) : ¬ t ++ q = ByteArray.empty := fun e => by
  have := congrArg ByteArray.size e
  rw [ByteArray.size_append] at this
  have h0 := Dm.size_ne h
  have : (ByteArray.empty).size = 0 := rfl
  omega
theorem ext1_app {t q : ByteArray} {n : Nat} (h : n ≤ t.size) : (t ++ q).extract n (t ++ q).size = t.extract n t.size ++ q := by
  apply bl_inj
  rw [bl_extract, ← bl_len, List.take_length, bl_append, bl_append, bl_extract, ← bl_len, List.take_length, List.drop_append_of_le_length (by rw [bl_len]; exact h)]
theorem rest_app {t q : ByteArray} (h : Sg q) : rest (t ++ q) = rest t ++ q := by
  unfold rest; rw [nl_app h]; exact ext1_app (nl_le t)
theorem num_app {t q : ByteArray} (h : Sg q) : num (t ++ q) ↔ num t := by
  by_cases e : t = ByteArray.empty
  · subst e
    have e1 : ByteArray.empty ++ q = q := bl_inj (by rw [bl_append]; rfl)
    rw [e1]
    exact ⟨fun k => absurd k h.num, fun k => absurd rfl k.1.1⟩
  · unfold num; rw [head_app e]
    exact ⟨fun k => ⟨⟨e, k.1.2⟩, k.2⟩, fun k => ⟨⟨app_ne e, k.1.2⟩, k.2⟩⟩
theorem cuW_app {t q : ByteArray} (h : Sg q) : cuW (t ++ q) = cuW t := by
  unfold cuW; rw [nl_app h]
  apply bl_inj
  rw [bl_extract, bl_extract, bl_append, List.take_append_of_le_length (by rw [bl_len]; exact nl_le t)]
theorem num_ne {t : ByteArray} (h : num t) : ¬ t = ByteArray.empty := h.1.1
theorem cuE_app {t q : ByteArray} (h : Sg q) : cuE (t ++ q) = cuE t := by
  unfold cuE; rw [rest_app h]
  by_cases k : num (rest t)
  · rw [if_pos k, if_pos ((num_app h).2 k), head_app (num_ne k)]
  · rw [if_neg k, if_neg fun x => k ((num_app h).1 x)]
theorem cuR_app {t q : ByteArray} (h : Sg q) : cuR (t ++ q) = cuR t ++ q := by
  unfold cuR; rw [rest_app h]
  by_cases k : num (rest t)
  · rw [if_pos k, if_pos ((num_app h).2 k)]
    have := Dm.size_ne (num_ne k)
    exact ext1_app (by omega)
  · rw [if_neg k, if_neg fun x => k ((num_app h).1 x)]
theorem itm_app {c : UInt8} {t q : ByteArray} (h : Sg q) : itm c (t ++ q) = itm c t := by unfold itm; rw [cuW_app h, cuE_app h]
theorem empty_app {q : ByteArray} : ByteArray.empty ++ q = q := bl_inj (by rw [bl_append]; rfl)
theorem good_app {r q : ByteArray} (hr : ¬ r = ByteArray.empty) (h : Sg q) : good (r ++ q) ↔ good r := by
  have := Dm.size_ne hr
  unfold good; rw [ext1_app (by omega), nl_app h, head_app hr]
theorem it_app {q : ByteArray} (h : Sg q) : ∀ (n : Nat) (r : ByteArray) (l : List Ditem), r.size ≤ n → it r = some l → it (r ++ q) = (it q).map (l ++ ·)
  | 0, r, l, hn, hl => by
    have h0 : r = ByteArray.empty := Classical.byContradiction fun e => Dm.size_ne e (by omega)
    rw [it_end h0] at hl
    obtain rfl := Option.some.inj hl
    rw [h0, empty_app]; cases it q <;> simp
  | n + 1, r, l, hn, hl => by
    by_cases h0 : r = ByteArray.empty
    · rw [it_end h0] at hl
      obtain rfl := Option.some.inj hl
      rw [h0, empty_app]; cases it q <;> simp
    · by_cases hg : good r
      · rw [it_step h0 hg] at hl
        obtain ⟨m, hm, rfl⟩ := Option.map_eq_some_iff.1 hl
        have hs := Dm.size_ne h0
        have h3 := cuR_size (r.extract 1 r.size)
        rw [ByteArray.size_extract] at h3
        rw [it_step (app_ne h0) ((good_app h0 h).2 hg), ext1_app (by omega), cuR_app h, it_app h n _ m (by omega) hm, itm_app h, head_app h0]
        cases it q <;> simp
      · rw [it_bad h0 hg] at hl; cases hl
def addv (a b : List Int) : List Int := [a.getD 0 0 + b.getD 0 0, a.getD 1 0 + b.getD 1 0, a.getD 2 0 + b.getD 2 0, a.getD 3 0 + b.getD 3 0, a.getD 4 0 + b.getD 4 0, a.getD 5 0 + b.getD 5 0]
theorem tmN_mul {a b f : Rat} {p : Prop} [Decidable p] : ∀ n, tmN (a * b) f p n = a * tmN b f p n
  | 0 => rfl
  | n + 1 => by
    rw [tmN, tmN, tmN_mul n]
    split
    · rw [Rat.mul_assoc]
    · rw [Rat.div_def, Rat.div_def, Rat.mul_assoc]
theorem tm_mul {a b f : Rat} {e : Int} : tm (a * b) f e = a * tm b f e := tmN_mul _
theorem acc_lin : ∀ (l : List Ditem) (d e : List Int) (f g : Rat), acc l (addv d e, f * g) = (acc l (e, g)).map fun u => (addv d u.1, f * u.2)
  | [], d, e, f, g => rfl
  | x :: l, d, e, f, g => by
    unfold acc
    split
    · have h := acc_lin l d (addD e ((word x.word).getD ([], 0)).1 x.exp) f (tm g (fv (word x.word)) x.exp)
      rw [← h, tm_mul]
      congr 2
      unfold addD addv
      simp [Int.add_assoc]
    · rfl
theorem acc_app : ∀ (l m : List Ditem) (u : U), acc (l ++ m) u = (acc l u).bind (acc m)
  | [], m, u => rfl
  | x :: l, m, u => by
    rw [List.cons_append]
    unfold acc
    split
    · exact acc_app l m _
    · rfl
theorem addv_z {d : List Int} (h : d.length = 6) : addv d Z6 = d := by
  match d, h with
  | [a, b, c, d, e, f], _ => unfold addv Z6; simp
theorem acc_two {l m : List Ditem} {d e : List Int} {f g : Rat} (h1 : acc l (Z6, 1) = some (d, f)) (h2 : acc m (Z6, 1) = some (e, g)) : acc (l ++ m) (Z6, 1) = some (addv d e, f * g) := by
  rw [acc_app, h1]
  show acc m (d, f) = _
  have hl := acc_len l _ _ rfl h1
  have := acc_lin m d Z6 f 1
  rw [addv_z hl, Rat.mul_one, h2] at this
  exact this
theorem start_app {s q : ByteArray} (h : ¬ s = ByteArray.empty) : start (s ++ q) = start s ++ q := by
  have h0 : bl s ≠ [] := Dm.ne_empty.1 h
  by_cases k : Dm.cpB s ⟨#[49]⟩
  · have k2 : Dm.cpB (s ++ q) ⟨#[49]⟩ := by
      rw [Dm.cpB_iff] at k ⊢
      rw [bl_append]
      exact k.trans (List.prefix_append _ _)
    unfold start
    rw [if_pos k, if_pos k2]
    apply bl_inj
    have h1 := Dm.cpB_iff.1 k
    have hl := h1.length_le
    rw [Dm.cpR_bl k2, bl_append, bl_append, Dm.cpR_bl k, List.drop_append_of_le_length (by rw [bl_len] at hl; exact hl)]
  · have k2 : ¬ Dm.cpB (s ++ q) ⟨#[49]⟩ := by
      rw [Dm.cpB_iff] at k ⊢
      rw [bl_append]
      intro hp
      cases hs : bl s with
      | nil => exact h0 hs
      | cons c m =>
        apply k
        rw [hs] at hp ⊢
        have e : bl (⟨#[49]⟩ : ByteArray) = [49] := rfl
        rw [e] at hp ⊢
        rw [List.cons_append, List.cons_prefix_cons] at hp
        rw [List.cons_prefix_cons]
        exact ⟨hp.1, List.nil_prefix⟩
    unfold start
    rw [if_neg k, if_neg k2]
    apply bl_inj
    simp
theorem items_it {s : ByteArray} {l : List Ditem} (h : ¬ s = ByteArray.empty) (k : items s = some l) : it (start s) = some l := by
  unfold items at k
  rw [if_neg h] at k
  split at k
  · cases k
  · exact k
theorem sg_of {q : ByteArray} {c : UInt8} {l : List UInt8} (h : bl q = c :: l) (k : (c.toNat : Int) = 42 ∨ (c.toNat : Int) = 47) : Sg q := .inr ⟨c, l, h, k⟩
theorem items_two {s q : ByteArray} {l m : List Ditem} (hs : ¬ s = ByteArray.empty) (hq : Sg q) (hz : s.size + q.size ≤ 40) (h1 : items s = some l) (h2 : it q = some m) : items (s ++ q) = some (l ++ m) := by
  unfold items
  rw [if_neg (app_ne hs), if_neg (by rw [ByteArray.size_append]; omega), start_app hs, it_app hq _ _ l (Nat.le_refl _) (items_it hs h1), h2]
  rfl
theorem start_no {t : ByteArray} (h : ¬ ((bl t).getD 0 default).toNat = 49) : start t = ⟨#[42]⟩ ++ t := by
  unfold start
  rw [if_neg]
  intro k
  rw [Dm.cpB_iff] at k
  cases ht : bl t with
  | nil => rw [ht] at k; have := k.length_le; simp [show bl (⟨#[49]⟩ : ByteArray) = [49] from rfl] at this
  | cons c m =>
    rw [ht] at h k
    have e : bl (⟨#[49]⟩ : ByteArray) = [49] := rfl
    rw [e, List.cons_prefix_cons] at k
    apply h
    show c.toNat = 49
    rw [← k.1]; rfl
theorem sgn_ne {c : UInt8} {t : ByteArray} : ¬ (⟨#[c]⟩ : ByteArray) ++ t = ByteArray.empty := fun e => by
  have := congrArg bl e
  rw [bl_append] at this
  cases this
theorem sgn_ext {c : UInt8} {t : ByteArray} : ((⟨#[c]⟩ : ByteArray) ++ t).extract 1 ((⟨#[c]⟩ : ByteArray) ++ t).size = t := by
  apply bl_inj
  rw [bl_extract, ← bl_len, List.take_length, bl_append]; rfl
theorem sgn_hd {c : UInt8} {t : ByteArray} : (bl ((⟨#[c]⟩ : ByteArray) ++ t)).getD 0 default = c := by rw [bl_append]; rfl
theorem it_one {t : ByteArray} {l : List Ditem} (h : it (⟨#[42]⟩ ++ t) = some l) : ∃ m, it (cuR t) = some m ∧ l = itm 42 t :: m ∧ 0 < nl t := by
  by_cases hg : good (⟨#[42]⟩ ++ t)
  · have hg' := hg.1
    rw [sgn_ext] at hg'
    rw [it_step sgn_ne hg, sgn_ext, sgn_hd] at h
    obtain ⟨m, hm, rfl⟩ := Option.map_eq_some_iff.1 h
    exact ⟨m, hm, rfl, hg'⟩
  · rw [it_bad sgn_ne hg] at h; cases h
theorem it_div {t : ByteArray} {m : List Ditem} (h : it (cuR t) = some m) (hn : 0 < nl t) : it (⟨#[47]⟩ ++ t) = some (itm 47 t :: m) := by
  have hg : good (⟨#[47]⟩ ++ t) := ⟨by rw [sgn_ext]; exact hn, .inr (by rw [sgn_hd]; rfl)⟩
  rw [it_step sgn_ne hg, sgn_ext, sgn_hd, h]; rfl
theorem tmN_inv {f : Rat} {p q : Prop} [Decidable p] [Decidable q] (hf : f ≠ 0) (h : p ↔ ¬ q) : ∀ n, tmN 1 f p n * tmN 1 f q n = 1
  | 0 => by rw [tmN, tmN, Rat.mul_one]
  | n + 1 => by
    have ih := tmN_inv hf h n
    rw [tmN, tmN]
    by_cases k : p
    · rw [if_pos k, if_neg (h.1 k), Rat.div_def]
      rw [Rat.mul_assoc, Rat.mul_comm f, Rat.mul_assoc, Rat.inv_mul_cancel f hf, Rat.mul_one, ih]
    · have k' : q := Classical.byContradiction fun x => k (h.2 x)
      rw [if_neg k, if_pos k', Rat.div_def]
      rw [Rat.mul_assoc, Rat.mul_comm f⁻¹, Rat.mul_assoc, Rat.mul_inv_cancel f hf, Rat.mul_one, ih]
theorem inv_of {a b : Rat} (h : a * b = 1) : a = b⁻¹ := by
  have hb : b ≠ 0 := fun e => by rw [e, Rat.mul_zero] at h; exact absurd h (by decide)
  have h2 : a * (b * b⁻¹) = a * 1 := by rw [Rat.mul_inv_cancel b hb]
  rw [← Rat.mul_assoc, h, Rat.one_mul, Rat.mul_one] at h2
  exact h2.symm
theorem tm_neg {f : Rat} {e : Int} (hf : f ≠ 0) (he : e ≠ 0) : tm 1 f (-e) = (tm 1 f e)⁻¹ := by
  have h := tmN_inv (p := 0 < -e) (q := 0 < e) hf (by omega) e.natAbs
  unfold tm
  rw [Int.natAbs_neg]
  exact inv_of h
def subv (a b : List Int) : List Int := [a.getD 0 0 - b.getD 0 0, a.getD 1 0 - b.getD 1 0, a.getD 2 0 - b.getD 2 0, a.getD 3 0 - b.getD 3 0, a.getD 4 0 - b.getD 4 0, a.getD 5 0 - b.getD 5 0]
theorem acc_single {x : Ditem} {d : List Int} {r : Rat} (he : x.exp ≠ 0) (h : acc [x] (Z6, 1) = some (d, r)) : acc [⟨x.word, -x.exp⟩] (Z6, 1) = some (subv Z6 d, r⁻¹) := by
  unfold acc at h ⊢
  split at h
  · rename_i hw
    rw [if_pos hw]
    unfold acc at h ⊢
    have h := Option.some.inj h
    have h1 := congrArg Prod.fst h
    have h2 := congrArg Prod.snd h
    simp only at h1 h2
    have hf : fv (word x.word) ≠ 0 := by
      have := (word_ok (some_of hw)).2.2.1
      intro e
      have h0 : (0 : Rat) < fv (word x.word) := this
      rw [e] at h0; exact absurd h0 (by decide)
    rw [← h1, ← h2]
    show some (_, tm 1 _ (-x.exp)) = _
    rw [tm_neg hf he]
    congr 2
    unfold addD subv Z6
    simp [Int.mul_neg]
  · cases h
end Un

open Go
namespace Un
open Fr Bg
def ri (x : Ditem) : DItem := ⟨x.word, x.exp⟩
theorem ofs_0 {s : ByteArray} : ofs s 0 = s := bl_inj (by rw [bl_ofs]; rfl)
theorem cuR_ofs {s : ByteArray} {a : Nat} : cuR (ofs s a) = ofs s (spN s a) := by
  unfold cuR spN
  rw [rest_ofs]
  split
  · exact ofs_ofs
  · rfl
theorem nl_ofs {s : ByteArray} {a i : Nat} (h1 : a ≤ i) (h2 : i ≤ s.size) (hj : ∀ j, a ≤ j → j < i → ltr (((bl s).getD j default).toNat : Int)) (h : i = s.size ∨ ¬ ltr (((bl s).getD i default).toNat : Int)) : nl (ofs s a) = i - a := by
  refine nl_at (by rw [ofs_size]; omega) (fun j hj' => ?_) ?_
  · rw [ofs_get]; exact hj _ (by omega) (by omega)
  · rcases h with h | h
    · left; rw [ofs_size]; omega
    · right; rw [ofs_get, show a + (i - a) = i by omega]; exact h
theorem cuW_ofs {s : ByteArray} {a i : Nat} (h : nl (ofs s a) = i - a) (h1 : a ≤ i) (h2 : i ≤ s.size) : cuW (ofs s a) = s.extract a i := bl_inj (by
  unfold cuW
  rw [h, bl_extract, bl_ofs, bl_extract, List.drop_zero, ← List.drop_take])
theorem Spl.y {s : ByteArray} {a i : Nat} (h : Spl s a i) (h1 : i < s.size) (h2 : 50 ≤ (((bl s).getD i default).toNat : Int)) (h3 : (((bl s).getD i default).toNat : Int) ≤ 57) : cuE (ofs s a) = (((bl s).getD i default).toNat : Int) - 48 ∧ spN s a = i + 1 := by
  have e : rest (ofs s a) = ofs s i := by rw [rest_ofs, h.n]; congr 1; have := h.le; omega
  have hn : num (rest (ofs s a)) := by rw [e]; exact num_ofs.2 ⟨h1, h2, h3⟩
  have hle := h.le
  unfold cuE spN
  rw [if_pos hn, if_pos hn, e, ofs_get, Nat.add_zero, h.n]
  exact ⟨rfl, by omega⟩
theorem spN_le {s : ByteArray} {a : Nat} (h : 0 < nl (ofs s a)) : a < spN s a ∧ spN s a ≤ s.size := by
  have h1 := nl_le (ofs s a)
  rw [ofs_size] at h1
  unfold spN
  split
  · rename_i k
    rw [rest_ofs] at k
    have := (num_ofs.1 k).1
    omega
  · omega
def itR (out : List DItem) (r : ByteArray) : Option (List DItem) := (it r).map fun l => out ++ l.map ri
def itG (s : ByteArray) : Option (List DItem) := (items s).map fun l => l.map ri
theorem itR_end {s : ByteArray} {out : List DItem} {a : Nat} (h : s.size ≤ a) : itR out (ofs s a) = some out := by unfold itR; rw [it_end (ofs_end h)]; simp
theorem good_ofs {s : ByteArray} {a : Nat} : good (ofs s a) ↔ 0 < nl (ofs s (a + 1)) ∧ ((((bl s).getD a default).toNat : Int) = 42 ∨ (((bl s).getD a default).toNat : Int) = 47) := by
  unfold good; rw [ofs_ofs, ofs_get]; simp only [Nat.add_zero]
theorem itR_bad {s : ByteArray} {out : List DItem} {a : Nat} (h : a < s.size) (k : ¬ (0 < nl (ofs s (a + 1)) ∧ ((((bl s).getD a default).toNat : Int) = 42 ∨ (((bl s).getD a default).toNat : Int) = 47))) : itR out (ofs s a) = none := by
  unfold itR; rw [it_bad (ofs_ne h) fun x => k (good_ofs.1 x)]; rfl
theorem itR_step {s : ByteArray} {out : List DItem} {a : Nat} {x : DItem} (h : a < s.size) (k : 0 < nl (ofs s (a + 1)) ∧ ((((bl s).getD a default).toNat : Int) = 42 ∨ (((bl s).getD a default).toNat : Int) = 47)) (hx : x = ⟨cuW (ofs s (a + 1)), if (((bl s).getD a default).toNat : Int) = 47 then -cuE (ofs s (a + 1)) else cuE (ofs s (a + 1))⟩) : itR (out ++ [x]) (ofs s (spN s (a + 1))) = itR out (ofs s a) := by
  unfold itR
  rw [it_step (ofs_ne h) (good_ofs.2 k), ofs_ofs, cuR_ofs]
  have e : ri (itm ((bl (ofs s a)).getD 0 default) (ofs s (a + 1))) = x := by
    rw [ofs_get, Nat.add_zero, hx]; rfl
  cases it (ofs s (spN s (a + 1))) with
  | none => rfl
  | some l => simp only [Option.map_some, List.map_cons, List.append_assoc, List.singleton_append, e]
theorem hd_1 {s : ByteArray} : Dm.cpB s ⟨#[49]⟩ ↔ 0 < s.size ∧ (((bl s).getD 0 default).toNat : Int) = 49 := by
  rw [Dm.cpB_iff]
  have e : bl (⟨#[49]⟩ : ByteArray) = [49] := rfl
  rw [e, ← bl_len]
  cases bl s with
  | nil => simp
  | cons c m =>
    rw [List.cons_prefix_cons]
    show _ ↔ _ ∧ (c.toNat : Int) = 49
    constructor
    · rintro ⟨h, _⟩; subst h; exact ⟨by simp, rfl⟩
    · rintro ⟨_, h⟩
      refine ⟨?_, List.nil_prefix⟩
      have : c.toNat = (49 : UInt8).toNat := by have e2 : (49 : UInt8).toNat = 49 := rfl
                                                omega
      exact (UInt8.toNat_inj.1 this).symm
theorem itG_nil {s : ByteArray} (h : s = ByteArray.empty) : itG s = some [] := by unfold itG; rw [items_nil h]; rfl
theorem itG_far {s : ByteArray} (h : ¬ s = ByteArray.empty) (k : 40 < s.size) : itG s = none := by unfold itG; rw [items_far h k]; rfl
theorem itG_1 {s : ByteArray} (h : ¬ s = ByteArray.empty) (k : ¬ 40 < s.size) (h1 : (((bl s).getD 0 default).toNat : Int) = 49) : itR [] (ofs s 1) = itG s := by
  have hs := Dm.size_ne h
  have hb : Dm.cpB s ⟨#[49]⟩ := hd_1.2 ⟨by omega, h1⟩
  unfold itG items itR
  rw [if_neg h, if_neg k]
  unfold start
  rw [if_pos hb]
  have e : Dm.cpR s ⟨#[49]⟩ = ofs s 1 := by unfold Dm.cpR ofs; rw [if_pos hb]; rfl
  rw [e]; simp
theorem itG_w {s : ByteArray} (h : ¬ s = ByteArray.empty) (k : ¬ 40 < s.size) (h1 : ¬ (((bl s).getD 0 default).toNat : Int) = 49) :
    (¬ 0 < nl s → itG s = none) ∧ (0 < nl s → itR [⟨cuW s, cuE s⟩] (ofs s (spN s 0)) = itG s) := by
  have hb : ¬ Dm.cpB s ⟨#[49]⟩ := fun x => h1 (hd_1.1 x).2
  have e0 : itG s = (it (⟨#[42]⟩ ++ s)).map fun l => l.map ri := by
    unfold itG items; rw [if_neg h, if_neg k]; unfold start; rw [if_neg hb]
  constructor
  · intro hn
    rw [e0, it_bad sgn_ne (fun g => hn (by have := g.1; rw [sgn_ext] at this; exact this))]; rfl
  · intro hn
    have hg : good ((⟨#[42]⟩ : ByteArray) ++ s) := ⟨by rw [sgn_ext]; exact hn, .inl (by rw [sgn_hd]; rfl)⟩
    rw [e0, it_step sgn_ne hg, sgn_ext, sgn_hd]
    have e1 := cuR_ofs (s := s) (a := 0)
    rw [ofs_0] at e1
    rw [e1]
    unfold itR
    have e : ri (itm 42 s) = ⟨cuW s, cuE s⟩ := rfl
    cases it (ofs s (spN s 0)) with
    | none => rfl
    | some l => simp [e]
end Un

open Go Go.Proofs
set_option maxRecDepth 10000 in
theorem ltr9_ct (c : Int) :
    Cp Try.prog 111 #[.int .u8 c] [] (bv (decide (Un.ltr c))) := by
  refine V.fn mo Try.func111 17 0 (by kernel_rfl) fun w H ε k0 => ?_
  clear k0
  refine V.g [.kb false] fun _ _ G1 => ?_
  intro S_ s_
  refine nm (((decide (97 ≤ c)) && (decide (c ≤ 122))) || ((decide (65 ≤ c)) && (decide (c ≤ 90))) : Bool) fun p1 hp1 => ?_
  refine V.g [.k (.int .u8 c),.k (bv (decide (97 ≤ c))),.k (bv (decide (97 ≤ c))),.k (.int .u8 c),.k (bv (decide (c ≤ 122))),.and g0 false (decide (97 ≤ c)) (decide (c ≤ 122)),.k (bv ((decide (97 ≤ c)) && (decide (c ≤ 122)))),.k (.int .u8 c),.k (bv (decide (65 ≤ c))),.k (bv (decide (65 ≤ c))),.k (.int .u8 c),.k (bv (decide (c ≤ 90))),.and (gF (b := (decide (97 ≤ c)) && (decide (c ≤ 122))) (iAF iDF iDF)) false (decide (65 ≤ c)) (decide (c ≤ 90)),.orn g0 false ((decide (97 ≤ c)) && (decide (c ≤ 122))) ((decide (65 ≤ c)) && (decide (c ≤ 90))) p1 hp1,.k (bv p1)] fun _ _ G2 => ?_
  intro S_ s_
  have e0 : p1 = decide (Un.ltr c) := by
    refine Bool.eq_iff_iff.2 (Iff.trans (iN hp1 (iOT (iAT iDT iDT) (iAT iDT iDT))) (Iff.trans ?_ decide_eq_true_iff.symm))
    exact Iff.rfl
  exact V.ret [0] [] [] [] [] [] (bv p1) (fun _ _ => by kernel_rfl) (fun _ _ => (Eq.trans (by kernel_rfl) (cong1 (fun (x0 : Bool) => (bv x0 : Value)) e0)).trans (by kernel_rfl)) (fun _ _ => trivial)

open Go Go.Proofs
set_option maxRecDepth 10000 in
theorem split9_ct (s : ByteArray) (at_ : Int) (hs : s.size ≤ 1000000) (ha : 0 ≤ at_ ∧ at_ ≤ (s.size : Int)) :
    Cp Try.prog 73 #[tv s, iv at_] [] (.tuple #[ag (DItem.mk (if 0 < Un.nl (Un.ofs s at_.toNat) then Un.cuW (Un.ofs s at_.toNat) else ByteArray.empty) (if 0 < Un.nl (Un.ofs s at_.toNat) then Un.cuE (Un.ofs s at_.toNat) else 0)), iv (if 0 < Un.nl (Un.ofs s at_.toNat) then (Un.spN s at_.toNat : Int) else at_), bv (decide (0 < Un.nl (Un.ofs s at_.toNat)))]) := by
  refine V.fn mo Try.func73 70 2 (by kernel_rfl) fun w H ε k0 => ?_
  clear k0
  refine V.g [.nb 0 0 (fun b => pp b 0) 105 (fun _ => ca (DItem.mk ByteArray.empty 0)),.k (iv 0),.kb false] fun _ _ G1 => ?_
  intro S_ s_
  refine V.g [.k (iv at_),.k (iv at_)] fun _ _ G2 => ?_
  intro S_ s_
  refine V.loop (γ := Int) (fun i => ⟨[(0, tv s), (1, iv at_), (4, pp ((G1 0).b) 0), (7, iv i)], [], [.blk ((G1 0).b) (ca (DItem.mk ByteArray.empty 0)) 105, .no]⟩) (fun i => (at_ ≤ i) ∧ (i ≤ (s.size : Int)) ∧ (∀ j, at_.toNat ≤ j → j < i.toNat → Un.ltr (((bl s).getD j default).toNat : Int))) (fun i => ((s.size : Int) - i).toNat) at_ (by kernel_rfl) [] (by kernel_rfl) ?_ ?_
  · refine ⟨?_, ?_, ?_⟩
    · show at_ ≤ at_
      omega
    · show at_ ≤ (s.size : Int)
      omega
    show ∀ j, at_.toNat ≤ j → j < at_.toNat → Un.ltr (((bl s).getD j default).toNat : Int)
    intro j h1 h2; omega
  rintro i hF1 kw3 Z1 hZ1
  have hF1 : (at_ ≤ i) ∧ (i ≤ (s.size : Int)) ∧ (∀ j, at_.toNat ≤ j → j < i.toNat → Un.ltr (((bl s).getD j default).toNat : Int)) := hF1
  obtain ⟨hf1, hf2, hf3⟩ := hF1
  clear kw3
  refine nm ((s.size : Int) - 1 : Int) fun n1 hn1 => ?_
  refine nm ((bl s).getD (min i n1).toNat default : UInt8) fun c1 hc1 => ?_
  refine nm ((decide (i < (s.size : Int))) && (decide (Un.ltr (c1.toNat : Int))) : Bool) fun p1 hp1 => ?_
  refine V.g [.k (iv i),.k (tv s),.k (iv (s.size : Int)),.k (bv (decide (i < (s.size : Int)))),.k (bv (decide (i < (s.size : Int)))),.k (tv s),.k (iv i),.k (tv s),.k (iv (s.size : Int)),.arg (gT (b := decide (i < (s.size : Int))) iDT) ((s.size : Int) - 1) n1 hn1 (fun hg => by omega),.mn i n1,.sid (gT (b := decide (i < (s.size : Int))) iDT) s (min i n1) c1 hc1 (fun hg => ⟨by omega, by omega⟩),.cp (gT (b := decide (i < (s.size : Int))) iDT) 12 111 [] (fun hg G => ltr9_ct (c1.toNat : Int)),.andn g0 false (decide (i < (s.size : Int))) (decide (Un.ltr (c1.toNat : Int))) p1 hp1] fun _ _ G3 => ?_
  intro S_ s_
  refine V.cond (b := p1) (iN hp1 (iAT iDT iDT)) (iN hp1 (iAF iDF iDF)) (by kernel_rfl) (fun q1 => ?_) (fun q2 => ?_)
  · refine V.g [.k (iv i),.a (i + 1) (by omega) (by omega),.k (iv (i + 1))] fun _ _ G4 => ?_
    intro S_ s_
    refine V.rnd hZ1 (i + 1) [] (by kernel_rfl) ?_ ?_
    · refine ⟨?_, ?_, ?_⟩
      · show at_ ≤ (i + 1)
        omega
      · show (i + 1) ≤ (s.size : Int)
        omega
      show ∀ j, at_.toNat ≤ j → j < (i + 1).toNat → Un.ltr (((bl s).getD j default).toNat : Int)
      intro j hj1 hj2; by_cases e : j < i.toNat
      · exact hf3 j hj1 e
      have hqq := q1
      have h := hqq.2; rw [hc1] at h; rw [show (min i n1).toNat = i.toNat by omega] at h; rw [show j = i.toNat by omega]; exact h
    show ((s.size : Int) - (i + 1)).toNat < ((s.size : Int) - i).toNat
    omega
  have hSx : i.toNat = s.size ∨ ¬ Un.ltr (((bl s).getD i.toNat default).toNat : Int) := by
    have hqq := q2
    by_cases hiz : i < (s.size : Int)
    · right; rcases hqq with h | h; exact absurd hiz h; rw [hc1] at h; rw [show (min i n1).toNat = i.toNat by omega] at h; exact h
    left; omega
  have hSp : Un.Spl s at_.toNat i.toNat := ⟨Un.nl_ofs (by omega) (by omega) hf3 hSx, by omega, by omega⟩
  refine nm (s.extract at_.toNat i.toNat : ByteArray) fun t1 ht1 => ?_
  have ht1n : t1.size = min i.toNat s.size - at_.toNat := by rw [ht1, ByteArray.size_extract]
  refine V.g [.k (tv s),.k (iv at_),.k (iv i),.ssl g0 s (some at_) (some i) at_ i rfl rfl t1 ht1 (fun _ => ⟨by omega, by omega, by omega⟩),.k (ag (DItem.mk t1 1)),.nb 5 1 (fun b => pp b 0) 105 (fun _ => ca (DItem.mk ByteArray.empty 0)),.st 1 (fun G => .blk ((G 5).b) (ca (DItem.mk t1 1)) 105)] fun _ _ G5 => ?_
  intro S_ s_
  refine V.g [.k (iv i),.k (iv at_),.k (bv (decide (i = at_)))] fun _ _ G6 => ?_
  intro S_ s_
  refine V.cond (b := decide (i = at_)) iDT iDF (by kernel_rfl) (fun q3 => ?_) (fun q4 => ?_)
  · have hz : ¬ 0 < Un.nl (Un.ofs s at_.toNat) := by have h := hSp.n; have hqq := q3; omega
    refine V.g [.k (ag (DItem.mk ByteArray.empty 0)),.k (iv at_),.st 0 (fun _ => .blk ((G1 0).b) (ca (DItem.mk ByteArray.empty 0)) 105),.k (iv at_),.kb false] fun _ _ G7 => ?_
    intro S_ s_
    have e0 : ByteArray.empty = if 0 < Un.nl (Un.ofs s at_.toNat) then Un.cuW (Un.ofs s at_.toNat) else ByteArray.empty := (if_neg hz).symm
    have e1 : (0 : Int) = if 0 < Un.nl (Un.ofs s at_.toNat) then Un.cuE (Un.ofs s at_.toNat) else 0 := (if_neg hz).symm
    have e2 : at_ = if 0 < Un.nl (Un.ofs s at_.toNat) then (Un.spN s at_.toNat : Int) else at_ := (if_neg hz).symm
    have e3 : false = decide (0 < Un.nl (Un.ofs s at_.toNat)) := (decide_eq_false hz).symm
    exact V.ret [0, 0, 0] [] [] [] [] [] (.tuple #[ag (DItem.mk ByteArray.empty 0), iv at_, bv false]) (fun _ _ => by kernel_rfl) (fun _ _ => (Eq.trans (by kernel_rfl) (cong4 (fun (x0 : ByteArray) (x1 : Int) (x2 : Int) (x3 : Bool) => (.tuple #[.agg #[tv x0, iv x1], iv x2, bv x3] : Value)) e0 e1 e2 e3)).trans (by kernel_rfl)) (fun _ _ => trivial)
  have hz : 0 < Un.nl (Un.ofs s at_.toNat) := by have h := hSp.n; have hqq := q4; omega
  refine nm ((decide (i < (s.size : Int))) && (decide (50 ≤ (c1.toNat : Int))) : Bool) fun p2 hp2 => ?_
  refine V.g [.k (iv i),.k (tv s),.k (iv (s.size : Int)),.k (bv (decide (i < (s.size : Int)))),.k (bv (decide (i < (s.size : Int)))),.k (tv s),.k (iv i),.k (tv s),.k (iv (s.size : Int)),.arg (gT (b := decide (i < (s.size : Int))) iDT) ((s.size : Int) - 1) n1 hn1 (fun hg => by omega),.mn i n1,.sid (gT (b := decide (i < (s.size : Int))) iDT) s (min i n1) c1 hc1 (fun hg => ⟨by omega, by omega⟩),.k (bv (decide (50 ≤ (c1.toNat : Int)))),.andn g0 false (decide (i < (s.size : Int))) (decide (50 ≤ (c1.toNat : Int))) p2 hp2,.k (bv p2),.k (tv s),.k (iv i),.k (tv s),.k (iv (s.size : Int)),.arg (gT (b := p2) (iN hp2 (iAT iDT iDT))) ((s.size : Int) - 1) n1 hn1 (fun hg => by omega),.mn i n1,.sid (gT (b := p2) (iN hp2 (iAT iDT iDT))) s (min i n1) c1 hc1 (fun hg => ⟨by omega, by omega⟩),.k (bv (decide ((c1.toNat : Int) ≤ 57))),.and g0 false p2 (decide ((c1.toNat : Int) ≤ 57))] fun _ _ G8 => ?_
  intro S_ s_
  refine V.cond (b := p2 && (decide ((c1.toNat : Int) ≤ 57))) (iAT (iN hp2 (iAT iDT iDT)) iDT) (iAF (iN hp2 (iAF iDF iDF)) iDF) (by kernel_rfl) (fun q5 => ?_) (fun q6 => ?_)
  · have hqq := q5
    obtain ⟨⟨hia, hib⟩, hic⟩ := hqq
    rw [hc1] at hib; rw [hc1] at hic
    rw [show (min i n1).toNat = i.toNat by omega] at hib hic
    have hy := hSp.y (by omega) hib hic
    refine nm ((bl s).getD i.toNat default : UInt8) fun c2 hc2 => ?_
    refine nm ((c2.toNat : Int) - 48 : Int) fun n2 hn2 => ?_
    have hc50 : 50 ≤ (c2.toNat : Int) ∧ (c2.toNat : Int) ≤ 57 := by rw [hc2]; exact ⟨hib, hic⟩
    refine V.g [.k (tv s),.k (iv i),.sid g0 s i c2 hc2 (fun _ => ⟨by omega, by omega⟩),.ek g0 .u8 ((c2.toNat : Int) - 48) n2 (fun _ => by rw [wrapU8]; omega),.arg g0 n2 n2 rfl (fun _ => by omega),.k (pp ((G5 5).b) 1),.st 1 (fun _ => .blk ((G5 5).b) (ca (DItem.mk t1 n2)) 105)] fun _ _ G9 => ?_
    intro S_ s_
    refine V.g [.k (iv i),.a (i + 1) (by omega) (by omega),.k (iv (i + 1))] fun _ _ G10 => ?_
    intro S_ s_
    refine V.g [.ld 1 0 true (fun _ => Dat.cells (DItem.mk t1 n2)),.k (iv (i + 1)),.st 0 (fun _ => .blk ((G1 0).b) (ca (DItem.mk t1 n2)) 105),.k (iv (i + 1)),.kb true] fun _ _ G11 => ?_
    intro S_ s_
    have e0 : t1 = if 0 < Un.nl (Un.ofs s at_.toNat) then Un.cuW (Un.ofs s at_.toNat) else ByteArray.empty := by rw [if_pos hz, Un.cuW_ofs hSp.n hSp.le hSp.sz]; exact ht1
    have e1 : n2 = if 0 < Un.nl (Un.ofs s at_.toNat) then Un.cuE (Un.ofs s at_.toNat) else 0 := by rw [if_pos hz, hy.1]; rw [hn2, hc2]
    have e2 : (i + 1) = if 0 < Un.nl (Un.ofs s at_.toNat) then (Un.spN s at_.toNat : Int) else at_ := by rw [if_pos hz, hy.2]; omega
    have e3 : true = decide (0 < Un.nl (Un.ofs s at_.toNat)) := (decide_eq_true hz).symm
    exact V.ret [0, 0, 0] [] [] [] [] [] (.tuple #[ag (DItem.mk t1 n2), iv (i + 1), bv true]) (fun _ _ => by kernel_rfl) (fun _ _ => (Eq.trans (by kernel_rfl) (cong4 (fun (x0 : ByteArray) (x1 : Int) (x2 : Int) (x3 : Bool) => (.tuple #[.agg #[tv x0, iv x1], iv x2, bv x3] : Value)) e0 e1 e2 e3)).trans (by kernel_rfl)) (fun _ _ => trivial)
  have hqq := q6
  have hmi : (min i n1).toNat = i.toNat ∨ ¬ i < (s.size : Int) := by omega
  have hn := hSp.no (by
    rintro ⟨h1, h2, h3⟩
    have hmi := hmi.resolve_right (by omega)
    rw [hc1, hmi] at hqq
    rcases hqq with (h | h) | h
    · omega
    · exact h h2
    exact h h3)
  refine V.g [.ld 1 0 true (fun _ => Dat.cells (DItem.mk t1 1)),.k (iv i),.st 0 (fun _ => .blk ((G1 0).b) (ca (DItem.mk t1 1)) 105),.k (iv i),.kb true] fun _ _ G12 => ?_
  intro S_ s_
  have e0 : t1 = if 0 < Un.nl (Un.ofs s at_.toNat) then Un.cuW (Un.ofs s at_.toNat) else ByteArray.empty := by rw [if_pos hz, Un.cuW_ofs hSp.n hSp.le hSp.sz]; exact ht1
  have e1 : (1 : Int) = if 0 < Un.nl (Un.ofs s at_.toNat) then Un.cuE (Un.ofs s at_.toNat) else 0 := by rw [if_pos hz, hn.1]
  have e2 : i = if 0 < Un.nl (Un.ofs s at_.toNat) then (Un.spN s at_.toNat : Int) else at_ := by rw [if_pos hz, hn.2]; omega
  have e3 : true = decide (0 < Un.nl (Un.ofs s at_.toNat)) := (decide_eq_true hz).symm
  exact V.ret [0, 0, 0] [] [] [] [] [] (.tuple #[ag (DItem.mk t1 1), iv i, bv true]) (fun _ _ => by kernel_rfl) (fun _ _ => (Eq.trans (by kernel_rfl) (cong4 (fun (x0 : ByteArray) (x1 : Int) (x2 : Int) (x3 : Bool) => (.tuple #[.agg #[tv x0, iv x1], iv x2, bv x3] : Value)) e0 e1 e2 e3)).trans (by kernel_rfl)) (fun _ _ => trivial)
theorem split9_ctv (s : ByteArray) (at_ : Int) (hs : s.size ≤ 1000000) (ha : 0 ≤ at_ ∧ at_ ≤ (s.size : Int)) (rv0 : ByteArray) (erv0 : rv0 = if 0 < Un.nl (Un.ofs s at_.toNat) then Un.cuW (Un.ofs s at_.toNat) else ByteArray.empty) (rv1 : Int) (erv1 : rv1 = if 0 < Un.nl (Un.ofs s at_.toNat) then Un.cuE (Un.ofs s at_.toNat) else 0) (rv2 : Int) (erv2 : rv2 = if 0 < Un.nl (Un.ofs s at_.toNat) then (Un.spN s at_.toNat : Int) else at_) :
    Cp Try.prog 73 #[tv s, iv at_] [] (.tuple #[ag (DItem.mk rv0 rv1), iv rv2, bv (decide (0 < Un.nl (Un.ofs s at_.toNat)))]) := by
  subst erv0 erv1 erv2; exact split9_ct s at_ hs ha
set_option maxRecDepth 10000 in
set_option maxHeartbeats 4000000 in
theorem items9_ct (s : ByteArray) (hs : s.size ≤ 1000000) :
    Ct Try.prog 36 #[tv s] [] [] (fun g => .tuple #[((g.ss 0)).v, bv ((Un.itG s).isSome)]) (fun g => [fs true ((Un.itG s).getD []) (g.ss 0)]) (fun g => []) (fun g => []) := by
  refine V.fn mo Try.func36 72 3 (by kernel_rfl) fun w H ε k0 => ?_
  clear k0
  refine V.g [.k (.slice none 0 0),.kb false] fun _ _ G1 => ?_
  intro S_ s_
  refine V.g [.k (.slice none 0 0)] fun _ _ G2 => ?_
  intro S_ s_
  refine V.g [.k (tv s),.seq s ByteArray.empty] fun _ _ G3 => ?_
  intro S_ s_
  refine V.cond (b := decide (s = ByteArray.empty)) iDT iDF (by kernel_rfl) (fun q1 => ?_) (fun q2 => ?_)
  · refine V.g [.k (.slice none 0 0),.k (.slice none 0 0),.kb true] fun _ _ G4 => ?_
    intro S_ s_
    refine V.nilF (α := DItem) ?_
    have e0 : ([] : List DItem) = ((Un.itG s).getD []) := by rw [Un.itG_nil q1]; rfl
    rw [← e0]
    have e1 : true = (Un.itG s).isSome := by rw [Un.itG_nil q1]; rfl
    exact V.ret [0, 0] [{}] [fun _ => {}] [] [0] [] (.tuple #[SV.v ({}), bv true]) (fun _ _ => by kernel_rfl) (fun _ _ => (Eq.trans (by kernel_rfl) (cong1 (fun (x1 : Bool) => (.tuple #[SV.v ({}), bv x1] : Value)) e1)).trans (by kernel_rfl)) (fun _ _ => trivial)
  have hne : ¬ s = ByteArray.empty := q2
  have hsz := Dm.size_ne hne
  refine V.g [.k (tv s),.k (iv (s.size : Int)),.k (bv (decide (40 < (s.size : Int))))] fun _ _ G5 => ?_
  intro S_ s_
  refine V.cond (b := decide (40 < (s.size : Int))) iDT iDF (by kernel_rfl) (fun q3 => ?_) (fun q4 => ?_)
  · refine V.g [.k (.slice none 0 0),.kb false] fun _ _ G6 => ?_
    intro S_ s_
    refine V.nilF (α := DItem) ?_
    have e0 : ([] : List DItem) = ((Un.itG s).getD []) := by rw [Un.itG_far hne (by have hqq := q3; omega)]; rfl
    rw [← e0]
    have e1 : false = (Un.itG s).isSome := by rw [Un.itG_far hne (by have hqq := q3; omega)]; rfl
    exact V.ret [0, 0] [{}] [fun _ => {}] [] [0] [] (.tuple #[SV.v ({}), bv false]) (fun _ _ => by kernel_rfl) (fun _ _ => (Eq.trans (by kernel_rfl) (cong1 (fun (x1 : Bool) => (.tuple #[SV.v ({}), bv x1] : Value)) e1)).trans (by kernel_rfl)) (fun _ _ => trivial)
  have h40 := q4
  refine V.g [.k (iv 1)] fun _ _ G7 => ?_
  intro S_ s_
  refine nm ((bl s).getD (0 : Int).toNat default : UInt8) fun c1 hc1 => ?_
  refine V.g [.k (tv s),.sid g0 s (0 : Int) c1 hc1 (fun _ => ⟨by omega, by omega⟩),.k (bv (!(decide ((c1.toNat : Int) = 49))))] fun _ _ G8 => ?_
  intro S_ s_
  refine V.cond (b := !(decide ((c1.toNat : Int) = 49))) (iNT iDF) (iNF iDT) (by kernel_rfl) (fun q5 => ?_) (fun q6 => ?_)
  · refine nm (if 0 < Un.nl (Un.ofs s (0 : Int).toNat) then Un.cuW (Un.ofs s (0 : Int).toNat) else ByteArray.empty : ByteArray) fun t1 ht1 => ?_
    refine nm (if 0 < Un.nl (Un.ofs s (0 : Int).toNat) then Un.cuE (Un.ofs s (0 : Int).toNat) else 0 : Int) fun n1 hn1 => ?_
    refine nm (if 0 < Un.nl (Un.ofs s (0 : Int).toNat) then (Un.spN s (0 : Int).toNat : Int) else (0 : Int) : Int) fun n2 hn2 => ?_
    have hcw := Un.itG_w hne (by have hqq := h40; omega) (by have hqq := q5; rw [hc1] at hqq; exact hqq)
    refine V.g [.k (tv s),.cp g0 1 73 [] (fun _ G => split9_ctv s (0 : Int) (by omega) ⟨by omega, by omega⟩ t1 ht1 n1 hn1 n2 hn2),.k (.tuple #[ag (DItem.mk t1 n1), iv n2, bv (decide (0 < Un.nl (Un.ofs s (0 : Int).toNat)))]),.k (ag (DItem.mk t1 n1)),.k (iv n2),.k (bv (decide (0 < Un.nl (Un.ofs s (0 : Int).toNat)))),.nb 6 0 (fun b => pp b 0) 105 (fun _ => ca (DItem.mk ByteArray.empty 0)),.st 0 (fun G => .blk ((G 6).b) (ca (DItem.mk t1 n1)) 105),.k (iv n2),.k (bv (decide (0 < Un.nl (Un.ofs s (0 : Int).toNat))))] fun _ _ G9 => ?_
    intro S_ s_
    refine V.g [.k (bv (decide (0 < Un.nl (Un.ofs s (0 : Int).toNat)))),.k (bv (!(decide (0 < Un.nl (Un.ofs s (0 : Int).toNat)))))] fun _ _ G10 => ?_
    intro S_ s_
    refine V.cond (b := !(decide (0 < Un.nl (Un.ofs s (0 : Int).toNat)))) (iNT iDF) (iNF iDT) (by kernel_rfl) (fun q7 => ?_) (fun q8 => ?_)
    · refine V.g [.k (.slice none 0 0),.kb false] fun _ _ G11 => ?_
      intro S_ s_
      refine V.nilF (α := DItem) ?_
      have e0 : ([] : List DItem) = ((Un.itG s).getD []) := by rw [hcw.1 (by have hqq := q7; rw [show Un.ofs s (0 : Int).toNat = s from Un.ofs_0] at hqq; exact hqq)]; rfl
      rw [← e0]
      have e1 : false = (Un.itG s).isSome := by rw [hcw.1 (by have hqq := q7; rw [show Un.ofs s (0 : Int).toNat = s from Un.ofs_0] at hqq; exact hqq)]; rfl
      exact V.ret [0, 0] [{}] [fun _ => {}] [] [0] [] (.tuple #[SV.v ({}), bv false]) (fun _ _ => by kernel_rfl) (fun _ _ => (Eq.trans (by kernel_rfl) (cong1 (fun (x1 : Bool) => (.tuple #[SV.v ({}), bv x1] : Value)) e1)).trans (by kernel_rfl)) (fun _ _ => trivial)
    refine nm (([] : List DItem) ++ ([DItem.mk t1 n1] : List DItem) : List DItem) fun l1 hl1 => ?_
    have hl1n := congrArg List.length hl1; try simp only [List.length_append, List.length_cons, List.length_nil, List.length_replicate, List.length_set, List.length_take, List.length_drop, List.length_map, List.length_reverse, List.length_range] at hl1n
    refine V.r [.k (.slice none 0 0),.ld 0 0 true (fun _ => Dat.cells (DItem.mk t1 n1)),.nr 2 true 105 ([DItem.mk t1 n1] : List DItem) [] (fun _ _ _ _ _ => trivial) (fun _ => #[tv t1, iv n1]),.ap 3 1 105 24 true true [] (fun _ => {}) (kf true (.g 2 0) ([DItem.mk t1 n1] : List DItem) (fun G => ⟨atB (G 2).b, 1, 1⟩)) true l1 hl1 (by (try simp only [List.length_append, List.length_cons, List.length_nil, List.length_replicate, List.length_set, List.length_take, List.length_drop, List.length_map, List.length_reverse, List.length_range]); omega) (fun _ => ⟨rfl, fun _ => rfl⟩) (.inr fun _ _ => trivial),.v fun G => ((G 3).s).v] fun _ _ G12 kw12 => ?_
    intro S_ s_
    obtain ⟨⟨kl1, -⟩, -⟩ : Lq ([DItem.mk t1 n1] : List DItem) (SV.v ⟨atB (G12 2).b, 1, 1⟩) ∧ Lq l1 (((G12 3).s).v) ∧ True := kn kw12 (by kernel_rfl)
    clear kw12
    refine V.g [.k (iv n2),.k (iv n2)] fun _ _ G13 => ?_
    intro S_ s_
    refine V.loop (γ := List DItem × SV × Int) (fun ⟨out, outs, at_⟩ => ⟨[(0, tv s), (4, outs.v), (5, iv at_)], [], [.blk ((G9 6).b) (ca (DItem.mk t1 n1)) 105, os true 105 out outs, .no]⟩) (fun ⟨out, outs, at_⟩ => (0 ≤ at_) ∧ (at_ ≤ (s.size : Int)) ∧ (Un.itR out (Un.ofs s at_.toNat) = Un.itG s) ∧ ((out.length : Int) ≤ at_)) (fun ⟨out, outs, at_⟩ => ((s.size : Int) - at_).toNat) (l1, (G12 3).s, n2) (by kernel_rfl) [] (by kernel_rfl) ?_ ?_
    · refine ⟨?_, ?_, ?_, ?_⟩
      · show 0 ≤ n2
        first | omega | (have hp := q8; rw [show Un.ofs s (0 : Int).toNat = s from Un.ofs_0] at hp; have hle := Un.spN_le (s := s) (a := 0) (by rw [Un.ofs_0]; first | exact hp | exact Decidable.not_not.1 hp); rw [hn2, show (0 : Int).toNat = 0 from rfl, Un.ofs_0, if_pos (by first | exact hp | exact Decidable.not_not.1 hp)]; omega)
      · show n2 ≤ (s.size : Int)
        first | omega | (have hp := q8; rw [show Un.ofs s (0 : Int).toNat = s from Un.ofs_0] at hp; have hle := Un.spN_le (s := s) (a := 0) (by rw [Un.ofs_0]; first | exact hp | exact Decidable.not_not.1 hp); rw [hn2, show (0 : Int).toNat = 0 from rfl, Un.ofs_0, if_pos (by first | exact hp | exact Decidable.not_not.1 hp)]; omega)
      · show Un.itR l1 (Un.ofs s n2.toNat) = Un.itG s
        have hp := q8; rw [show Un.ofs s (0 : Int).toNat = s from Un.ofs_0] at hp
        have hp : 0 < Un.nl s := by first | exact hp | exact Decidable.not_not.1 hp
        have hr := hcw.2 hp
        rw [hl1, ht1, hn1, hn2, show (0 : Int).toNat = 0 from rfl, Un.ofs_0, if_pos hp, if_pos hp, if_pos hp, Int.toNat_natCast]; exact hr
      show (l1.length : Int) ≤ n2
      first | omega | (have hp := q8; rw [show Un.ofs s (0 : Int).toNat = s from Un.ofs_0] at hp; have hle := Un.spN_le (s := s) (a := 0) (by rw [Un.ofs_0]; first | exact hp | exact Decidable.not_not.1 hp); rw [hn2, show (0 : Int).toNat = 0 from rfl, Un.ofs_0, if_pos (by first | exact hp | exact Decidable.not_not.1 hp)]; omega)
    rintro ⟨out, outs, at_⟩ hF1 kw14 Z1 hZ1
    have hF1 : (0 ≤ at_) ∧ (at_ ≤ (s.size : Int)) ∧ (Un.itR out (Un.ofs s at_.toNat) = Un.itG s) ∧ ((out.length : Int) ≤ at_) := hF1
    obtain ⟨hf1, hf2, hf3, hf4⟩ := hF1
    obtain ⟨⟨kl2, -⟩, -⟩ : Lq out outs.v ∧ True := kn kw14 (by kernel_rfl)
    clear kw14
    refine V.g [.k (iv at_),.k (tv s),.k (iv (s.size : Int)),.k (bv (decide (at_ < (s.size : Int))))] fun _ _ G14 => ?_
    intro S_ s_
    refine V.cond (b := decide (at_ < (s.size : Int))) iDT iDF (by kernel_rfl) (fun q9 => ?_) (fun q10 => ?_)
    · refine nm ((bl s).getD at_.toNat default : UInt8) fun c2 hc2 => ?_
      refine V.g [.k (tv s),.k (iv at_),.sid g0 s at_ c2 hc2 (fun _ => ⟨by omega, by omega⟩),.k (.int .u8 (c2.toNat : Int))] fun _ _ G15 => ?_
      intro S_ s_
      refine nm (if 0 < Un.nl (Un.ofs s (at_ + 1).toNat) then Un.cuW (Un.ofs s (at_ + 1).toNat) else ByteArray.empty : ByteArray) fun t2 ht2 => ?_
      refine nm (if 0 < Un.nl (Un.ofs s (at_ + 1).toNat) then Un.cuE (Un.ofs s (at_ + 1).toNat) else 0 : Int) fun n3 hn3 => ?_
      refine nm (if 0 < Un.nl (Un.ofs s (at_ + 1).toNat) then (Un.spN s (at_ + 1).toNat : Int) else (at_ + 1) : Int) fun n4 hn4 => ?_
      refine V.g [.k (tv s),.k (iv at_),.a (at_ + 1) (by omega) (by omega),.cp g0 3 73 [] (fun _ G => split9_ctv s (at_ + 1) (by omega) ⟨by omega, by omega⟩ t2 ht2 n3 hn3 n4 hn4),.k (.tuple #[ag (DItem.mk t2 n3), iv n4, bv (decide (0 < Un.nl (Un.ofs s (at_ + 1).toNat)))]),.k (ag (DItem.mk t2 n3)),.k (iv n4),.k (bv (decide (0 < Un.nl (Un.ofs s (at_ + 1).toNat)))),.nb 8 2 (fun b => pp b 0) 105 (fun _ => ca (DItem.mk ByteArray.empty 0)),.st 2 (fun G => .blk ((G 8).b) (ca (DItem.mk t2 n3)) 105),.k (iv n4),.k (bv (decide (0 < Un.nl (Un.ofs s (at_ + 1).toNat))))] fun _ _ G16 => ?_
      intro S_ s_
      refine nm ((!(decide ((c2.toNat : Int) = 42))) && (!(decide ((c2.toNat : Int) = 47))) : Bool) fun p1 hp1 => ?_
      refine nm (p1 || (!(decide (0 < Un.nl (Un.ofs s (at_ + 1).toNat)))) : Bool) fun p2 hp2 => ?_
      refine V.g [.k (.int .u8 (c2.toNat : Int)),.k (bv (!(decide ((c2.toNat : Int) = 42)))),.k (bv (!(decide ((c2.toNat : Int) = 42)))),.k (.int .u8 (c2.toNat : Int)),.k (bv (!(decide ((c2.toNat : Int) = 47)))),.andn g0 false (!(decide ((c2.toNat : Int) = 42))) (!(decide ((c2.toNat : Int) = 47))) p1 hp1,.k (bv p1),.k (bv (decide (0 < Un.nl (Un.ofs s (at_ + 1).toNat)))),.k (bv (!(decide (0 < Un.nl (Un.ofs s (at_ + 1).toNat))))),.orn g0 false p1 (!(decide (0 < Un.nl (Un.ofs s (at_ + 1).toNat)))) p2 hp2] fun _ _ G17 => ?_
      intro S_ s_
      refine V.cond (b := p2) (iN hp2 (iOT (iN hp1 (iAT (iNT iDF) (iNT iDF))) (iNT iDF))) (iN hp2 (iOF (iN hp1 (iAF (iNF iDT) (iNF iDT))) (iNF iDT))) (by kernel_rfl) (fun q11 => ?_) (fun q12 => ?_)
      · have hbad : Un.itG s = none := by
          rw [← hf3]; exact Un.itR_bad (by omega) (by
            rw [show at_.toNat + 1 = (at_ + 1).toNat by omega]
            rintro ⟨h1, h2⟩
            have hqq := q11
            rw [hc2] at hqq
            rcases hqq with ⟨h, hb⟩ | h
            · rcases h2 with h2 | h2; exact h h2; exact hb h2
            exact h h1)
        refine V.g [.k (.slice none 0 0),.kb false] fun _ _ G18 => ?_
        intro S_ s_
        refine V.nilF (α := DItem) ?_
        have e0 : ([] : List DItem) = ((Un.itG s).getD []) := by rw [hbad]; rfl
        rw [← e0]
        have e1 : false = (Un.itG s).isSome := by rw [hbad]; rfl
        exact V.ret [0, 0] [{}] [fun _ => {}] [] [0] [] (.tuple #[SV.v ({}), bv false]) (fun _ _ => by kernel_rfl) (fun _ _ => (Eq.trans (by kernel_rfl) (cong1 (fun (x1 : Bool) => (.tuple #[SV.v ({}), bv x1] : Value)) e1)).trans (by kernel_rfl)) (fun _ _ => trivial)
      have hqq := q12
      obtain ⟨hsg, hpn⟩ := hqq
      have hpn1 : 0 < Un.nl (Un.ofs s (at_.toNat + 1)) := by rw [show at_.toNat + 1 = (at_ + 1).toNat by omega]; first | exact hpn | exact Decidable.not_not.1 hpn
      have hsg2 : (((bl s).getD at_.toNat default).toNat : Int) = 42 ∨ (((bl s).getD at_.toNat default).toNat : Int) = 47 := by rw [← hc2]; omega
      have hle := Un.spN_le hpn1
      have hv0 : t2 = Un.cuW (Un.ofs s (at_.toNat + 1)) := by rw [ht2, show (at_ + 1).toNat = at_.toNat + 1 by omega, if_pos hpn1]
      have hv1 : n3 = Un.cuE (Un.ofs s (at_.toNat + 1)) := by rw [hn3, show (at_ + 1).toNat = at_.toNat + 1 by omega, if_pos hpn1]
      have hv2 : n4 = (Un.spN s (at_.toNat + 1) : Int) := by rw [hn4, show (at_ + 1).toNat = at_.toNat + 1 by omega, if_pos hpn1]
      have hce := Un.cuE_rg (Un.ofs s (at_.toNat + 1))
      rw [← hv1] at hce
      refine V.g [.k (.int .u8 (c2.toNat : Int)),.k (bv (decide ((c2.toNat : Int) = 47)))] fun _ _ G19 => ?_
      intro S_ s_
      refine V.cond (b := decide ((c2.toNat : Int) = 47)) iDT iDF (by kernel_rfl) (fun q13 => ?_) (fun q14 => ?_)
      · have hx : (DItem.mk t2 (-n3)) = ⟨Un.cuW (Un.ofs s (at_.toNat + 1)), if (((bl s).getD at_.toNat default).toNat : Int) = 47 then -Un.cuE (Un.ofs s (at_.toNat + 1)) else Un.cuE (Un.ofs s (at_.toNat + 1))⟩ := by rw [hv0, hv1, ← hc2, if_pos q13]
        refine V.g [.k (pp ((G16 8).b) 1),.ld 2 1 false (fun _ => [iv n3]),.ng n3 (-n3) rfl (by omega) (by omega),.k (pp ((G16 8).b) 1),.st 2 (fun _ => .blk ((G16 8).b) (ca (DItem.mk t2 (-n3))) 105)] fun _ _ G20 => ?_
        intro S_ s_
        refine nm (out ++ ([DItem.mk t2 (-n3)] : List DItem) : List DItem) fun l2 hl2 => ?_
        have hl2n := congrArg List.length hl2; try simp only [List.length_append, List.length_cons, List.length_nil, List.length_replicate, List.length_set, List.length_take, List.length_drop, List.length_map, List.length_reverse, List.length_range] at hl2n
        refine V.r [.k (outs.v),.ld 2 0 true (fun _ => Dat.cells (DItem.mk t2 (-n3))),.nr 2 true 105 ([DItem.mk t2 (-n3)] : List DItem) [] (fun _ _ _ _ _ => trivial) (fun _ => #[tv t2, iv (-n3)]),.ap 3 1 105 24 false true out (fun _ => outs) (kf true (.g 2 0) ([DItem.mk t2 (-n3)] : List DItem) (fun G => ⟨atB (G 2).b, 1, 1⟩)) true l2 hl2 (by (try simp only [List.length_append, List.length_cons, List.length_nil, List.length_replicate, List.length_set, List.length_take, List.length_drop, List.length_map, List.length_reverse, List.length_range]); omega) (fun h => by cases h) (.inr fun _ _ => trivial),.v fun G => ((G 3).s).v] fun _ _ G21 kw22 => ?_
        intro S_ s_
        obtain ⟨⟨kl3, -⟩, -⟩ : Lq ([DItem.mk t2 (-n3)] : List DItem) (SV.v ⟨atB (G21 2).b, 1, 1⟩) ∧ Lq l2 (((G21 3).s).v) ∧ True := kn kw22 (by kernel_rfl)
        clear kw22
        refine V.g [.k (iv n4),.k (iv n4)] fun _ _ G22 => ?_
        intro S_ s_
        refine V.rnd hZ1 (l2, (G21 3).s, n4) [] (by kernel_rfl) ?_ ?_
        · refine ⟨?_, ?_, ?_, ?_⟩
          · show 0 ≤ n4
            omega
          · show n4 ≤ (s.size : Int)
            omega
          · show Un.itR l2 (Un.ofs s n4.toNat) = Un.itG s
            rw [hl2, hv2]; exact (Un.itR_step (by omega) ⟨hpn1, hsg2⟩ hx).trans hf3
          show (l2.length : Int) ≤ n4
          omega
        show ((s.size : Int) - n4).toNat < ((s.size : Int) - at_).toNat
        rw [hn4]
        omega
      have hx : (DItem.mk t2 (n3)) = ⟨Un.cuW (Un.ofs s (at_.toNat + 1)), if (((bl s).getD at_.toNat default).toNat : Int) = 47 then -Un.cuE (Un.ofs s (at_.toNat + 1)) else Un.cuE (Un.ofs s (at_.toNat + 1))⟩ := by rw [hv0, hv1, ← hc2, if_neg q14]
      refine nm (out ++ ([DItem.mk t2 n3] : List DItem) : List DItem) fun l3 hl3 => ?_
      have hl3n := congrArg List.length hl3; try simp only [List.length_append, List.length_cons, List.length_nil, List.length_replicate, List.length_set, List.length_take, List.length_drop, List.length_map, List.length_reverse, List.length_range] at hl3n
      refine V.r [.k (outs.v),.ld 2 0 true (fun _ => Dat.cells (DItem.mk t2 n3)),.nr 2 true 105 ([DItem.mk t2 n3] : List DItem) [] (fun _ _ _ _ _ => trivial) (fun _ => #[tv t2, iv n3]),.ap 3 1 105 24 false true out (fun _ => outs) (kf true (.g 2 0) ([DItem.mk t2 n3] : List DItem) (fun G => ⟨atB (G 2).b, 1, 1⟩)) true l3 hl3 (by (try simp only [List.length_append, List.length_cons, List.length_nil, List.length_replicate, List.length_set, List.length_take, List.length_drop, List.length_map, List.length_reverse, List.length_range]); omega) (fun h => by cases h) (.inr fun _ _ => trivial),.v fun G => ((G 3).s).v] fun _ _ G23 kw24 => ?_
      intro S_ s_
      obtain ⟨⟨kl4, -⟩, -⟩ : Lq ([DItem.mk t2 n3] : List DItem) (SV.v ⟨atB (G23 2).b, 1, 1⟩) ∧ Lq l3 (((G23 3).s).v) ∧ True := kn kw24 (by kernel_rfl)
      clear kw24
      refine V.g [.k (iv n4),.k (iv n4)] fun _ _ G24 => ?_
      intro S_ s_
      refine V.rnd hZ1 (l3, (G23 3).s, n4) [] (by kernel_rfl) ?_ ?_
      · refine ⟨?_, ?_, ?_, ?_⟩
        · show 0 ≤ n4
          omega
        · show n4 ≤ (s.size : Int)
          omega
        · show Un.itR l3 (Un.ofs s n4.toNat) = Un.itG s
          rw [hl3, hv2]; exact (Un.itR_step (by omega) ⟨hpn1, hsg2⟩ hx).trans hf3
        show (l3.length : Int) ≤ n4
        omega
      show ((s.size : Int) - n4).toNat < ((s.size : Int) - at_).toNat
      rw [hn4]
      omega
    refine V.g [.k (outs.v),.k (outs.v),.kb true] fun _ _ G25 => ?_
    intro S_ s_
    refine V.frz 1 true 105 out outs (by kernel_rfl) ?_
    have e0 : out = ((Un.itG s).getD []) := by rw [← hf3, Un.itR_end (by omega)]; rfl
    subst e0
    have e1 : true = (Un.itG s).isSome := by rw [← hf3, Un.itR_end (by omega)]; rfl
    exact V.ret [0, 0] [outs] [fun _ => {}] [] [0] [] (.tuple #[outs.v, bv true]) (fun _ _ => by kernel_rfl) (fun _ _ => (Eq.trans (by kernel_rfl) (cong1 (fun (x1 : Bool) => (.tuple #[outs.v, bv x1] : Value)) e1)).trans (by kernel_rfl)) (fun _ _ => trivial)
  refine V.on (α := DItem) 1 105 (by kernel_rfl) ?_
  refine V.loop (γ := List DItem × SV × Int) (fun ⟨out_1, out_1s, at__1⟩ => ⟨[(0, tv s), (4, out_1s.v), (5, iv at__1)], [], [.no, os true 105 out_1 out_1s, .no]⟩) (fun ⟨out_1, out_1s, at__1⟩ => (0 ≤ at__1) ∧ (at__1 ≤ (s.size : Int)) ∧ (Un.itR out_1 (Un.ofs s at__1.toNat) = Un.itG s) ∧ ((out_1.length : Int) ≤ at__1)) (fun ⟨out_1, out_1s, at__1⟩ => ((s.size : Int) - at__1).toNat) (([] : List DItem), {}, 1) (by kernel_rfl) [] (by kernel_rfl) ?_ ?_
  · refine ⟨?_, ?_, ?_, ?_⟩
    · show 0 ≤ (1 : Int)
      omega
    · show (1 : Int) ≤ (s.size : Int)
      omega
    · show Un.itR ([] : List DItem) (Un.ofs s (1 : Int).toNat) = Un.itG s
      exact Un.itG_1 hne (by omega) (by have hqq := q6; rw [hc1] at hqq; first | exact hqq | exact Decidable.not_not.1 hqq)
    show (([] : List DItem).length : Int) ≤ (1 : Int)
    decide
  rintro ⟨out_1, out_1s, at__1⟩ hF2 kw27 Z2 hZ2
  have hF2 : (0 ≤ at__1) ∧ (at__1 ≤ (s.size : Int)) ∧ (Un.itR out_1 (Un.ofs s at__1.toNat) = Un.itG s) ∧ ((out_1.length : Int) ≤ at__1) := hF2
  obtain ⟨hf5, hf6, hf7, hf8⟩ := hF2
  obtain ⟨⟨kl5, -⟩, -⟩ : Lq out_1 out_1s.v ∧ True := kn kw27 (by kernel_rfl)
  clear kw27
  refine V.g [.k (iv at__1),.k (tv s),.k (iv (s.size : Int)),.k (bv (decide (at__1 < (s.size : Int))))] fun _ _ G26 => ?_
  intro S_ s_
  refine V.cond (b := decide (at__1 < (s.size : Int))) iDT iDF (by kernel_rfl) (fun q15 => ?_) (fun q16 => ?_)
  · refine nm ((bl s).getD at__1.toNat default : UInt8) fun c3 hc3 => ?_
    refine V.g [.k (tv s),.k (iv at__1),.sid g0 s at__1 c3 hc3 (fun _ => ⟨by omega, by omega⟩),.k (.int .u8 (c3.toNat : Int))] fun _ _ G27 => ?_
    intro S_ s_
    refine nm (if 0 < Un.nl (Un.ofs s (at__1 + 1).toNat) then Un.cuW (Un.ofs s (at__1 + 1).toNat) else ByteArray.empty : ByteArray) fun t3 ht3 => ?_
    refine nm (if 0 < Un.nl (Un.ofs s (at__1 + 1).toNat) then Un.cuE (Un.ofs s (at__1 + 1).toNat) else 0 : Int) fun n5 hn5 => ?_
    refine nm (if 0 < Un.nl (Un.ofs s (at__1 + 1).toNat) then (Un.spN s (at__1 + 1).toNat : Int) else (at__1 + 1) : Int) fun n6 hn6 => ?_
    refine V.g [.k (tv s),.k (iv at__1),.a (at__1 + 1) (by omega) (by omega),.cp g0 3 73 [] (fun _ G => split9_ctv s (at__1 + 1) (by omega) ⟨by omega, by omega⟩ t3 ht3 n5 hn5 n6 hn6),.k (.tuple #[ag (DItem.mk t3 n5), iv n6, bv (decide (0 < Un.nl (Un.ofs s (at__1 + 1).toNat)))]),.k (ag (DItem.mk t3 n5)),.k (iv n6),.k (bv (decide (0 < Un.nl (Un.ofs s (at__1 + 1).toNat)))),.nb 8 2 (fun b => pp b 0) 105 (fun _ => ca (DItem.mk ByteArray.empty 0)),.st 2 (fun G => .blk ((G 8).b) (ca (DItem.mk t3 n5)) 105),.k (iv n6),.k (bv (decide (0 < Un.nl (Un.ofs s (at__1 + 1).toNat))))] fun _ _ G28 => ?_
    intro S_ s_
    refine nm ((!(decide ((c3.toNat : Int) = 42))) && (!(decide ((c3.toNat : Int) = 47))) : Bool) fun p3 hp3 => ?_
    refine nm (p3 || (!(decide (0 < Un.nl (Un.ofs s (at__1 + 1).toNat)))) : Bool) fun p4 hp4 => ?_
    refine V.g [.k (.int .u8 (c3.toNat : Int)),.k (bv (!(decide ((c3.toNat : Int) = 42)))),.k (bv (!(decide ((c3.toNat : Int) = 42)))),.k (.int .u8 (c3.toNat : Int)),.k (bv (!(decide ((c3.toNat : Int) = 47)))),.andn g0 false (!(decide ((c3.toNat : Int) = 42))) (!(decide ((c3.toNat : Int) = 47))) p3 hp3,.k (bv p3),.k (bv (decide (0 < Un.nl (Un.ofs s (at__1 + 1).toNat)))),.k (bv (!(decide (0 < Un.nl (Un.ofs s (at__1 + 1).toNat))))),.orn g0 false p3 (!(decide (0 < Un.nl (Un.ofs s (at__1 + 1).toNat)))) p4 hp4] fun _ _ G29 => ?_
    intro S_ s_
    refine V.cond (b := p4) (iN hp4 (iOT (iN hp3 (iAT (iNT iDF) (iNT iDF))) (iNT iDF))) (iN hp4 (iOF (iN hp3 (iAF (iNF iDT) (iNF iDT))) (iNF iDT))) (by kernel_rfl) (fun q17 => ?_) (fun q18 => ?_)
    · have hbad : Un.itG s = none := by
        rw [← hf7]; exact Un.itR_bad (by omega) (by
          rw [show at__1.toNat + 1 = (at__1 + 1).toNat by omega]
          rintro ⟨h1, h2⟩
          have hqq := q17
          rw [hc3] at hqq
          rcases hqq with ⟨h, hb⟩ | h
          · rcases h2 with h2 | h2; exact h h2; exact hb h2
          exact h h1)
      refine V.g [.k (.slice none 0 0),.kb false] fun _ _ G30 => ?_
      intro S_ s_
      refine V.nilF (α := DItem) ?_
      have e0 : ([] : List DItem) = ((Un.itG s).getD []) := by rw [hbad]; rfl
      rw [← e0]
      have e1 : false = (Un.itG s).isSome := by rw [hbad]; rfl
      exact V.ret [0, 0] [{}] [fun _ => {}] [] [0] [] (.tuple #[SV.v ({}), bv false]) (fun _ _ => by kernel_rfl) (fun _ _ => (Eq.trans (by kernel_rfl) (cong1 (fun (x1 : Bool) => (.tuple #[SV.v ({}), bv x1] : Value)) e1)).trans (by kernel_rfl)) (fun _ _ => trivial)
    have hqq := q18
    obtain ⟨hsg, hpn⟩ := hqq
    have hpn1 : 0 < Un.nl (Un.ofs s (at__1.toNat + 1)) := by rw [show at__1.toNat + 1 = (at__1 + 1).toNat by omega]; first | exact hpn | exact Decidable.not_not.1 hpn
    have hsg2 : (((bl s).getD at__1.toNat default).toNat : Int) = 42 ∨ (((bl s).getD at__1.toNat default).toNat : Int) = 47 := by rw [← hc3]; omega
    have hle := Un.spN_le hpn1
    have hv0 : t3 = Un.cuW (Un.ofs s (at__1.toNat + 1)) := by rw [ht3, show (at__1 + 1).toNat = at__1.toNat + 1 by omega, if_pos hpn1]
    have hv1 : n5 = Un.cuE (Un.ofs s (at__1.toNat + 1)) := by rw [hn5, show (at__1 + 1).toNat = at__1.toNat + 1 by omega, if_pos hpn1]
    have hv2 : n6 = (Un.spN s (at__1.toNat + 1) : Int) := by rw [hn6, show (at__1 + 1).toNat = at__1.toNat + 1 by omega, if_pos hpn1]
    have hce := Un.cuE_rg (Un.ofs s (at__1.toNat + 1))
    rw [← hv1] at hce
    refine V.g [.k (.int .u8 (c3.toNat : Int)),.k (bv (decide ((c3.toNat : Int) = 47)))] fun _ _ G31 => ?_
    intro S_ s_
    refine V.cond (b := decide ((c3.toNat : Int) = 47)) iDT iDF (by kernel_rfl) (fun q19 => ?_) (fun q20 => ?_)
    · have hx : (DItem.mk t3 (-n5)) = ⟨Un.cuW (Un.ofs s (at__1.toNat + 1)), if (((bl s).getD at__1.toNat default).toNat : Int) = 47 then -Un.cuE (Un.ofs s (at__1.toNat + 1)) else Un.cuE (Un.ofs s (at__1.toNat + 1))⟩ := by rw [hv0, hv1, ← hc3, if_pos q19]
      refine V.g [.k (pp ((G28 8).b) 1),.ld 2 1 false (fun _ => [iv n5]),.ng n5 (-n5) rfl (by omega) (by omega),.k (pp ((G28 8).b) 1),.st 2 (fun _ => .blk ((G28 8).b) (ca (DItem.mk t3 (-n5))) 105)] fun _ _ G32 => ?_
      intro S_ s_
      refine nm (out_1 ++ ([DItem.mk t3 (-n5)] : List DItem) : List DItem) fun l4 hl4 => ?_
      have hl4n := congrArg List.length hl4; try simp only [List.length_append, List.length_cons, List.length_nil, List.length_replicate, List.length_set, List.length_take, List.length_drop, List.length_map, List.length_reverse, List.length_range] at hl4n
      refine V.r [.k (out_1s.v),.ld 2 0 true (fun _ => Dat.cells (DItem.mk t3 (-n5))),.nr 2 true 105 ([DItem.mk t3 (-n5)] : List DItem) [] (fun _ _ _ _ _ => trivial) (fun _ => #[tv t3, iv (-n5)]),.ap 3 1 105 24 false true out_1 (fun _ => out_1s) (kf true (.g 2 0) ([DItem.mk t3 (-n5)] : List DItem) (fun G => ⟨atB (G 2).b, 1, 1⟩)) true l4 hl4 (by (try simp only [List.length_append, List.length_cons, List.length_nil, List.length_replicate, List.length_set, List.length_take, List.length_drop, List.length_map, List.length_reverse, List.length_range]); omega) (fun h => by cases h) (.inr fun _ _ => trivial),.v fun G => ((G 3).s).v] fun _ _ G33 kw35 => ?_
      intro S_ s_
      obtain ⟨⟨kl6, -⟩, -⟩ : Lq ([DItem.mk t3 (-n5)] : List DItem) (SV.v ⟨atB (G33 2).b, 1, 1⟩) ∧ Lq l4 (((G33 3).s).v) ∧ True := kn kw35 (by kernel_rfl)
      clear kw35
      refine V.g [.k (iv n6),.k (iv n6)] fun _ _ G34 => ?_
      intro S_ s_
      refine V.rnd hZ2 (l4, (G33 3).s, n6) [] (by kernel_rfl) ?_ ?_
      · refine ⟨?_, ?_, ?_, ?_⟩
        · show 0 ≤ n6
          omega
        · show n6 ≤ (s.size : Int)
          omega
        · show Un.itR l4 (Un.ofs s n6.toNat) = Un.itG s
          rw [hl4, hv2]; exact (Un.itR_step (by omega) ⟨hpn1, hsg2⟩ hx).trans hf7
        show (l4.length : Int) ≤ n6
        omega
      show ((s.size : Int) - n6).toNat < ((s.size : Int) - at__1).toNat
      rw [hn6]
      omega
    have hx : (DItem.mk t3 (n5)) = ⟨Un.cuW (Un.ofs s (at__1.toNat + 1)), if (((bl s).getD at__1.toNat default).toNat : Int) = 47 then -Un.cuE (Un.ofs s (at__1.toNat + 1)) else Un.cuE (Un.ofs s (at__1.toNat + 1))⟩ := by rw [hv0, hv1, ← hc3, if_neg q20]
    refine nm (out_1 ++ ([DItem.mk t3 n5] : List DItem) : List DItem) fun l5 hl5 => ?_
    have hl5n := congrArg List.length hl5; try simp only [List.length_append, List.length_cons, List.length_nil, List.length_replicate, List.length_set, List.length_take, List.length_drop, List.length_map, List.length_reverse, List.length_range] at hl5n
    refine V.r [.k (out_1s.v),.ld 2 0 true (fun _ => Dat.cells (DItem.mk t3 n5)),.nr 2 true 105 ([DItem.mk t3 n5] : List DItem) [] (fun _ _ _ _ _ => trivial) (fun _ => #[tv t3, iv n5]),.ap 3 1 105 24 false true out_1 (fun _ => out_1s) (kf true (.g 2 0) ([DItem.mk t3 n5] : List DItem) (fun G => ⟨atB (G 2).b, 1, 1⟩)) true l5 hl5 (by (try simp only [List.length_append, List.length_cons, List.length_nil, List.length_replicate, List.length_set, List.length_take, List.length_drop, List.length_map, List.length_reverse, List.length_range]); omega) (fun h => by cases h) (.inr fun _ _ => trivial),.v fun G => ((G 3).s).v] fun _ _ G35 kw37 => ?_
    intro S_ s_
    obtain ⟨⟨kl7, -⟩, -⟩ : Lq ([DItem.mk t3 n5] : List DItem) (SV.v ⟨atB (G35 2).b, 1, 1⟩) ∧ Lq l5 (((G35 3).s).v) ∧ True := kn kw37 (by kernel_rfl)
    clear kw37
    refine V.g [.k (iv n6),.k (iv n6)] fun _ _ G36 => ?_
    intro S_ s_
    refine V.rnd hZ2 (l5, (G35 3).s, n6) [] (by kernel_rfl) ?_ ?_
    · refine ⟨?_, ?_, ?_, ?_⟩
      · show 0 ≤ n6
        omega
      · show n6 ≤ (s.size : Int)
        omega
      · show Un.itR l5 (Un.ofs s n6.toNat) = Un.itG s
        rw [hl5, hv2]; exact (Un.itR_step (by omega) ⟨hpn1, hsg2⟩ hx).trans hf7
      show (l5.length : Int) ≤ n6
      omega
    show ((s.size : Int) - n6).toNat < ((s.size : Int) - at__1).toNat
    rw [hn6]
    omega
  refine V.g [.k (out_1s.v),.k (out_1s.v),.kb true] fun _ _ G37 => ?_
  intro S_ s_
  refine V.frz 1 true 105 out_1 out_1s (by kernel_rfl) ?_
  have e0 : out_1 = ((Un.itG s).getD []) := by rw [← hf7, Un.itR_end (by omega)]; rfl
  subst e0
  have e1 : true = (Un.itG s).isSome := by rw [← hf7, Un.itR_end (by omega)]; rfl
  exact V.ret [0, 0] [out_1s] [fun _ => {}] [] [0] [] (.tuple #[out_1s.v, bv true]) (fun _ _ => by kernel_rfl) (fun _ _ => (Eq.trans (by kernel_rfl) (cong1 (fun (x1 : Bool) => (.tuple #[out_1s.v, bv x1] : Value)) e1)).trans (by kernel_rfl)) (fun _ _ => trivial)
theorem items9_ctv (s : ByteArray) (hs : s.size ≤ 1000000) (rv0 : List DItem) (erv0 : rv0 = ((Un.itG s).getD [])) :
    Ct Try.prog 36 #[tv s] [] [] (fun g => .tuple #[((g.ss 0)).v, bv ((Un.itG s).isSome)]) (fun g => [fs true rv0 (g.ss 0)]) (fun g => []) (fun g => []) := by
  subst erv0; exact items9_ct s hs

open Go
namespace Un
open Fr Bg
theorem acc_pos : ∀ (l : List Ditem) (u v : U), 0 < u.2 → acc l u = some v → 0 < v.2
  | [], u, v, h, k => by obtain rfl := Option.some.inj k; exact h
  | x :: l, u, v, h, k => by
    unfold acc at k
    split at k
    · rename_i hw
      exact acc_pos l _ v (tm_pos h (word_ok (some_of hw)).2.2.1 _) k
    · cases k
theorem acc_hb : ∀ (l : List Ditem) (u v : U) (i : Nat), (∀ x ∈ l, itOk x) → Hb u.2 i → acc l u = some v → Hb v.2 (i + 36 * l.length)
  | [], u, v, i, _, h, k => by obtain rfl := Option.some.inj k; exact h
  | x :: l, u, v, i, hx, h, k => by
    unfold acc at k
    split at k
    · rename_i hw
      have h1 := tm_hb h (word_ok (some_of hw)).2.2.2 (hx x List.mem_cons_self).2
      have h2 := acc_hb l _ v _ (fun y hy => hx y (List.mem_cons_of_mem _ hy)) h1 k
      refine h2.mono ?_
      rw [List.length_cons]; omega
    · cases k
structure Rd (s : ByteArray) (l : List Ditem) (d : List Int) (r : Rat) : Prop extends RdIs s l d r where
  rd : read s = (some (d, r), 0)
  pos : 0 < r
  hb : Hb r 1477
theorem rd_of {s : ByteArray} (h : (read s).2 = 0) : ∃ l d r, Rd s l d r := by
  obtain ⟨l, d, r, h1, h2⟩ := read_is h
  have ho := items_ok h1.it
  refine ⟨l, d, r, h1, h2, acc_pos l _ _ (by decide) h1.ac, (acc_hb l _ _ 1 ho.2 (by decide +kernel) h1.ac).mono ?_⟩
  have := ho.1
  omega
theorem Rd.ur {s : ByteArray} {l : List Ditem} {d : List Int} {r : Rat} (h : Rd s l d r) {ps qs : Int} {pd qd : List Int} {e : List Int} (he : e = vec (read s).1) (z : Fz ps pd qs qd r) : UR e ps pd qs qd := by
  refine ur_of ?_ z h.pos
  rw [he, h.rd]
  show Dm.Rt [d.getD 0 0, d.getD 1 0, d.getD 2 0, d.getD 3 0, d.getD 4 0, d.getD 5 0]
  rw [Dm.six_of h.len]; exact h.rt
theorem star (s t : ByteArray) (c : UInt8) : (s ++ ⟨#[c]⟩) ++ t = s ++ (⟨#[c]⟩ ++ t) := bl_inj (by simp)
theorem sg_c {c : UInt8} {t : ByteArray} (h : (c.toNat : Int) = 42 ∨ (c.toNat : Int) = 47) : Sg (⟨#[c]⟩ ++ t) := sg_of (l := bl t) (by rw [bl_append]; rfl) h
theorem mul_read {s t : ByteArray} {l m : List Ditem} {d e : List Int} {r q : Rat} (hs : ¬ s = ByteArray.empty) (ht : ¬ t = ByteArray.empty) (h1 : Rd s l d r) (h2 : Rd t m e q) (hz : s.size + t.size ≤ 39) (hn : ¬ ((bl t).getD 0 default).toNat = 49) :
    read ((s ++ ⟨#[42]⟩) ++ t) = if Dm.Rt (addv d e) then (some (addv d e, r * q), 0) else (none, 3) := by
  rw [star]
  have h3 := items_it ht h2.it
  rw [start_no hn] at h3
  refine RdIs.read (items_two hs (sg_c (.inl rfl)) ?_ h1.it h3) (acc_two h1.ac h2.ac)
  rw [ByteArray.size_append]
  have : (⟨#[42]⟩ : ByteArray).size = 1 := rfl
  omega
theorem one_item {t : ByteArray} {m : List Ditem} (ht : ¬ t = ByteArray.empty) (h : items t = some m) (hn : ¬ ((bl t).getD 0 default).toNat = 49) : 0 < m.length ∧ (m.length ≤ 1 → m = [itm 42 t] ∧ it (⟨#[47]⟩ ++ t) = some [itm 47 t]) := by
  have h3 := items_it ht h
  rw [start_no hn] at h3
  obtain ⟨n, h4, rfl, h5⟩ := it_one h3
  refine ⟨by simp, fun hl => ?_⟩
  have h0 : n = [] := List.eq_nil_of_length_eq_zero (by rw [List.length_cons] at hl; omega)
  subst h0
  exact ⟨rfl, it_div h4 h5⟩
theorem addv_neg {d e : List Int} : addv d (subv Z6 e) = subv d e := by
  unfold addv subv Z6
  simp [Int.sub_eq_add_neg]
theorem div_read {s t : ByteArray} {l m : List Ditem} {d e : List Int} {r q : Rat} (hs : ¬ s = ByteArray.empty) (ht : ¬ t = ByteArray.empty) (h1 : Rd s l d r) (h2 : Rd t m e q) (hz : s.size + t.size ≤ 39) (hn : ¬ ((bl t).getD 0 default).toNat = 49) (hm : m.length ≤ 1) :
    read ((s ++ ⟨#[47]⟩) ++ t) = if Dm.Rt (subv d e) then (some (subv d e, r / q), 0) else (none, 3) := by
  rw [star]
  obtain ⟨rfl, h4⟩ := (one_item ht h2.it hn).2 hm
  have h5 := acc_single (x := itm 42 t) (by have := (cuE_rg t).1; show (if ((42 : UInt8).toNat : Int) = 47 then -cuE t else cuE t) ≠ 0; rw [if_neg (by decide)]; omega) h2.ac
  rw [← addv_neg, Rat.div_def]
  refine RdIs.read (items_two hs (sg_c (.inr rfl)) ?_ h1.it h4) (acc_two h1.ac h5)
  rw [ByteArray.size_append]
  have : (⟨#[47]⟩ : ByteArray).size = 1 := rfl
  omega
theorem same_op {P : Prop} [Decidable P] (hP : P) {l m : List Int} {r q : Rat} {o : Option U × Int} (hl : l = m) (ho : o = if Dm.Rt m then (some (m, r), 0) else (none, 3)) (hq : q = r) :
    (Dm.opE P l = o.2 ∧ (o.2 = 0 ∨ o.2 = 3)) ∧ ((Dm.opV P l 0 = dv o.1 0 ∧ Dm.opV P l 1 = dv o.1 1 ∧ Dm.opV P l 2 = dv o.1 2 ∧ Dm.opV P l 3 = dv o.1 3 ∧ Dm.opV P l 4 = dv o.1 4 ∧ Dm.opV P l 5 = dv o.1 5) ∧
    rS (P ∧ Dm.Rt l) q = rS (o.1.isSome = true) (fv o.1) ∧ rD (P ∧ Dm.Rt l) q = rD (o.1.isSome = true) (fv o.1) ∧ rT (P ∧ Dm.Rt l) = rT (o.1.isSome = true) ∧ rE (P ∧ Dm.Rt l) q = rE (o.1.isSome = true) (fv o.1)) := by
  subst hl hq
  by_cases h : Dm.Rt l
  · rw [if_pos h] at ho
    subst ho
    have hi : (P ∧ Dm.Rt l) ↔ ((some (l, q) : Option U).isSome = true) := ⟨fun _ => rfl, fun _ => ⟨hP, h⟩⟩
    refine ⟨⟨op_0 hP h, .inl rfl⟩, ⟨op_l hP h 0, op_l hP h 1, op_l hP h 2, op_l hP h 3, op_l hP h 4, op_l hP h 5⟩, fr_eq hi rfl⟩
  · rw [if_neg h] at ho
    subst ho
    have hi : (P ∧ Dm.Rt l) ↔ ((none : Option U).isSome = true) := ⟨fun x => absurd x.2 h, fun x => by cases x⟩
    refine ⟨⟨by rw [Dm.opE_y hP, Dm.mkE_n h], .inr rfl⟩, ?_, ?_⟩
    · have k := fun i => opV_no hP h i
      exact ⟨k 0, k 1, k 2, k 3, k 4, k 5⟩
    · have hn : ¬ (P ∧ Dm.Rt l) := fun x => h x.2
      have hm : ¬ ((none : Option U).isSome = true) := fun x => by cases x
      show rS (P ∧ Dm.Rt l) q = rS ((none : Option U).isSome = true) _ ∧ rD (P ∧ Dm.Rt l) q = rD ((none : Option U).isSome = true) _ ∧ rT (P ∧ Dm.Rt l) = rT ((none : Option U).isSome = true) ∧ rE (P ∧ Dm.Rt l) q = rE ((none : Option U).isSome = true) _
      rw [rS_n hn, rD_n hn, rT_n hn, rE_n hn, rS_n hm, rD_n hm, rT_n hm, rE_n hm]; exact ⟨rfl, rfl, rfl, rfl⟩
end Un

open Go Go.Proofs
set_option maxRecDepth 10000 in
set_option maxHeartbeats 4000000 in
theorem uproducts_ct (s t : ByteArray) :
    Cp Try.prog 8 #[tv s, tv t] [] (bv true) := by
  refine V.fn mo Try.func8 146 4 (by kernel_rfl) fun w H ε k0 => ?_
  clear k0
  refine V.g [.kb false] fun _ _ G1 => ?_
  intro S_ s_
  refine V.g [.cp g0 0 11 [] (fun _ G => sane9_ct ),.kb true] fun _ _ G2 => ?_
  intro S_ s_
  refine nm ((decide (40 < (s.size : Int))) || (decide (40 < (t.size : Int))) : Bool) fun p1 hp1 => ?_
  refine nm ((p1 || (decide (s = ByteArray.empty))) || (decide (t = ByteArray.empty)) : Bool) fun p2 hp2 => ?_
  refine V.g [.k (tv s),.k (iv (s.size : Int)),.k (bv (decide (40 < (s.size : Int)))),.k (bv (decide (40 < (s.size : Int)))),.k (tv t),.k (iv (t.size : Int)),.k (bv (decide (40 < (t.size : Int)))),.orn g0 false (decide (40 < (s.size : Int))) (decide (40 < (t.size : Int))) p1 hp1,.k (bv p1),.k (tv s),.seq s ByteArray.empty,.or g0 false p1 (decide (s = ByteArray.empty)),.k (bv (p1 || (decide (s = ByteArray.empty)))),.k (tv t),.seq t ByteArray.empty,.orn g0 false (p1 || (decide (s = ByteArray.empty))) (decide (t = ByteArray.empty)) p2 hp2] fun _ _ G3 => ?_
  intro S_ s_
  refine V.cond (b := p2) (iN hp2 (iOT (iOT (iN hp1 (iOT iDT iDT)) iDT) iDT)) (iN hp2 (iOF (iOF (iN hp1 (iOF iDF iDF)) iDF) iDF)) (by kernel_rfl) (fun q1 => ?_) (fun q2 => ?_)
  · refine V.g [.kb true,.kb true] fun _ _ G4 => ?_
    intro S_ s_
    exact V.ret [0] [] [] [] [] [] (bv true) (fun _ _ => by kernel_rfl) (fun _ _ => by kernel_rfl) (fun _ _ => trivial)
  obtain ⟨⟨⟨hs40, ht40⟩, hse0⟩, hte0⟩ := q2
  refine nm (Un.dv ((Un.read s).1) 0 : Int) fun n1 hn1 => ?_
  refine nm (Un.dv ((Un.read s).1) 1 : Int) fun n2 hn2 => ?_
  refine nm (Un.dv ((Un.read s).1) 2 : Int) fun n3 hn3 => ?_
  refine nm (Un.dv ((Un.read s).1) 3 : Int) fun n4 hn4 => ?_
  refine nm (Un.dv ((Un.read s).1) 4 : Int) fun n5 hn5 => ?_
  refine nm (Un.dv ((Un.read s).1) 5 : Int) fun n6 hn6 => ?_
  refine nm (Fr.rS (((Un.read s).1).isSome = true) (Un.fv ((Un.read s).1)) : Int) fun n7 hn7 => ?_
  refine nm (Fr.rD (((Un.read s).1).isSome = true) (Un.fv ((Un.read s).1)) : List Int) fun l1 hl1 => ?_
  have hl1n := congrArg List.length hl1
  refine nm (Fr.rT (((Un.read s).1).isSome = true) : Int) fun n8 hn8 => ?_
  refine nm (Fr.rE (((Un.read s).1).isSome = true) (Un.fv ((Un.read s).1)) : List Int) fun l2 hl2 => ?_
  have hl2n := congrArg List.length hl2
  refine nm ((Un.read s).2 : Int) fun n9 hn9 => ?_
  refine V.r [.k (tv s),.ct g0 1 13 false [] [] [] (fun _ G => uread_ctv s (by omega) n1 hn1 n2 hn2 n3 hn3 n4 hn4 n5 hn5 n6 hn6 n7 hn7 l1 hl1 n8 hn8 l2 hl2 n9 hn9),.v fun G => .tuple #[.agg #[iv n1, iv n2, iv n3, iv n4, iv n5, iv n6, iv n7, ((G 1).ss 0).v, iv n8, ((G 1).ss 1).v], iv n9],.v fun G => .agg #[iv n1, iv n2, iv n3, iv n4, iv n5, iv n6, iv n7, ((G 1).ss 0).v, iv n8, ((G 1).ss 1).v],.k (iv n9),.nb 5 0 (fun b => pp b 0) 32 (fun _ => #[iv 0, iv 0, iv 0, iv 0, iv 0, iv 0, iv 0, .slice none 0 0, iv 0, .slice none 0 0]),.st 0 (fun G => .blk ((G 5).b) #[iv n1, iv n2, iv n3, iv n4, iv n5, iv n6, iv n7, ((G 1).ss 0).v, iv n8, ((G 1).ss 1).v] 32),.k (iv n9)] fun _ _ G5 kw5 => ?_
  intro S_ s_
  obtain ⟨⟨kl1, -⟩, ⟨kl2, -⟩, -⟩ : Lq l1 (((G5 1).ss 0).v) ∧ Lq l2 (((G5 1).ss 1).v) ∧ True := kn kw5 (by kernel_rfl)
  clear kw5
  refine nm (Un.dv ((Un.read t).1) 0 : Int) fun n10 hn10 => ?_
  refine nm (Un.dv ((Un.read t).1) 1 : Int) fun n11 hn11 => ?_
  refine nm (Un.dv ((Un.read t).1) 2 : Int) fun n12 hn12 => ?_
  refine nm (Un.dv ((Un.read t).1) 3 : Int) fun n13 hn13 => ?_
  refine nm (Un.dv ((Un.read t).1) 4 : Int) fun n14 hn14 => ?_
  refine nm (Un.dv ((Un.read t).1) 5 : Int) fun n15 hn15 => ?_
  refine nm (Fr.rS (((Un.read t).1).isSome = true) (Un.fv ((Un.read t).1)) : Int) fun n16 hn16 => ?_
  refine nm (Fr.rD (((Un.read t).1).isSome = true) (Un.fv ((Un.read t).1)) : List Int) fun l3 hl3 => ?_
  have hl3n := congrArg List.length hl3
  refine nm (Fr.rT (((Un.read t).1).isSome = true) : Int) fun n17 hn17 => ?_
  refine nm (Fr.rE (((Un.read t).1).isSome = true) (Un.fv ((Un.read t).1)) : List Int) fun l4 hl4 => ?_
  have hl4n := congrArg List.length hl4
  refine nm ((Un.read t).2 : Int) fun n18 hn18 => ?_
  refine V.r [.k (tv t),.ct g0 1 13 false [] [] [] (fun _ G => uread_ctv t (by omega) n10 hn10 n11 hn11 n12 hn12 n13 hn13 n14 hn14 n15 hn15 n16 hn16 l3 hl3 n17 hn17 l4 hl4 n18 hn18),.v fun G => .tuple #[.agg #[iv n10, iv n11, iv n12, iv n13, iv n14, iv n15, iv n16, ((G 1).ss 0).v, iv n17, ((G 1).ss 1).v], iv n18],.v fun G => .agg #[iv n10, iv n11, iv n12, iv n13, iv n14, iv n15, iv n16, ((G 1).ss 0).v, iv n17, ((G 1).ss 1).v],.k (iv n18),.nb 5 1 (fun b => pp b 0) 32 (fun _ => #[iv 0, iv 0, iv 0, iv 0, iv 0, iv 0, iv 0, .slice none 0 0, iv 0, .slice none 0 0]),.st 1 (fun G => .blk ((G 5).b) #[iv n10, iv n11, iv n12, iv n13, iv n14, iv n15, iv n16, ((G 1).ss 0).v, iv n17, ((G 1).ss 1).v] 32),.k (iv n18)] fun _ _ G6 kw6 => ?_
  intro S_ s_
  obtain ⟨⟨kl3, -⟩, ⟨kl4, -⟩, -⟩ : Lq l3 (((G6 1).ss 0).v) ∧ Lq l4 (((G6 1).ss 1).v) ∧ True := kn kw6 (by kernel_rfl)
  clear kw6
  refine nm (((Un.itG t).getD []) : List DItem) fun l5 hl5 => ?_
  have hl5n := congrArg List.length hl5
  refine V.r [.k (tv t),.ct g0 1 36 false [] [] [] (fun _ G => items9_ctv t (by omega) l5 hl5),.v fun G => .tuple #[((G 1).ss 0).v, bv ((Un.itG t).isSome)],.v fun G => ((G 1).ss 0).v,.k (bv ((Un.itG t).isSome)),.v fun G => ((G 1).ss 0).v,.k (bv ((Un.itG t).isSome))] fun _ _ G7 kw7 => ?_
  intro S_ s_
  obtain ⟨⟨kl5, -⟩, -⟩ : Lq l5 (((G7 1).ss 0).v) ∧ True := kn kw7 (by kernel_rfl)
  clear kw7
  refine nm ((s.size : Int) + (t.size : Int) : Int) fun n19 hn19 => ?_
  refine nm (((!(decide (n9 = 0))) || (!(decide (n18 = 0)))) || (decide (39 < n19)) : Bool) fun p3 hp3 => ?_
  refine nm ((bl t).getD (0 : Int).toNat default : UInt8) fun c1 hc1 => ?_
  refine V.g [.k (iv n9),.k (bv (!(decide (n9 = 0)))),.k (bv (!(decide (n9 = 0)))),.k (iv n18),.k (bv (!(decide (n18 = 0)))),.or g0 false (!(decide (n9 = 0))) (!(decide (n18 = 0))),.k (bv ((!(decide (n9 = 0))) || (!(decide (n18 = 0))))),.k (tv s),.k (iv (s.size : Int)),.k (tv t),.k (iv (t.size : Int)),.arg (gF (b := (!(decide (n9 = 0))) || (!(decide (n18 = 0)))) (iOF (iNF iDT) (iNF iDT))) ((s.size : Int) + (t.size : Int)) n19 hn19 (fun hg => by omega),.k (bv (decide (39 < n19))),.orn g0 false ((!(decide (n9 = 0))) || (!(decide (n18 = 0)))) (decide (39 < n19)) p3 hp3,.k (bv p3),.k (tv t),.sid (gF (b := p3) (iN hp3 (iOF (iOF (iNF iDT) (iNF iDT)) iDF))) t (0 : Int) c1 hc1 (fun hg => ⟨by omega, by have := Dm.size_ne hte0; omega⟩),.k (bv (decide ((c1.toNat : Int) = 49))),.or g0 false p3 (decide ((c1.toNat : Int) = 49))] fun _ _ G8 => ?_
  intro S_ s_
  refine V.cond (b := p3 || (decide ((c1.toNat : Int) = 49))) (iOT (iN hp3 (iOT (iOT (iNT iDF) (iNT iDF)) iDT)) iDT) (iOF (iN hp3 (iOF (iOF (iNF iDT) (iNF iDT)) iDF)) iDF) (by kernel_rfl) (fun q3 => ?_) (fun q4 => ?_)
  · refine V.g [.kb true,.kb true] fun _ _ G9 => ?_
    intro S_ s_
    exact V.ret [0] [] [] [] [] [] (bv true) (fun _ _ => by kernel_rfl) (fun _ _ => by kernel_rfl) (fun _ _ => trivial)
  obtain ⟨⟨⟨hea, heb⟩, hz39⟩, h49⟩ := q4
  rw [hn9] at hea; rw [hn18] at heb
  obtain ⟨la, da, ra, hda⟩ := Un.rd_of (by first | exact hea | exact Decidable.not_not.1 hea); obtain ⟨lb, db, rb, hdb⟩ := Un.rd_of (by first | exact heb | exact Decidable.not_not.1 heb)
  have zA := Fr.Fz.of (show (Un.read s).1.isSome = true by rw [hda.rd]; rfl) hn7 hl1 hn8 hl2
  rw [show Un.fv (Un.read s).1 = ra by rw [hda.rd]; rfl] at zA
  have hl_zA := zA.len (hda.hb); have hl1_zA := hl_zA.1; have hl2_zA := hl_zA.2
  have zAu := hda.ur (e := [n1, n2, n3, n4, n5, n6]) (by rw [hn1, hn2, hn3, hn4, hn5, hn6]; rfl) zA
  have zA_0 : n1 = da.getD 0 0 := by rw [hn1, hda.rd]; rfl
  have zA_1 : n2 = da.getD 1 0 := by rw [hn2, hda.rd]; rfl
  have zA_2 : n3 = da.getD 2 0 := by rw [hn3, hda.rd]; rfl
  have zA_3 : n4 = da.getD 3 0 := by rw [hn4, hda.rd]; rfl
  have zA_4 : n5 = da.getD 4 0 := by rw [hn5, hda.rd]; rfl
  have zA_5 : n6 = da.getD 5 0 := by rw [hn6, hda.rd]; rfl
  have zB := Fr.Fz.of (show (Un.read t).1.isSome = true by rw [hdb.rd]; rfl) hn16 hl3 hn17 hl4
  rw [show Un.fv (Un.read t).1 = rb by rw [hdb.rd]; rfl] at zB
  have hl_zB := zB.len (hdb.hb); have hl1_zB := hl_zB.1; have hl2_zB := hl_zB.2
  have zBu := hdb.ur (e := [n10, n11, n12, n13, n14, n15]) (by rw [hn10, hn11, hn12, hn13, hn14, hn15]; rfl) zB
  have zB_0 : n10 = db.getD 0 0 := by rw [hn10, hdb.rd]; rfl
  have zB_1 : n11 = db.getD 1 0 := by rw [hn11, hdb.rd]; rfl
  have zB_2 : n12 = db.getD 2 0 := by rw [hn12, hdb.rd]; rfl
  have zB_3 : n13 = db.getD 3 0 := by rw [hn13, hdb.rd]; rfl
  have zB_4 : n14 = db.getD 4 0 := by rw [hn14, hdb.rd]; rfl
  have zB_5 : n15 = db.getD 5 0 := by rw [hn15, hdb.rd]; rfl
  have hse : ¬ s = ByteArray.empty := hse0; have hte : ¬ t = ByteArray.empty := hte0
  have htn : ¬ ((bl t).getD 0 default).toNat = 49 := by rw [show (bl t).getD 0 default = c1 from hc1.symm]; omega
  have hPu := And.intro zAu zBu
  refine nm (Dm.opV (Un.UR [n1, n2, n3, n4, n5, n6] n7 l1 n8 l2 ∧ Un.UR [n10, n11, n12, n13, n14, n15] n16 l3 n17 l4) [n1 + n10, n2 + n11, n3 + n12, n4 + n13, n5 + n14, n6 + n15] 0 : Int) fun n20 hn20 => ?_
  refine nm (Dm.opV (Un.UR [n1, n2, n3, n4, n5, n6] n7 l1 n8 l2 ∧ Un.UR [n10, n11, n12, n13, n14, n15] n16 l3 n17 l4) [n1 + n10, n2 + n11, n3 + n12, n4 + n13, n5 + n14, n6 + n15] 1 : Int) fun n21 hn21 => ?_
  refine nm (Dm.opV (Un.UR [n1, n2, n3, n4, n5, n6] n7 l1 n8 l2 ∧ Un.UR [n10, n11, n12, n13, n14, n15] n16 l3 n17 l4) [n1 + n10, n2 + n11, n3 + n12, n4 + n13, n5 + n14, n6 + n15] 2 : Int) fun n22 hn22 => ?_
  refine nm (Dm.opV (Un.UR [n1, n2, n3, n4, n5, n6] n7 l1 n8 l2 ∧ Un.UR [n10, n11, n12, n13, n14, n15] n16 l3 n17 l4) [n1 + n10, n2 + n11, n3 + n12, n4 + n13, n5 + n14, n6 + n15] 3 : Int) fun n23 hn23 => ?_
  refine nm (Dm.opV (Un.UR [n1, n2, n3, n4, n5, n6] n7 l1 n8 l2 ∧ Un.UR [n10, n11, n12, n13, n14, n15] n16 l3 n17 l4) [n1 + n10, n2 + n11, n3 + n12, n4 + n13, n5 + n14, n6 + n15] 4 : Int) fun n24 hn24 => ?_
  refine nm (Dm.opV (Un.UR [n1, n2, n3, n4, n5, n6] n7 l1 n8 l2 ∧ Un.UR [n10, n11, n12, n13, n14, n15] n16 l3 n17 l4) [n1 + n10, n2 + n11, n3 + n12, n4 + n13, n5 + n14, n6 + n15] 5 : Int) fun n25 hn25 => ?_
  refine nm (Fr.rS ((Un.UR [n1, n2, n3, n4, n5, n6] n7 l1 n8 l2 ∧ Un.UR [n10, n11, n12, n13, n14, n15] n16 l3 n17 l4) ∧ Dm.Rt [n1 + n10, n2 + n11, n3 + n12, n4 + n13, n5 + n14, n6 + n15]) ((Fr.fq n7 l1 l2) * (Fr.fq n16 l3 l4)) : Int) fun n26 hn26 => ?_
  refine nm (Fr.rD ((Un.UR [n1, n2, n3, n4, n5, n6] n7 l1 n8 l2 ∧ Un.UR [n10, n11, n12, n13, n14, n15] n16 l3 n17 l4) ∧ Dm.Rt [n1 + n10, n2 + n11, n3 + n12, n4 + n13, n5 + n14, n6 + n15]) ((Fr.fq n7 l1 l2) * (Fr.fq n16 l3 l4)) : List Int) fun l6 hl6 => ?_
  have hl6n := congrArg List.length hl6
  refine nm (Fr.rT ((Un.UR [n1, n2, n3, n4, n5, n6] n7 l1 n8 l2 ∧ Un.UR [n10, n11, n12, n13, n14, n15] n16 l3 n17 l4) ∧ Dm.Rt [n1 + n10, n2 + n11, n3 + n12, n4 + n13, n5 + n14, n6 + n15]) : Int) fun n27 hn27 => ?_
  refine nm (Fr.rE ((Un.UR [n1, n2, n3, n4, n5, n6] n7 l1 n8 l2 ∧ Un.UR [n10, n11, n12, n13, n14, n15] n16 l3 n17 l4) ∧ Dm.Rt [n1 + n10, n2 + n11, n3 + n12, n4 + n13, n5 + n14, n6 + n15]) ((Fr.fq n7 l1 l2) * (Fr.fq n16 l3 l4)) : List Int) fun l7 hl7 => ?_
  have hl7n := congrArg List.length hl7
  refine nm (Dm.opE (Un.UR [n1, n2, n3, n4, n5, n6] n7 l1 n8 l2 ∧ Un.UR [n10, n11, n12, n13, n14, n15] n16 l3 n17 l4) [n1 + n10, n2 + n11, n3 + n12, n4 + n13, n5 + n14, n6 + n15] : Int) fun n28 hn28 => ?_
  refine V.r [.ld 0 0 true (fun _ => [iv n1, iv n2, iv n3, iv n4, iv n5, iv n6, iv n7, ((G5 1).ss 0).v, iv n8, ((G5 1).ss 1).v]),.ld 1 0 true (fun _ => [iv n10, iv n11, iv n12, iv n13, iv n14, iv n15, iv n16, ((G6 1).ss 0).v, iv n17, ((G6 1).ss 1).v]),.ct g0 2 37 false [] [] [(kf true (.f 0) l1 (fun _ => (G5 1).ss 0)).a, (kf true (.f 1) l2 (fun _ => (G5 1).ss 1)).a, (kf true (.f 2) l3 (fun _ => (G6 1).ss 0)).a, (kf true (.f 3) l4 (fun _ => (G6 1).ss 1)).a] (fun _ G => umul_ctv n1 n2 n3 n4 n5 n6 n7 l1 ((G5 1).ss 0) n8 l2 ((G5 1).ss 1) n10 n11 n12 n13 n14 n15 n16 l3 ((G6 1).ss 0) n17 l4 ((G6 1).ss 1) (by omega) (by omega) (by omega) (by omega) n20 hn20 n21 hn21 n22 hn22 n23 hn23 n24 hn24 n25 hn25 n26 hn26 l6 hl6 n27 hn27 l7 hl7 n28 hn28),.v fun G => .tuple #[.agg #[iv n20, iv n21, iv n22, iv n23, iv n24, iv n25, iv n26, ((G 2).ss 0).v, iv n27, ((G 2).ss 1).v], iv n28],.v fun G => .agg #[iv n20, iv n21, iv n22, iv n23, iv n24, iv n25, iv n26, ((G 2).ss 0).v, iv n27, ((G 2).ss 1).v],.k (iv n28),.nb 6 2 (fun b => pp b 0) 32 (fun _ => #[iv 0, iv 0, iv 0, iv 0, iv 0, iv 0, iv 0, .slice none 0 0, iv 0, .slice none 0 0]),.st 2 (fun G => .blk ((G 6).b) #[iv n20, iv n21, iv n22, iv n23, iv n24, iv n25, iv n26, ((G 2).ss 0).v, iv n27, ((G 2).ss 1).v] 32),.k (iv n28)] fun _ _ G10 kw10 => ?_
  intro S_ s_
  obtain ⟨⟨kl6, -⟩, ⟨kl7, -⟩, -⟩ : Lq l6 (((G10 2).ss 0).v) ∧ Lq l7 (((G10 2).ss 1).v) ∧ True := kn kw10 (by kernel_rfl)
  clear kw10
  have hz1 : (⟨#[42]⟩ : ByteArray).size = 1 := rfl
  refine nm (s ++ ⟨#[42]⟩ : ByteArray) fun t1 ht1 => ?_
  have ht1n : t1.size = s.size + (⟨#[42]⟩ : ByteArray).size := by rw [ht1, ByteArray.size_append]
  refine nm (t1 ++ t : ByteArray) fun t2 ht2 => ?_
  have ht2n : t2.size = t1.size + t.size := by rw [ht2, ByteArray.size_append]
  refine nm (Un.dv ((Un.read t2).1) 0 : Int) fun n29 hn29 => ?_
  refine nm (Un.dv ((Un.read t2).1) 1 : Int) fun n30 hn30 => ?_
  refine nm (Un.dv ((Un.read t2).1) 2 : Int) fun n31 hn31 => ?_
  refine nm (Un.dv ((Un.read t2).1) 3 : Int) fun n32 hn32 => ?_
  refine nm (Un.dv ((Un.read t2).1) 4 : Int) fun n33 hn33 => ?_
  refine nm (Un.dv ((Un.read t2).1) 5 : Int) fun n34 hn34 => ?_
  refine nm (Fr.rS (((Un.read t2).1).isSome = true) (Un.fv ((Un.read t2).1)) : Int) fun n35 hn35 => ?_
  refine nm (Fr.rD (((Un.read t2).1).isSome = true) (Un.fv ((Un.read t2).1)) : List Int) fun l8 hl8 => ?_
  have hl8n := congrArg List.length hl8
  refine nm (Fr.rT (((Un.read t2).1).isSome = true) : Int) fun n36 hn36 => ?_
  refine nm (Fr.rE (((Un.read t2).1).isSome = true) (Un.fv ((Un.read t2).1)) : List Int) fun l9 hl9 => ?_
  have hl9n := congrArg List.length hl9
  refine nm ((Un.read t2).2 : Int) fun n37 hn37 => ?_
  have hl10 : [n1 + n10, n2 + n11, n3 + n12, n4 + n13, n5 + n14, n6 + n15] = Un.addv da db := by rw [zA_0, zA_1, zA_2, zA_3, zA_4, zA_5, zB_0, zB_1, zB_2, zB_3, zB_4, zB_5]; rfl
  have ho10 : Un.read t2 = if Dm.Rt (Un.addv da db) then (some (Un.addv da db, ra * rb), 0) else (none, 3) := by rw [ht2, ht1]; exact Un.mul_read hse hte hda hdb (by omega) htn
  have hso10 := Un.same_op hPu hl10 ho10 (show (Fr.fq n7 l1 l2) * (Fr.fq n16 l3 l4) = ra * rb by rw [zA.v, zB.v])
  refine V.r [.k (tv s),.sad g0 s ⟨#[42]⟩ t1 ht1 (fun _ => by omega),.k (tv t),.sad g0 t1 t t2 ht2 (fun _ => by omega),.ct g0 4 13 false [] [] [] (fun _ G => uread_ctv t2 (by omega) n29 hn29 n30 hn30 n31 hn31 n32 hn32 n33 hn33 n34 hn34 n35 hn35 l8 hl8 n36 hn36 l9 hl9 n37 hn37),.v fun G => .tuple #[.agg #[iv n29, iv n30, iv n31, iv n32, iv n33, iv n34, iv n35, ((G 4).ss 0).v, iv n36, ((G 4).ss 1).v], iv n37],.v fun G => .agg #[iv n29, iv n30, iv n31, iv n32, iv n33, iv n34, iv n35, ((G 4).ss 0).v, iv n36, ((G 4).ss 1).v],.k (iv n37),.nb 8 3 (fun b => pp b 0) 32 (fun _ => #[iv 0, iv 0, iv 0, iv 0, iv 0, iv 0, iv 0, .slice none 0 0, iv 0, .slice none 0 0]),.st 3 (fun G => .blk ((G 8).b) #[iv n29, iv n30, iv n31, iv n32, iv n33, iv n34, iv n35, ((G 4).ss 0).v, iv n36, ((G 4).ss 1).v] 32),.k (iv n37)] fun _ _ G11 kw11 => ?_
  intro S_ s_
  obtain ⟨⟨kl8, -⟩, ⟨kl9, -⟩, -⟩ : Lq l8 (((G11 4).ss 0).v) ∧ Lq l9 (((G11 4).ss 1).v) ∧ True := kn kw11 (by kernel_rfl)
  clear kw11
  refine nm ((!(decide (n28 = 0))) && (!(decide (n28 = 3))) : Bool) fun p4 hp4 => ?_
  refine nm ((((!(decide (n28 = n37))) || p4) || false) || (!((Un.itG t).isSome)) : Bool) fun p5 hp5 => ?_
  have hsa11 : (n20 = n29 ∧ n21 = n30 ∧ n22 = n31 ∧ n23 = n32 ∧ n24 = n33 ∧ n25 = n34) ∧ n26 = n35 ∧ l6 = l8 ∧ n27 = n36 ∧ l7 = l9 := by rw [hn20, hn21, hn22, hn23, hn24, hn25, hn26, hl6, hn27, hl7, hn29, hn30, hn31, hn32, hn33, hn34, hn35, hl8, hn36, hl9]; exact hso10.2
  have hge11 : n28 = n37 := by rw [hn28, hn37]; exact hso10.1.1
  have hg311 : n37 = 0 ∨ n37 = 3 := by rw [hn37]; exact hso10.1.2
  have hit := hdb.it
  have hig : Un.itG t = some (lb.map Un.ri) := by unfold Un.itG; rw [hit]; rfl
  have hiS : (Un.itG t).isSome = true := by rw [hig]; rfl
  have hil : l5.length = lb.length := by rw [hl5, hig]; simp
  have hone := Un.one_item hte hit htn
  refine V.g [.k (iv n28),.k (iv n37),.k (bv (!(decide (n28 = n37)))),.k (bv (!(decide (n28 = n37)))),.k (iv n28),.k (bv (!(decide (n28 = 0)))),.k (bv (!(decide (n28 = 0)))),.k (iv n28),.k (bv (!(decide (n28 = 3)))),.andn (gF (b := !(decide (n28 = n37))) (iNF iDT)) false (!(decide (n28 = 0))) (!(decide (n28 = 3))) p4 hp4,.or g0 false (!(decide (n28 = n37))) p4,.k (bv ((!(decide (n28 = n37))) || p4)),.ld 2 0 true (fun _ => [iv n20, iv n21, iv n22, iv n23, iv n24, iv n25, iv n26, ((G10 2).ss 0).v, iv n27, ((G10 2).ss 1).v]),.ld 3 0 true (fun _ => [iv n29, iv n30, iv n31, iv n32, iv n33, iv n34, iv n35, ((G11 4).ss 0).v, iv n36, ((G11 4).ss 1).v]),.cp (gF (b := (!(decide (n28 = n37))) || p4) (iOF (iNF iDT) (iN hp4 (iAF (iNF iDT) (iNF iDT))))) 14 19 [(kf true (.f 5) l6 (fun _ => (G10 2).ss 0)).a, (kf true (.f 6) l7 (fun _ => (G10 2).ss 1)).a, (kf true (.f 7) l8 (fun _ => (G11 4).ss 0)).a, (kf true (.f 8) l9 (fun _ => (G11 4).ss 1)).a] (fun hg G => same9t_ct n20 n21 n22 n23 n24 n25 n26 l6 ((G10 2).ss 0) n27 l7 ((G10 2).ss 1) n29 n30 n31 n32 n33 n34 n35 l8 ((G11 4).ss 0) n36 l9 ((G11 4).ss 1) hsa11),.kb false,.or g0 false ((!(decide (n28 = n37))) || p4) false,.k (bv (((!(decide (n28 = n37))) || p4) || false)),.k (bv ((Un.itG t).isSome)),.k (bv (!((Un.itG t).isSome))),.orn g0 false (((!(decide (n28 = n37))) || p4) || false) (!((Un.itG t).isSome)) p5 hp5,.k (bv p5),.k (((G7 1).ss 0).v),.ln (kf true (.f 4) l5 (fun _ => (G7 1).ss 0)),.k (bv (decide ((l5.length : Int) = 0))),.or g0 false p5 (decide ((l5.length : Int) = 0))] fun _ _ G12 => ?_
  intro S_ s_
  refine V.cond (b := p5 || (decide ((l5.length : Int) = 0))) (iOT (iN hp5 (iOT (iOT (iOT (iNT iDF) (iN hp4 (iAT (iNT iDF) (iNT iDF)))) iFT) (iNT Iff.rfl))) iDT) (iOF (iN hp5 (iOF (iOF (iOF (iNF iDT) (iN hp4 (iAF (iNF iDT) (iNF iDT)))) iFF) (iNF Iff.rfl))) iDF) (by kernel_rfl) (fun q5 => ?_) (fun q6 => ?_)
  · exfalso; have hqq := q5; rcases hqq with (((h | h) | h) | h) | h
    · exact h hge11
    · rw [hge11] at h; rcases hg311 with h3 | h3
      · exact h.1 h3
      exact h.2 h3
    · exact h.elim
    · first | exact h hiS | (rw [hiS] at h; simp at h)
    have := hone.1; omega
  refine V.g [.k (((G7 1).ss 0).v),.ln (kf true (.f 4) l5 (fun _ => (G7 1).ss 0)),.k (bv (decide (1 < (l5.length : Int))))] fun _ _ G13 => ?_
  intro S_ s_
  refine V.cond (b := decide (1 < (l5.length : Int))) iDT iDF (by kernel_rfl) (fun q7 => ?_) (fun q8 => ?_)
  · refine V.g [.kb true,.kb true] fun _ _ G14 => ?_
    intro S_ s_
    exact V.ret [0] [] [] [] [] [] (bv true) (fun _ _ => by kernel_rfl) (fun _ _ => by kernel_rfl) (fun _ _ => trivial)
  have hlen1 : lb.length ≤ 1 := by have hqq := q8; omega
  refine nm (Dm.opV (Un.UR [n1, n2, n3, n4, n5, n6] n7 l1 n8 l2 ∧ Un.UR [n10, n11, n12, n13, n14, n15] n16 l3 n17 l4) [n1 - n10, n2 - n11, n3 - n12, n4 - n13, n5 - n14, n6 - n15] 0 : Int) fun n38 hn38 => ?_
  refine nm (Dm.opV (Un.UR [n1, n2, n3, n4, n5, n6] n7 l1 n8 l2 ∧ Un.UR [n10, n11, n12, n13, n14, n15] n16 l3 n17 l4) [n1 - n10, n2 - n11, n3 - n12, n4 - n13, n5 - n14, n6 - n15] 1 : Int) fun n39 hn39 => ?_
  refine nm (Dm.opV (Un.UR [n1, n2, n3, n4, n5, n6] n7 l1 n8 l2 ∧ Un.UR [n10, n11, n12, n13, n14, n15] n16 l3 n17 l4) [n1 - n10, n2 - n11, n3 - n12, n4 - n13, n5 - n14, n6 - n15] 2 : Int) fun n40 hn40 => ?_
  refine nm (Dm.opV (Un.UR [n1, n2, n3, n4, n5, n6] n7 l1 n8 l2 ∧ Un.UR [n10, n11, n12, n13, n14, n15] n16 l3 n17 l4) [n1 - n10, n2 - n11, n3 - n12, n4 - n13, n5 - n14, n6 - n15] 3 : Int) fun n41 hn41 => ?_
  refine nm (Dm.opV (Un.UR [n1, n2, n3, n4, n5, n6] n7 l1 n8 l2 ∧ Un.UR [n10, n11, n12, n13, n14, n15] n16 l3 n17 l4) [n1 - n10, n2 - n11, n3 - n12, n4 - n13, n5 - n14, n6 - n15] 4 : Int) fun n42 hn42 => ?_
  refine nm (Dm.opV (Un.UR [n1, n2, n3, n4, n5, n6] n7 l1 n8 l2 ∧ Un.UR [n10, n11, n12, n13, n14, n15] n16 l3 n17 l4) [n1 - n10, n2 - n11, n3 - n12, n4 - n13, n5 - n14, n6 - n15] 5 : Int) fun n43 hn43 => ?_
  refine nm (Fr.rS ((Un.UR [n1, n2, n3, n4, n5, n6] n7 l1 n8 l2 ∧ Un.UR [n10, n11, n12, n13, n14, n15] n16 l3 n17 l4) ∧ Dm.Rt [n1 - n10, n2 - n11, n3 - n12, n4 - n13, n5 - n14, n6 - n15]) ((Fr.fq n7 l1 l2) / (Fr.fq n16 l3 l4)) : Int) fun n44 hn44 => ?_
  refine nm (Fr.rD ((Un.UR [n1, n2, n3, n4, n5, n6] n7 l1 n8 l2 ∧ Un.UR [n10, n11, n12, n13, n14, n15] n16 l3 n17 l4) ∧ Dm.Rt [n1 - n10, n2 - n11, n3 - n12, n4 - n13, n5 - n14, n6 - n15]) ((Fr.fq n7 l1 l2) / (Fr.fq n16 l3 l4)) : List Int) fun l10 hl10 => ?_
  have hl10n := congrArg List.length hl10
  refine nm (Fr.rT ((Un.UR [n1, n2, n3, n4, n5, n6] n7 l1 n8 l2 ∧ Un.UR [n10, n11, n12, n13, n14, n15] n16 l3 n17 l4) ∧ Dm.Rt [n1 - n10, n2 - n11, n3 - n12, n4 - n13, n5 - n14, n6 - n15]) : Int) fun n45 hn45 => ?_
  refine nm (Fr.rE ((Un.UR [n1, n2, n3, n4, n5, n6] n7 l1 n8 l2 ∧ Un.UR [n10, n11, n12, n13, n14, n15] n16 l3 n17 l4) ∧ Dm.Rt [n1 - n10, n2 - n11, n3 - n12, n4 - n13, n5 - n14, n6 - n15]) ((Fr.fq n7 l1 l2) / (Fr.fq n16 l3 l4)) : List Int) fun l11 hl11 => ?_
  have hl11n := congrArg List.length hl11
  refine nm (Dm.opE (Un.UR [n1, n2, n3, n4, n5, n6] n7 l1 n8 l2 ∧ Un.UR [n10, n11, n12, n13, n14, n15] n16 l3 n17 l4) [n1 - n10, n2 - n11, n3 - n12, n4 - n13, n5 - n14, n6 - n15] : Int) fun n46 hn46 => ?_
  refine V.r [.ld 0 0 true (fun _ => [iv n1, iv n2, iv n3, iv n4, iv n5, iv n6, iv n7, ((G5 1).ss 0).v, iv n8, ((G5 1).ss 1).v]),.ld 1 0 true (fun _ => [iv n10, iv n11, iv n12, iv n13, iv n14, iv n15, iv n16, ((G6 1).ss 0).v, iv n17, ((G6 1).ss 1).v]),.ct g0 2 38 false [] [] [(kf true (.f 0) l1 (fun _ => (G5 1).ss 0)).a, (kf true (.f 1) l2 (fun _ => (G5 1).ss 1)).a, (kf true (.f 2) l3 (fun _ => (G6 1).ss 0)).a, (kf true (.f 3) l4 (fun _ => (G6 1).ss 1)).a] (fun _ G => udiv_ctv n1 n2 n3 n4 n5 n6 n7 l1 ((G5 1).ss 0) n8 l2 ((G5 1).ss 1) n10 n11 n12 n13 n14 n15 n16 l3 ((G6 1).ss 0) n17 l4 ((G6 1).ss 1) (by omega) (by omega) (by omega) (by omega) n38 hn38 n39 hn39 n40 hn40 n41 hn41 n42 hn42 n43 hn43 n44 hn44 l10 hl10 n45 hn45 l11 hl11 n46 hn46),.v fun G => .tuple #[.agg #[iv n38, iv n39, iv n40, iv n41, iv n42, iv n43, iv n44, ((G 2).ss 0).v, iv n45, ((G 2).ss 1).v], iv n46],.v fun G => .agg #[iv n38, iv n39, iv n40, iv n41, iv n42, iv n43, iv n44, ((G 2).ss 0).v, iv n45, ((G 2).ss 1).v],.k (iv n46),.st 2 (fun G => .blk ((G10 6).b) #[iv n38, iv n39, iv n40, iv n41, iv n42, iv n43, iv n44, ((G 2).ss 0).v, iv n45, ((G 2).ss 1).v] 32),.k (iv n46)] fun _ _ G15 kw15 => ?_
  intro S_ s_
  obtain ⟨⟨kl10, -⟩, ⟨kl11, -⟩, -⟩ : Lq l10 (((G15 2).ss 0).v) ∧ Lq l11 (((G15 2).ss 1).v) ∧ True := kn kw15 (by kernel_rfl)
  clear kw15
  have hz2 : (⟨#[47]⟩ : ByteArray).size = 1 := rfl
  refine nm (s ++ ⟨#[47]⟩ : ByteArray) fun t3 ht3 => ?_
  have ht3n : t3.size = s.size + (⟨#[47]⟩ : ByteArray).size := by rw [ht3, ByteArray.size_append]
  refine nm (t3 ++ t : ByteArray) fun t4 ht4 => ?_
  have ht4n : t4.size = t3.size + t.size := by rw [ht4, ByteArray.size_append]
  refine nm (Un.dv ((Un.read t4).1) 0 : Int) fun n47 hn47 => ?_
  refine nm (Un.dv ((Un.read t4).1) 1 : Int) fun n48 hn48 => ?_
  refine nm (Un.dv ((Un.read t4).1) 2 : Int) fun n49 hn49 => ?_
  refine nm (Un.dv ((Un.read t4).1) 3 : Int) fun n50 hn50 => ?_
  refine nm (Un.dv ((Un.read t4).1) 4 : Int) fun n51 hn51 => ?_
  refine nm (Un.dv ((Un.read t4).1) 5 : Int) fun n52 hn52 => ?_
  refine nm (Fr.rS (((Un.read t4).1).isSome = true) (Un.fv ((Un.read t4).1)) : Int) fun n53 hn53 => ?_
  refine nm (Fr.rD (((Un.read t4).1).isSome = true) (Un.fv ((Un.read t4).1)) : List Int) fun l12 hl12 => ?_
  have hl12n := congrArg List.length hl12
  refine nm (Fr.rT (((Un.read t4).1).isSome = true) : Int) fun n54 hn54 => ?_
  refine nm (Fr.rE (((Un.read t4).1).isSome = true) (Un.fv ((Un.read t4).1)) : List Int) fun l13 hl13 => ?_
  have hl13n := congrArg List.length hl13
  refine nm ((Un.read t4).2 : Int) fun n55 hn55 => ?_
  have hl16 : [n1 - n10, n2 - n11, n3 - n12, n4 - n13, n5 - n14, n6 - n15] = Un.subv da db := by rw [zA_0, zA_1, zA_2, zA_3, zA_4, zA_5, zB_0, zB_1, zB_2, zB_3, zB_4, zB_5]; rfl
  have ho16 : Un.read t4 = if Dm.Rt (Un.subv da db) then (some (Un.subv da db, ra / rb), 0) else (none, 3) := by rw [ht4, ht3]; exact Un.div_read hse hte hda hdb (by omega) htn (by have hqq := hlen1; omega)
  have hso16 := Un.same_op hPu hl16 ho16 (show (Fr.fq n7 l1 l2) / (Fr.fq n16 l3 l4) = ra / rb by rw [zA.v, zB.v])
  refine V.r [.k (tv s),.sad g0 s ⟨#[47]⟩ t3 ht3 (fun _ => by omega),.k (tv t),.sad g0 t3 t t4 ht4 (fun _ => by omega),.ct g0 4 13 false [] [] [] (fun _ G => uread_ctv t4 (by omega) n47 hn47 n48 hn48 n49 hn49 n50 hn50 n51 hn51 n52 hn52 n53 hn53 l12 hl12 n54 hn54 l13 hl13 n55 hn55),.v fun G => .tuple #[.agg #[iv n47, iv n48, iv n49, iv n50, iv n51, iv n52, iv n53, ((G 4).ss 0).v, iv n54, ((G 4).ss 1).v], iv n55],.v fun G => .agg #[iv n47, iv n48, iv n49, iv n50, iv n51, iv n52, iv n53, ((G 4).ss 0).v, iv n54, ((G 4).ss 1).v],.k (iv n55),.st 3 (fun G => .blk ((G11 8).b) #[iv n47, iv n48, iv n49, iv n50, iv n51, iv n52, iv n53, ((G 4).ss 0).v, iv n54, ((G 4).ss 1).v] 32),.k (iv n55)] fun _ _ G16 kw16 => ?_
  intro S_ s_
  obtain ⟨⟨kl12, -⟩, ⟨kl13, -⟩, -⟩ : Lq l12 (((G16 4).ss 0).v) ∧ Lq l13 (((G16 4).ss 1).v) ∧ True := kn kw16 (by kernel_rfl)
  clear kw16
  refine nm ((decide (n46 = n55)) && ((decide (n46 = 0)) || (decide (n46 = 3))) : Bool) fun p6 hp6 => ?_
  have hsa17 : (n38 = n47 ∧ n39 = n48 ∧ n40 = n49 ∧ n41 = n50 ∧ n42 = n51 ∧ n43 = n52) ∧ n44 = n53 ∧ l10 = l12 ∧ n45 = n54 ∧ l11 = l13 := by rw [hn38, hn39, hn40, hn41, hn42, hn43, hn44, hl10, hn45, hl11, hn47, hn48, hn49, hn50, hn51, hn52, hn53, hl12, hn54, hl13]; exact hso16.2
  have hge17 : n46 = n55 := by rw [hn46, hn55]; exact hso16.1.1
  have hg317 : n55 = 0 ∨ n55 = 3 := by rw [hn55]; exact hso16.1.2
  refine V.g [.kb true,.kb true,.k (iv n46),.k (iv n55),.k (bv (decide (n46 = n55))),.k (bv (decide (n46 = n55))),.k (bv (decide (n46 = n55))),.k (iv n46),.k (bv (decide (n46 = 0))),.k (bv (decide (n46 = 0))),.k (iv n46),.k (bv (decide (n46 = 3))),.or (gT (b := decide (n46 = n55)) iDT) false (decide (n46 = 0)) (decide (n46 = 3)),.andn g0 false (decide (n46 = n55)) ((decide (n46 = 0)) || (decide (n46 = 3))) p6 hp6,.k (bv p6),.ld 2 0 true (fun _ => [iv n38, iv n39, iv n40, iv n41, iv n42, iv n43, iv n44, ((G15 2).ss 0).v, iv n45, ((G15 2).ss 1).v]),.ld 3 0 true (fun _ => [iv n47, iv n48, iv n49, iv n50, iv n51, iv n52, iv n53, ((G16 4).ss 0).v, iv n54, ((G16 4).ss 1).v]),.cp (gT (b := p6) (iN hp6 (iAT iDT (iOT iDT iDT)))) 17 19 [(kf true (.f 9) l10 (fun _ => (G15 2).ss 0)).a, (kf true (.f 10) l11 (fun _ => (G15 2).ss 1)).a, (kf true (.f 11) l12 (fun _ => (G16 4).ss 0)).a, (kf true (.f 12) l13 (fun _ => (G16 4).ss 1)).a] (fun hg G => same9t_ct n38 n39 n40 n41 n42 n43 n44 l10 ((G15 2).ss 0) n45 l11 ((G15 2).ss 1) n47 n48 n49 n50 n51 n52 n53 l12 ((G16 4).ss 0) n54 l13 ((G16 4).ss 1) hsa17),.and g0 false p6 true,.k (bv (p6 && true))] fun _ _ G17 => ?_
  intro S_ s_
  have e0 : (p6 && true) = true := by
    refine (iAT (iN hp6 (iAT iDT (iOT iDT iDT))) iTT).2 ?_
    have h3 := hg317
    rw [← hge17] at h3
    first | exact ⟨⟨hge17, h3⟩, trivial⟩ | exact ⟨hge17, h3⟩
  exact V.ret [0] [] [] [] [] [] (bv (p6 && true)) (fun _ _ => by kernel_rfl) (fun _ _ => (Eq.trans (by kernel_rfl) (cong1 (fun (x0 : Bool) => (bv x0 : Value)) e0)).trans (by kernel_rfl)) (fun _ _ => trivial)
end Kb
