/- Texts for the claim, put together (part 6 of 7): contracts of the functions that the law reaches. -/
import Derived.Test.YtjcgaaalpcofhaaZyse
set_option linter.unusedVariables false
set_option linter.unusedSectionVars false
set_option linter.unusedSimpArgs false
namespace Kb
namespace Fr
open Bg
def fl (t : Int) (r : Rat) : Int := (r * (t : Rat)).floor
def re (t : Int) (r : Rat) : Rat := r * (t : Rat) - ((r * (t : Rat)).floor : Rat)
def sumI : List Int → Int
  | [] => 0
  | x :: l => x + sumI l
theorem sumI_app (l m : List Int) : sumI (l ++ m) = sumI l + sumI m := by
  induction l with
  | nil => simp [sumI]
  | cons x l ih => rw [List.cons_append, sumI, sumI, ih]; omega
theorem sumQ_cons (x : Rat) (l : List Rat) : sumQ (x :: l) = x + sumQ l := by
  have key : ∀ (l : List Rat) (a : Rat), l.foldl (· + ·) a = a + l.foldl (· + ·) 0 := fun l => by
    induction l with
    | nil => intro a; simp [Rat.add_zero]
    | cons y l ih =>
      intro a
      rw [List.foldl_cons, List.foldl_cons, ih (a + y), ih (0 + y)]
      generalize List.foldl (· + ·) (0 : Rat) l = s
      grind
  unfold sumQ
  rw [List.foldl_cons, key l (0 + x), Rat.zero_add]
def leftI (t : Int) (q : List Rat) : Int := t - sumI (q.map (fl t))
def bump (o : List Int) (l : List Int) : List Int := l.foldl (fun o i => o.set i.toNat (o.getD i.toNat default + 1)) o
def rndOk (t : Int) (l : List DFrac) : Prop := (0 ≤ t ∧ t ≤ 1099511627776) ∧ isSh l
instance (t : Int) (l : List DFrac) : Decidable (rndOk t l) := by unfold rndOk; infer_instance
def rndQ (t : Int) (q : List Rat) : List Int := bump (q.map (fl t)) ((ord (q.map (re t))).take (leftI t q).toNat)
def rndL (t : Int) (l : List DFrac) : List Int := if rndOk t l then rndQ t (l.map qv) else []
theorem rndL_y {t : Int} {l : List DFrac} (h : rndOk t l) : rndL t l = rndQ t (l.map qv) := if_pos h
theorem rndL_n {t : Int} {l : List DFrac} (h : ¬ rndOk t l) : rndL t l = [] := if_neg h
theorem fl_le (t : Int) (r : Rat) : ((fl t r : Int) : Rat) ≤ r * t := Rat.floor_le _
theorem lt_fl (t : Int) (r : Rat) : r * t < (fl t r : Rat) + 1 := by
  have := Rat.lt_floor_add_one (r * (t : Rat))
  rw [Rat.intCast_add] at this; exact this
theorem re_is (t : Int) (r : Rat) : re t r = r * t - (fl t r : Rat) := rfl
theorem re_rng (t : Int) (r : Rat) : 0 ≤ re t r ∧ re t r < 1 := by
  have h1 := fl_le t r; have h2 := lt_fl t r
  rw [re_is]
  generalize (fl t r : Rat) = f at *
  generalize r * (t : Rat) = x at *
  constructor <;> grind
theorem fl_rng {t : Int} {r : Rat} (h0 : 0 ≤ t) (h1 : 0 ≤ r) (h2 : r ≤ 1) : 0 ≤ fl t r ∧ fl t r ≤ t := by
  have ht : (0 : Rat) ≤ (t : Rat) := Rat.intCast_nonneg.2 h0
  constructor
  · have : (0 : Rat) ≤ r * t := Rat.mul_nonneg h1 ht
    unfold fl; exact Rat.le_floor_iff.2 (by simpa using this)
  · have h3 : r * t ≤ 1 * (t : Rat) := Rat.mul_le_mul_of_nonneg_right h2 ht
    rw [Rat.one_mul] at h3
    have h4 := Rat.le_trans (fl_le t r) h3
    exact Rat.intCast_le_intCast.1 h4
theorem mem_le_sumQ {x : Rat} : ∀ {l : List Rat}, (∀ y ∈ l, 0 ≤ y) → x ∈ l → x ≤ sumQ l ∧ 0 ≤ sumQ l
  | y :: l, h, hx => by
    rw [sumQ_cons]
    have hy := h y List.mem_cons_self
    have hl : ∀ z ∈ l, 0 ≤ z := fun z hz => h z (List.mem_cons_of_mem _ hz)
    rcases List.mem_cons.1 hx with rfl | hx
    · have hs : 0 ≤ sumQ l := by
        cases l with
        | nil => exact (Rat.le_refl : (0 : Rat) ≤ 0)
        | cons z l => exact (mem_le_sumQ (x := z) hl List.mem_cons_self).2
      constructor <;> grind
    · have := mem_le_sumQ hl hx
      constructor <;> grind
theorem isSh.one {l : List DFrac} (h : isSh l) {x : DFrac} (hx : x ∈ l) : 0 ≤ qv x ∧ qv x ≤ 1 := by
  refine ⟨h.2.1 x hx, ?_⟩
  rw [← h.2.2]
  exact (mem_le_sumQ (l := l.map qv) (fun y hy => by obtain ⟨z, hz, rfl⟩ := List.mem_map.1 hy; exact h.2.1 z hz) (List.mem_map_of_mem hx)).1
theorem sum_fl (t : Int) : ∀ q : List Rat, (sumI (q.map (fl t)) : Rat) ≤ sumQ q * t ∧ sumQ q * t ≤ (sumI (q.map (fl t)) : Rat) + (q.length : Rat) ∧ (sumI (q.map (fl t)) : Rat) + sumQ (q.map (re t)) = sumQ q * t
  | [] => by
    have e : sumQ [] = 0 := rfl
    have e2 : sumI [] = 0 := rfl
    simp only [List.map_nil, e, e2, List.length_nil, Rat.zero_mul]
    exact ⟨by decide, by simp [Rat.add_zero], by simp [Rat.add_zero]⟩
  | x :: q => by
    obtain ⟨h1, h2, h3⟩ := sum_fl t q
    have a1 := fl_le t x; have a2 := lt_fl t x
    have e := re_is t x
    simp only [List.map_cons, sumQ_cons, sumI, List.length_cons, Rat.intCast_add, Rat.natCast_add]
    generalize (sumI (q.map (fl t)) : Rat) = S at *
    generalize sumQ (q.map (re t)) = R at *
    generalize re t x = y at *
    generalize (fl t x : Rat) = f at *
    generalize (q.length : Rat) = n at *
    have d : (x + sumQ q) * (t : Rat) = x * t + sumQ q * t := Rat.add_mul _ _ _
    rw [d]
    generalize x * (t : Rat) = xt at *
    generalize sumQ q * (t : Rat) = qt at *
    refine ⟨by grind, ?_, by grind⟩
    have e1 : ((1 : Nat) : Rat) = 1 := rfl
    rw [e1]; grind
theorem left_rng {t : Int} {q : List Rat} (hs : sumQ q = 1) : 0 ≤ leftI t q ∧ leftI t q ≤ q.length ∧ ((leftI t q : Int) : Rat) = sumQ (q.map (re t)) := by
  obtain ⟨h1, h2, h3⟩ := sum_fl t q
  rw [hs, Rat.one_mul] at h1 h2 h3
  unfold leftI
  refine ⟨?_, ?_, ?_⟩
  · have := Rat.intCast_le_intCast.1 h1; omega
  · rw [← Rat.intCast_natCast, ← Rat.intCast_add] at h2
    have := Rat.intCast_le_intCast.1 h2; omega
  · rw [Rat.intCast_sub]; generalize (sumI (q.map (fl t)) : Rat) = S at *; generalize sumQ (q.map (re t)) = R at *; grind
-- ---- the loop
structure RI (t : Int) (l : List DFrac) (out : List Int) (rests : List DFrac) (order : List Int) (left : Int) (k : Nat) : Prop where
  ol : out.length = l.length
  rl : rests.length = l.length
  o : out.take k = (l.take k).map fun x => fl t (qv x)
  r : ∀ x ∈ rests.take k, rt x ∧ ln 2000000 x
  rq : (rests.take k).map qv = (l.take k).map fun x => re t (qv x)
  od : order = iota k
  lf : left = t - sumI ((l.take k).map fun x => fl t (qv x))
  lr : t - k * 1099511627776 ≤ left ∧ left ≤ t
theorem take_set {α : Type} {l : List α} {k : Nat} {v : α} (h : k < l.length) : (l.set k v).take (k + 1) = l.take k ++ [v] := by
  rw [List.take_add_one, List.take_set_of_le (Nat.le_refl _), List.getElem?_set_self h]; rfl
theorem RI.step {t left v : Int} {l rests : List DFrac} {out order : List Int} {k : Nat} {x y : DFrac} (h : RI t l out rests order left k) (hk : k < l.length) (hx : x = l.getD k default) (hv : v = fl t (qv x)) (hy : rt y) (hy2 : ln 2000000 y) (hy3 : qv y = re t (qv x)) (hr : 0 ≤ v ∧ v ≤ 1099511627776) :
    RI t l (out.set k v) (rests.set k y) (order ++ [(k : Int)]) (left - v) (k + 1) := by
  have e := take_step (l := l) hk
  rw [← hx] at e
  have h1 := h.ol; have h2 := h.rl
  refine ⟨by rw [List.length_set]; exact h1, by rw [List.length_set]; exact h2, ?_, ?_, ?_, ?_, ?_, ?_⟩
  · rw [take_set (by omega), e, List.map_append, h.o, hv]; rfl
  · rw [take_set (by omega)]
    intro z hz
    rcases List.mem_append.1 hz with hz | hz
    · exact h.r z hz
    · rw [List.mem_singleton.1 hz]; exact ⟨hy, hy2⟩
  · rw [take_set (by omega), e, List.map_append, List.map_append, h.rq, List.map_singleton, hy3]; rfl
  · rw [h.od, iota_succ]
  · rw [e, List.map_append, sumI_app, h.lf, hv]
    simp only [List.map_cons, List.map_nil, sumI]; omega
  · have := h.lr
    rw [show ((k + 1 : Nat) : Int) = k + 1 by omega]; omega
theorem RI.start (t : Int) (l : List DFrac) (ht : 0 ≤ t ∧ t ≤ 1099511627776) : RI t l (List.replicate l.length 0) (List.replicate l.length default) [] t 0 :=
  ⟨by simp, by simp, by simp, by simp, by simp, rfl, by simp [sumI], by omega⟩
structure RE (t : Int) (l : List DFrac) (out : List Int) (rests : List DFrac) (order : List Int) (left : Int) : Prop where
  o : out = (l.map qv).map (fl t)
  r : ∀ x ∈ rests, rt x ∧ ln 2000000 x
  rq : rests.map qv = (l.map qv).map (re t)
  od : order = iota (rests.map qv).length
  lf : left = leftI t (l.map qv)
theorem RI.end {t left : Int} {l rests : List DFrac} {out order : List Int} {k : Nat} (h : RI t l out rests order left k) (hk : k = l.length) : RE t l out rests order left := by
  subst hk
  have h1 := h.o; have h2 := h.r; have h3 := h.rq; have h4 := h.lf
  rw [List.take_of_length_le (by rw [h.ol]; exact Nat.le_refl _), List.take_length] at h1
  rw [List.take_of_length_le (by rw [h.rl]; exact Nat.le_refl _)] at h2 h3
  rw [List.take_length] at h3 h4
  refine ⟨by rw [h1, List.map_map]; rfl, h2, by rw [h3, List.map_map]; rfl, by rw [h.od, List.length_map, h.rl], by rw [h4]; unfold leftI; rw [List.map_map]; rfl⟩
-- ---- handing out
theorem bump_snoc (o l : List Int) (i : Int) : bump o (l ++ [i]) = (bump o l).set i.toNat ((bump o l).getD i.toNat default + 1) := by unfold bump; rw [List.foldl_append]; rfl
theorem bump_len (o : List Int) : ∀ l : List Int, (bump o l).length = o.length := fun l => by
  induction l generalizing o with
  | nil => rfl
  | cons i l ih => show (bump _ l).length = _; rw [ih, List.length_set]
theorem getD_set' {l : List Int} {i j : Nat} {x : Int} (h : i < l.length) : (l.set i x).getD j default = if j = i then x else l.getD j default := Bg.getD_set h
/-- each index once -/
theorem bump_get : ∀ {l : List Int} {o : List Int} {j : Nat}, l.Nodup → (∀ i ∈ l, 0 ≤ i ∧ i < o.length) → (bump o l).getD j default = o.getD j default + if (j : Int) ∈ l then 1 else 0
  | [], o, j, _, _ => by simp [bump]
  | i :: l, o, j, hn, hi => by
    have hn' := List.nodup_cons.1 hn
    have hi' := hi i List.mem_cons_self
    show (bump _ l).getD j default = _
    rw [bump_get (l := l) hn'.2 fun z hz => by rw [List.length_set]; exact hi z (List.mem_cons_of_mem _ hz), getD_set' (by omega)]
    by_cases e : (j : Int) = i
    · have : j = i.toNat := by omega
      rw [if_pos this, if_neg (by rw [e]; exact hn'.1), if_pos (by rw [e]; exact List.mem_cons_self), this]; omega
    · rw [if_neg (by omega)]
      have : ((j : Int) ∈ i :: l) ↔ (j : Int) ∈ l := by rw [List.mem_cons]; exact ⟨fun h => h.resolve_left e, .inr⟩
      by_cases h : (j : Int) ∈ l
      · rw [if_pos h, if_pos (this.2 h)]
      · rw [if_neg h, if_neg fun k => h (this.1 k)]
theorem sumI_set : ∀ {l : List Int} {i : Nat} {x : Int}, i < l.length → sumI (l.set i x) = sumI l - l.getD i default + x
  | y :: l, 0, x, _ => by simp [sumI]; omega
  | y :: l, i + 1, x, h => by
    rw [List.set_cons_succ, sumI, sumI, sumI_set (by simpa using h), List.getD_cons_succ]; omega
theorem bump_sum : ∀ {l : List Int} {o : List Int}, (∀ i ∈ l, 0 ≤ i ∧ i < o.length) → sumI (bump o l) = sumI o + l.length
  | [], o, _ => by simp [bump]
  | i :: l, o, hi => by
    have hi' := hi i List.mem_cons_self
    show sumI (bump _ l) = _
    rw [bump_sum (l := l) fun z hz => by rw [List.length_set]; exact hi z (List.mem_cons_of_mem _ hz), sumI_set (by omega), List.length_cons]; omega
theorem bump_rng {o : List Int} {l : List Int} {b : Int} (h : ∀ x ∈ o, 0 ≤ x ∧ x ≤ b) (hi : ∀ i ∈ l, 0 ≤ i ∧ i < o.length) : ∀ x ∈ bump o l, 0 ≤ x ∧ x ≤ b + l.length := by
  induction l generalizing o b with
  | nil => simpa [bump] using h
  | cons i l ih =>
    intro x hx
    have hx : x ∈ bump (o.set i.toNat (o.getD i.toNat default + 1)) l := hx
    have := ih (o := o.set i.toNat (o.getD i.toNat default + 1)) (b := b + 1) (fun y hy => by
      rcases List.mem_or_eq_of_mem_set hy with hy | hy
      · have := h y hy; omega
      · have hi' := hi i List.mem_cons_self
        have := h _ (getD_mem (l := o) (k := i.toNat) (by omega) rfl)
        omega) (fun j hj => by rw [List.length_set]; exact hi j (List.mem_cons_of_mem _ hj)) x hx
    rw [List.length_cons]; omega
-- ---- what the numbers are
section
variable {t : Int} {q : List Rat}
theorem rnd_len : (rndQ t q).length = q.length := by unfold rndQ; rw [bump_len, List.length_map]
theorem ord_take_mem {n : Nat} : ∀ i ∈ (ord (q.map (re t))).take n, 0 ≤ i ∧ i < (q.map (fl t)).length := fun i hi => by
  have := ord_mem.1 (List.mem_of_mem_take hi)
  simpa using this
theorem rnd_sum (hs : sumQ q = 1) : sumI (rndQ t q) = t := by
  obtain ⟨h1, h2, _⟩ := left_rng (t := t) hs
  unfold rndQ
  rw [bump_sum ord_take_mem, List.length_take, ord_len, List.length_map]
  unfold leftI at *
  omega
def isUp (t : Int) (q : List Rat) (j : Nat) : Prop := (j : Int) ∈ (ord (q.map (re t))).take (leftI t q).toNat
instance (t : Int) (q : List Rat) (j : Nat) : Decidable (isUp t q j) := by unfold isUp; infer_instance
theorem getD_map0 {α : Type} (f : Rat → α) (d : α) {j : Nat} (h : j < q.length) : (q.map f).getD j d = f (q.getD j 0) := by
  rw [List.getD_eq_getElem?_getD, List.getD_eq_getElem?_getD, List.getElem?_map, List.getElem?_eq_getElem h]; rfl
theorem rnd_get {j : Nat} (h : j < q.length) : (rndQ t q).getD j default = fl t (q.getD j 0) + if isUp t q j then 1 else 0 := by
  unfold rndQ
  rw [bump_get ((ord_nd _).sublist (List.take_sublist _ _)) ord_take_mem, getD_map0 (fl t) default h]; rfl
/-- ahead of one that gets more, all get more -/
theorem up_of {i j : Nat} (hi : i < q.length) (hj : j < q.length) (h : isUp t q j) (hb : ltR (q.map (re t)) i j) : isUp t q i := by
  unfold isUp at *
  have hm : (i : Int) ∈ ord (q.map (re t)) := ord_mem.2 ⟨by omega, by simpa using (by omega : (i : Int) < q.length)⟩
  have e := List.take_append_drop (leftI t q).toNat (ord (q.map (re t)))
  rw [← e] at hm
  rcases List.mem_append.1 hm with hm | hm
  · exact hm
  · have hp := ord_pw (q.map (re t))
    rw [← e] at hp
    exact (ltR_asymm hb ((List.pairwise_append.1 hp).2.2 _ h _ hm)).elim
theorem sum_pos_le : ∀ {l : List Rat}, (∀ x ∈ l, 0 ≤ x ∧ x < 1) → sumQ l ≤ (l.length : Rat) ∧ (l ≠ [] → sumQ l < (l.length : Rat))
  | [], _ => ⟨Rat.le_refl, fun h => (h rfl).elim⟩
  | x :: l, h => by
    have h1 := (sum_pos_le (l := l) fun y hy => h y (List.mem_cons_of_mem _ hy)).1
    have h2 := h x List.mem_cons_self
    have e1 : ((1 : Nat) : Rat) = 1 := rfl
    rw [sumQ_cons, List.length_cons, Rat.natCast_add, e1]
    constructor
    · grind
    · intro _; grind
theorem sumQ_perm {l m : List Rat} (h : l.Perm m) : sumQ l = sumQ m := by
  induction h with
  | nil => rfl
  | cons x _ ih => rw [sumQ_cons, sumQ_cons, ih]
  | swap x y l => rw [sumQ_cons, sumQ_cons, sumQ_cons, sumQ_cons]; grind
  | trans _ _ a b => exact a.trans b
theorem sumQ_app (l m : List Rat) : sumQ (l ++ m) = sumQ l + sumQ m := by
  induction l with
  | nil => show sumQ m = 0 + sumQ m; rw [Rat.zero_add]
  | cons x l ih => rw [List.cons_append, sumQ_cons, sumQ_cons, ih]; grind
theorem sumQ_zero : ∀ {l : List Rat}, (∀ x ∈ l, x = 0) → sumQ l = 0
  | [], _ => rfl
  | x :: l, h => by rw [sumQ_cons, sumQ_zero (l := l) fun y hy => h y (List.mem_cons_of_mem _ hy), h x List.mem_cons_self]; exact Rat.add_zero 0
theorem iota_get_map (r : List Rat) : (iota r.length).map (fun i => r.getD i.toNat 0) = r := by
  refine List.ext_getElem? fun k => ?_
  unfold iota
  rw [List.getElem?_map, List.getElem?_map]
  by_cases h : k < r.length
  · rw [List.getElem?_range h, List.getElem?_eq_getElem h]
    simp [List.getD_eq_getElem?_getD, h]
  · rw [List.getElem?_eq_none (by simpa using h), List.getElem?_eq_none (by omega)]; rfl
/-- one that gets more has a rest -/
theorem up_pos {j : Nat} (hs : sumQ q = 1) (hj : j < q.length) (h : isUp t q j) : 0 < re t (q.getD j 0) := by
  refine Rat.not_le.1 fun hle => ?_
  have h0 : re t (q.getD j 0) = 0 := Rat.le_antisymm hle (re_rng _ _).1
  generalize hr : q.map (re t) = r at *
  have hrr : ∀ x ∈ r, 0 ≤ x ∧ x < 1 := fun x hx => by rw [← hr] at hx; obtain ⟨y, _, rfl⟩ := List.mem_map.1 hx; exact re_rng _ _
  have hjr : r.getD j 0 = 0 := by rw [← hr, getD_map0 (re t) 0 hj, h0]
  have hl := (left_rng (t := t) hs).2.2
  rw [hr] at hl
  have h1 := (left_rng (t := t) hs).1
  unfold isUp at h
  rw [hr] at h
  obtain ⟨A, B, e⟩ := List.append_of_mem h
  have hA : A.length + 1 ≤ (leftI t q).toNat := by
    have := congrArg List.length e
    rw [List.length_take, List.length_append, List.length_cons] at this; omega
  have hp := ord_pw r
  have e2 := List.take_append_drop (leftI t q).toNat (ord r)
  rw [e] at e2
  generalize (ord r).drop (leftI t q).toNat = C at *
  rw [← e2] at hp
  have hm : ∀ i ∈ ord r, 0 ≤ r.getD i.toNat 0 ∧ r.getD i.toNat 0 < 1 := fun i hi => by
    have := ord_mem.1 hi
    exact hrr _ (getD_mem (α := Rat) (l := r) (k := i.toNat) (by omega) rfl)
  have hz : ∀ i ∈ B ++ C, r.getD i.toNat 0 = 0 := fun i hi => by
    have hi2 : i ∈ ord r := by rw [← e2]; simp at hi ⊢; rcases hi with h | h <;> simp [h]
    have h3 : ltR r j i := by
      rw [List.append_assoc] at hp
      exact (List.pairwise_cons.1 (List.pairwise_append.1 hp).2.1).1 i hi
    have h4 := hm i hi2
    unfold ltR at h3
    rw [Int.toNat_natCast, hjr] at h3
    rcases h3 with h3 | h3
    · exact (Rat.not_lt.2 h4.1 h3).elim
    · exact h3.1
  have hsum : sumQ r = sumQ (A.map fun i => r.getD i.toNat 0) := by
    have h5 := sumQ_perm ((ord_perm r).map (fun i => r.getD i.toNat 0))
    rw [iota_get_map] at h5
    rw [← h5, ← e2, List.append_assoc, List.map_append, sumQ_app]
    have : sumQ ((((j : Int) :: B) ++ C).map fun i => r.getD i.toNat 0) = 0 := sumQ_zero fun x hx => by
      obtain ⟨i, hi, rfl⟩ := List.mem_map.1 hx
      rw [List.cons_append] at hi
      rcases List.mem_cons.1 hi with rfl | hi
      · rw [Int.toNat_natCast]; exact hjr
      · exact hz i hi
    rw [this, Rat.add_zero]
  have hA2 := (sum_pos_le (l := A.map fun i => r.getD i.toNat 0) fun x hx => by
    obtain ⟨i, hi, rfl⟩ := List.mem_map.1 hx
    exact hm i (by rw [← e2]; simp [hi])).1
  rw [← hsum, ← hl, List.length_map, ← Rat.intCast_natCast] at hA2
  have := Rat.intCast_le_intCast.1 hA2
  omega
theorem rnd_near {j : Nat} (hs : sumQ q = 1) (hj : j < q.length) : (((rndQ t q).getD j default - 1 : Int) : Rat) < q.getD j 0 * t ∧ q.getD j 0 * t < (((rndQ t q).getD j default + 1 : Int) : Rat) := by
  have h1 := fl_le t (q.getD j 0); have h2 := lt_fl t (q.getD j 0)
  rw [rnd_get hj]
  by_cases h : isUp t q j
  · rw [if_pos h]
    have h3 := up_pos hs hj h
    rw [re_is] at h3
    rw [show fl t (q.getD j 0) + 1 - 1 = fl t (q.getD j 0) by omega, Rat.intCast_add, Rat.intCast_add]
    generalize (fl t (q.getD j 0) : Rat) = f at *
    generalize q.getD j 0 * (t : Rat) = x at *
    have e1 : ((1 : Int) : Rat) = 1 := rfl
    rw [e1]
    constructor <;> grind
  · rw [if_neg h, Int.add_zero, Rat.intCast_sub, Rat.intCast_add]
    generalize (fl t (q.getD j 0) : Rat) = f at *
    generalize q.getD j 0 * (t : Rat) = x at *
    have e1 : ((1 : Int) : Rat) = 1 := rfl
    rw [e1]
    constructor <;> grind
theorem fl_mono {a b : Rat} (ht : 0 ≤ t) (h : a ≤ b) : fl t a ≤ fl t b := Rat.floor_monotone (Rat.mul_le_mul_of_nonneg_right h (Rat.intCast_nonneg.2 ht))
theorem rnd_fair {i k : Nat} (ht : 0 ≤ t) (hi : i < q.length) (hk : k < q.length) :
    (q.getD k 0 < q.getD i 0 → (rndQ t q).getD k default ≤ (rndQ t q).getD i default) ∧
    (q.getD i 0 = q.getD k 0 → (rndQ t q).getD i default - (rndQ t q).getD k default ≤ 1 ∧ (i < k → (rndQ t q).getD k default ≤ (rndQ t q).getD i default)) := by
  rw [rnd_get hi, rnd_get hk]
  have key : ∀ j : Nat, (0 : Int) ≤ (if isUp t q j then 1 else 0) ∧ (if isUp t q j then 1 else 0 : Int) ≤ 1 := fun j => by split <;> omega
  have ki := key i; have kk := key k
  have imp : (isUp t q k → isUp t q i) → (if isUp t q k then 1 else 0 : Int) ≤ (if isUp t q i then 1 else 0) := fun h => by
    by_cases a : isUp t q k
    · rw [if_pos a, if_pos (h a)]; omega
    · rw [if_neg a]; exact ki.1
  refine ⟨fun h => ?_, fun h => ⟨?_, fun hik => ?_⟩⟩
  · have h1 := fl_mono (t := t) ht (Rat.le_of_lt h)
    rcases Int.lt_or_eq_of_le h1 with h2 | h2
    · omega
    · have h5 : (q.map (re t)).getD k 0 ≤ (q.map (re t)).getD i 0 := by
        rw [getD_map0 (re t) 0 hk, getD_map0 (re t) 0 hi, re_is, re_is, h2]
        have h4 := Rat.mul_le_mul_of_nonneg_right (Rat.le_of_lt h) (Rat.intCast_nonneg.2 ht)
        generalize (fl t (q.getD i 0) : Rat) = f at *
        generalize q.getD i 0 * (t : Rat) = x at *
        generalize q.getD k 0 * (t : Rat) = y at *
        grind
      by_cases ht0 : t = 0
      · have hu : ∀ j, ¬ isUp t q j := fun j hj => by
          unfold isUp at hj
          have hz : sumI (q.map (fl t)) = 0 := by
            have : q.map (fl t) = List.replicate q.length 0 := List.map_eq_replicate_iff.2 fun r _ => by unfold fl; rw [ht0]; simp; rfl
            rw [this]
            have key : ∀ n, sumI (List.replicate n 0) = 0 := fun n => by induction n with
              | zero => rfl
              | succ n ih => rw [List.replicate_succ, sumI, ih]; rfl
            exact key _
          unfold leftI at hj; rw [hz, ht0] at hj; simp at hj
        rw [if_neg (hu i), if_neg (hu k)]; omega
      · have h6 : (q.map (re t)).getD k 0 < (q.map (re t)).getD i 0 := by
          rw [getD_map0 (re t) 0 hk, getD_map0 (re t) 0 hi, re_is, re_is, h2]
          have h4 := Rat.mul_lt_mul_of_pos_right h (Rat.intCast_pos.2 (show 0 < t by omega))
          generalize (fl t (q.getD i 0) : Rat) = f at *
          generalize q.getD i 0 * (t : Rat) = x at *
          generalize q.getD k 0 * (t : Rat) = y at *
          grind
        have := imp fun a => up_of hi hk a (.inl (by rw [Int.toNat_natCast, Int.toNat_natCast]; exact h6))
        omega
  · rw [h]; omega
  · have := imp fun a => up_of hi hk a (.inr ⟨by rw [Int.toNat_natCast, Int.toNat_natCast, getD_map0 (re t) 0 hk, getD_map0 (re t) 0 hi, h], by omega⟩)
    rw [h]; omega
theorem rnd_nonneg {j : Nat} (ht : 0 ≤ t) (hj : j < q.length) (hq : 0 ≤ q.getD j 0) : 0 ≤ (rndQ t q).getD j default := by
  rw [rnd_get hj]
  have : 0 ≤ fl t (q.getD j 0) := Rat.le_floor_iff.2 (by simpa using Rat.mul_nonneg hq (Rat.intCast_nonneg.2 ht))
  split <;> omega
end
theorem getD_qv {rs : List DFrac} {k : Nat} (h : k < rs.length) : (rs.map qv).getD k 0 = qv (rs.getD k default) := by
  rw [List.getD_eq_getElem?_getD, List.getD_eq_getElem?_getD, List.getElem?_map, List.getElem?_eq_getElem h]; rfl
theorem cmpQ_neg {a b : Rat} : cmpQ a b < 0 ↔ a < b := by
  unfold cmpQ
  by_cases h : a < b
  · rw [if_pos h]; exact ⟨fun _ => h, fun _ => by omega⟩
  · rw [if_neg h]
    refine ⟨fun k => ?_, fun k => (h k).elim⟩
    split at k <;> omega
theorem cmp_ltR {rs : List DFrac} {d : List Int} {i j : Nat} (h : InsJ (rs.map qv) d i j) (hj : 0 < j) (hi : i < rs.length) {va vb n : Int} (ha : va = d.getD j default) (hb : vb = d.getD (j - 1) default)
    (hn : n = cmpQ (qv (rs.getD vb.toNat default)) (qv (rs.getD va.toNat default))) : n < 0 ↔ ltR (rs.map qv) (d.getD j default) (d.getD (j - 1) default) := by
  obtain ⟨h1, h2, h3⟩ := insJ_at h hj
  rw [hn, cmpQ_neg, ← ha, ← hb]
  rw [← hb] at h2 h3; rw [← ha] at h1
  unfold ltR
  rw [getD_qv (by omega), getD_qv (by omega)]
  refine ⟨.inl, fun k => ?_⟩
  rcases k with k | ⟨_, k⟩
  · exact k
  · omega
theorem ins_stop {rs : List DFrac} {d : List Int} {i j : Nat} (h : InsJ (rs.map qv) d i j) (hi : i < rs.length) {va vb n : Int} (ha : va = d.getD j default) (hb : vb = d.getD (j - 1) default)
    (hn : n = cmpQ (qv (rs.getD vb.toNat default)) (qv (rs.getD va.toNat default))) (hs : j = 0 ∨ ¬ n < 0) : InsI (rs.map qv) d (i + 1) := by
  refine ins_out h (by simpa using hi) ?_
  rcases Nat.eq_zero_or_pos j with e | e
  · exact .inl e
  · rcases hs with hs | hs
    · omega
    · exact .inr fun k => hs ((cmp_ltR h e hi ha hb hn).2 k)
end Fr
end Kb
set_option linter.unusedVariables false
set_option linter.unusedSectionVars false
set_option linter.unusedSimpArgs false
namespace Kb
open Go Go.Proofs
set_option maxRecDepth 10000 in
theorem clo_ct (a b : Int) (rsb : Nat) (rs : List DFrac) (rss : SV) (hV : ∀ x ∈ rs, Fr.rt x ∧ Fr.ln 2000000 x) (ha : 0 ≤ a ∧ a < (rs.length : Int)) (hb : 0 ≤ b ∧ b < (rs.length : Int)) :
    Cp Try.prog 48 #[iv a, iv b, pp rsb 0] [fs true ([⟨rs, rss⟩] : List (Fat DFrac)) ⟨atB rsb, 1, 1⟩] (iv (Fr.cmpQ (Fr.qv (rs.getD b.toNat default)) (Fr.qv (rs.getD a.toNat default)))) := by
  refine V.fn mo Try.func48 15 0 (by kernel_rfl) fun w H ε k0 => ?_
  obtain ⟨⟨kl1, -⟩, -⟩ : Lq ([⟨rs, rss⟩] : List (Fat DFrac)) (SV.v ⟨atB rsb, 1, 1⟩) ∧ True := kn k0 (by kernel_rfl)
  clear k0
  refine V.go [.k (iv 0)] (fun _ _ => by kernel_rfl) fun _ _ G1 => ?_
  intro S1 t1
  refine nm (rs.getD b.toNat default : DFrac) fun x1 hx1 => ?_
  refine nm (rs.getD a.toNat default : DFrac) fun x2 hx2 => ?_
  refine nm (if Fr.FrB x1.P.Sign x1.P.Digits.l x1.Q.Sign x1.Q.Digits.l ∧ Fr.FrB x2.P.Sign x2.P.Digits.l x2.Q.Sign x2.Q.Digits.l then Fr.cmpQ (Fr.fq x1.P.Sign x1.P.Digits.l x1.Q.Digits.l) (Fr.fq x2.P.Sign x2.P.Digits.l x2.Q.Digits.l) else 0 : Int) fun n1 hn1 => ?_
  have hx1m := hV _ (getD_mem (by omega) hx1); have hx11 := hx1m.2.1; have hx12 := hx1m.2.2
  have hx2m := hV _ (getD_mem (by omega) hx2); have hx21 := hx2m.2.1; have hx22 := hx2m.2.2
  refine V.reg [.le g0 (kf false (.f 0) ([⟨rs, rss⟩] : List (Fat DFrac)) (fun _ => ⟨atB rsb, 1, 1⟩)) (0 : Int) none true (⟨rs, rss⟩ : Fat DFrac) rfl (fun _ => ⟨Int.le_refl 0, Int.zero_lt_one⟩) false (fun _ => Dat.cells (⟨rs, rss⟩ : Fat DFrac)),
    .k (iv b),
    .ix g0 (kx false (.g 0 0) (⟨rs, rss⟩ : Fat DFrac) rs (fun _ => rss) (fun _ _ h => h)) b (fun _ => ⟨by omega, by omega⟩),
    .le g0 (kx false (.g 0 0) (⟨rs, rss⟩ : Fat DFrac) rs (fun _ => rss) (fun _ _ h => h)) b none true x1 hx1 (fun _ => ⟨by omega, by omega⟩) true (fun _ => Dat.cells x1),
    .le g0 (kf false (.f 0) ([⟨rs, rss⟩] : List (Fat DFrac)) (fun _ => ⟨atB rsb, 1, 1⟩)) (0 : Int) none true (⟨rs, rss⟩ : Fat DFrac) rfl (fun _ => ⟨Int.le_refl 0, Int.zero_lt_one⟩) false (fun _ => Dat.cells (⟨rs, rss⟩ : Fat DFrac)),
    .k (iv a),
    .ix g0 (kx false (.g 4 0) (⟨rs, rss⟩ : Fat DFrac) rs (fun _ => rss) (fun _ _ h => h)) a (fun _ => ⟨by omega, by omega⟩),
    .le g0 (kx false (.g 4 0) (⟨rs, rss⟩ : Fat DFrac) rs (fun _ => rss) (fun _ _ h => h)) a none true x2 hx2 (fun _ => ⟨by omega, by omega⟩) true (fun _ => Dat.cells x2),
    .cp g0 8 49 [(kx false (.g 3 0) x1 x1.P.Digits.l (fun _ => x1.P.Digits.s) (fun _ H (h : Dat.good H (x1 : DFrac)) => h.1)).a, (kx false (.g 3 0) x1 x1.Q.Digits.l (fun _ => x1.Q.Digits.s) (fun _ H (h : Dat.good H (x1 : DFrac)) => h.2)).a, (kx false (.g 7 0) x2 x2.P.Digits.l (fun _ => x2.P.Digits.s) (fun _ H (h : Dat.good H (x2 : DFrac)) => h.1)).a, (kx false (.g 7 0) x2 x2.Q.Digits.l (fun _ => x2.Q.Digits.s) (fun _ H (h : Dat.good H (x2 : DFrac)) => h.2)).a] (fun _ G => fcmp_ctv x1.P.Sign x1.P.Digits.l x1.P.Digits.s x1.Q.Sign x1.Q.Digits.l x1.Q.Digits.s x2.P.Sign x2.P.Digits.l x2.P.Digits.s x2.Q.Sign x2.Q.Digits.l x2.Q.Digits.s (by omega) (by omega) (by omega) (by omega) n1 hn1),
    .k (iv n1)] (fun _ _ => by kernel_rfl) fun _ _ G2 kw2 => ?_
  intro S2 t2
  obtain ⟨⟨kl2, -⟩, ⟨⟨kl3, -⟩, ⟨kl4, -⟩⟩, ⟨kl5, -⟩, ⟨⟨kl6, -⟩, ⟨kl7, -⟩⟩, -⟩ : Lq (⟨rs, rss⟩ : Fat DFrac).l (⟨rs, rss⟩ : Fat DFrac).s.v ∧ (Lq x1.P.Digits.l x1.P.Digits.s.v ∧ Lq x1.Q.Digits.l x1.Q.Digits.s.v) ∧ Lq (⟨rs, rss⟩ : Fat DFrac).l (⟨rs, rss⟩ : Fat DFrac).s.v ∧ (Lq x2.P.Digits.l x2.P.Digits.s.v ∧ Lq x2.Q.Digits.l x2.Q.Digits.s.v) ∧ True := kn kw2 (by kernel_rfl)
  clear kw2
  have e0 : n1 = Fr.cmpQ (Fr.qv (rs.getD b.toNat default)) (Fr.qv (rs.getD a.toNat default)) := by
    rw [hn1, if_pos ⟨hx1m.1, hx2m.1⟩, ← hx1, ← hx2]; rfl
  exact V.ret [0] [] [] [] [] [] (iv n1) (fun _ _ => by kernel_rfl) (fun _ _ => (Eq.trans (by kernel_rfl) (cong1 (fun (x0 : Int) => (iv x0 : Value)) e0)).trans (by kernel_rfl)) (fun _ _ => trivial)
theorem clo_ctv (a b : Int) (rsb : Nat) (rs : List DFrac) (rss : SV) (hV : ∀ x ∈ rs, Fr.rt x ∧ Fr.ln 2000000 x) (ha : 0 ≤ a ∧ a < (rs.length : Int)) (hb : 0 ≤ b ∧ b < (rs.length : Int)) (rv0 : Int) (erv0 : rv0 = Fr.cmpQ (Fr.qv (rs.getD b.toNat default)) (Fr.qv (rs.getD a.toNat default))) :
    Cp Try.prog 48 #[iv a, iv b, pp rsb 0] [fs true ([⟨rs, rss⟩] : List (Fat DFrac)) ⟨atB rsb, 1, 1⟩] (iv rv0) := by
  subst erv0; exact clo_ct a b rsb rs rss hV ha hb

set_option maxRecDepth 10000 in
theorem ins_ct (data : List Int) (datas : SV) (a b : Int) (rsb : Nat) (rs : List DFrac) (rss : SV) (hV : ∀ x ∈ rs, Fr.rt x ∧ Fr.ln 2000000 x) (hl : data.length = rs.length) (hD : (a = 0 ∧ b = (data.length : Int) ∧ data = Fr.iota data.length) ∨ (a = b ∧ a = (data.length : Int) ∧ data = Fr.ord (rs.map Fr.qv))) (hr : rs.length < 1000) :
    Ct Try.prog 102 #[datas.v, iv a, iv b, .func (.func 48) #[] #[pp rsb 0]] [fs true ([⟨rs, rss⟩] : List (Fat DFrac)) ⟨atB rsb, 1, 1⟩] [os false 3 data datas] (fun g => .tuple #[]) (fun g => []) (fun g => [os true 3 (Fr.ord (rs.map Fr.qv)) datas]) (fun g => []) := by
  refine V.fn mo Try.func102 53 0 (by kernel_rfl) fun w H ε k0 => ?_
  obtain ⟨⟨kl1, -⟩, ⟨kl2, -⟩, -⟩ : Lq ([⟨rs, rss⟩] : List (Fat DFrac)) (SV.v ⟨atB rsb, 1, 1⟩) ∧ Lq data datas.v ∧ True := kn k0 (by kernel_rfl)
  clear k0
  refine V.tro 3 data datas 0 (by kernel_rfl) (fun _ _ => trivial) ?_
  have hbn : b = (rs.length : Int) := by omega
  refine V.go [.k (iv a),
    .a (a + 1) (by omega) (by omega),
    .k (iv (a + 1))] (fun _ _ => by kernel_rfl) fun _ _ G1 => ?_
  intro S1 t1
  refine V.loop (γ := List Int × Int) (fun ⟨data_1, i⟩ => ⟨[(0, datas.v), (1, iv a), (2, iv b), (3, .func (.func 48) #[] #[pp rsb 0]), (8, iv i)], [fs false ([⟨rs, rss⟩] : List (Fat DFrac)) ⟨atB rsb, 1, 1⟩], [os true 3 data_1 datas]⟩) (fun ⟨data_1, i⟩ => (a + 1 ≤ i) ∧ ((a = 0 ∧ i ≤ b + 1 ∧ Fr.InsI (rs.map Fr.qv) data_1 i.toNat) ∨ (a = b ∧ data_1 = Fr.ord (rs.map Fr.qv)))) (fun ⟨data_1, i⟩ => (b - i).toNat) (data, a + 1) (by kernel_rfl) [0] (by kernel_rfl) ?_ ?_
  · skip
    refine ⟨?_, ?_⟩
    · show a + 1 ≤ (a + 1)
      omega
    · show (a = 0 ∧ (a + 1) ≤ b + 1 ∧ Fr.InsI (rs.map Fr.qv) data (a + 1).toNat) ∨ (a = b ∧ data = Fr.ord (rs.map Fr.qv))
      rcases hD with ⟨h1, h2, h3⟩ | ⟨h1, _, h2⟩
      · left; refine ⟨h1, by omega, ?_⟩; rw [h1, show ((0 : Int) + 1).toNat = 1 from rfl, h3, hl, show rs.length = (rs.map Fr.qv).length by rw [List.length_map]]; exact Fr.ins_start
      · right; exact ⟨h1, h2⟩
  · rintro ⟨data_1, i⟩ hF1 kw2 Z1 hZ1
    have hF1 : (a + 1 ≤ i) ∧ ((a = 0 ∧ i ≤ b + 1 ∧ Fr.InsI (rs.map Fr.qv) data_1 i.toNat) ∨ (a = b ∧ data_1 = Fr.ord (rs.map Fr.qv))) := hF1
    obtain ⟨hf1, hf2⟩ := hF1
    obtain ⟨-, ⟨kl3, -⟩, -⟩ : Lq ([⟨rs, rss⟩] : List (Fat DFrac)) (SV.v ⟨atB rsb, 1, 1⟩) ∧ Lq data_1 datas.v ∧ True := kn kw2 (by kernel_rfl)
    clear kw2
    refine V.go [.k (iv i),
      .k (iv b),
      .k (bv (decide (i < b)))] (fun _ _ => by kernel_rfl) fun _ _ G2 => ?_
    intro S2 t2
    refine V.cond (b := decide (i < b)) iDT iDF (by kernel_rfl) (fun q1 => ?_) (fun q2 => ?_)
    · skip
      obtain ⟨ha0, hib, hI⟩ : a = 0 ∧ i ≤ b + 1 ∧ Fr.InsI (rs.map Fr.qv) data_1 i.toNat := by rcases hf2 with h | h; exact h; omega
      have hbr : b = (rs.length : Int) := by omega
      have hIl := hI.len; rw [List.length_map] at hIl
      refine V.go [.k (iv i),
        .k (iv i)] (fun _ _ => by kernel_rfl) fun _ _ G3 => ?_
      intro S3 t3
      refine V.loop (γ := List Int × Int) (fun ⟨data_2, j⟩ => ⟨[(0, datas.v), (1, iv a), (2, iv b), (3, .func (.func 48) #[] #[pp rsb 0]), (8, iv i), (9, iv j)], [fs false ([⟨rs, rss⟩] : List (Fat DFrac)) ⟨atB rsb, 1, 1⟩], [os true 3 data_2 datas]⟩) (fun ⟨data_2, j⟩ => (0 ≤ j) ∧ (j ≤ i) ∧ (Fr.InsJ (rs.map Fr.qv) data_2 i.toNat j.toNat)) (fun ⟨data_2, j⟩ => j.toNat) (data_1, i) (by kernel_rfl) [0] (by kernel_rfl) ?_ ?_
      · skip
        refine ⟨?_, ?_, ?_⟩
        · show 0 ≤ i
          omega
        · show i ≤ i
          omega
        · show Fr.InsJ (rs.map Fr.qv) data_1 i.toNat i.toNat
          exact Fr.ins_in hI (by rw [List.length_map]; omega)
      · rintro ⟨data_2, j⟩ hF2 kw5 Z2 hZ2
        have hF2 : (0 ≤ j) ∧ (j ≤ i) ∧ (Fr.InsJ (rs.map Fr.qv) data_2 i.toNat j.toNat) := hF2
        obtain ⟨hf3, hf4, hf5⟩ := hF2
        obtain ⟨-, ⟨kl4, -⟩, -⟩ : Lq ([⟨rs, rss⟩] : List (Fat DFrac)) (SV.v ⟨atB rsb, 1, 1⟩) ∧ Lq data_2 datas.v ∧ True := kn kw5 (by kernel_rfl)
        clear kw5
        have hJl := hf5.len (by rw [List.length_map]; omega)
        rw [List.length_map] at hJl
        refine nm (data_2.getD j.toNat default : Int) fun v1 hv1 => ?_
        refine nm (data_2.getD (j - 1).toNat default : Int) fun v2 hv2 => ?_
        refine nm (Fr.cmpQ (Fr.qv (rs.getD v2.toNat default)) (Fr.qv (rs.getD v1.toNat default)) : Int) fun n1 hn1 => ?_
        have hat := fun (hj : 0 < j) => Fr.insJ_at hf5 (by omega : 0 < j.toNat)
        have hv2c : v2 = _ := hv2
        rw [show (j - 1).toNat = j.toNat - 1 by omega] at hv2c
        have hva : 0 < j → v1 = i := fun hj => by have := (hat hj).1; omega
        have hvb : 0 < j → 0 ≤ v2 ∧ v2 < i := fun hj => by have := (hat hj).2; omega
        refine V.go [.k (iv j),
          .k (iv a),
          .k (bv (decide (a < j))),
          .k (bv (decide (a < j))),
          .k (.func (.func 48) #[] #[pp rsb 0]),
          .k (datas.v),
          .k (iv j),
          .ix (gT (b := decide (a < j)) iDT) (ko true 3 0 data_2 (fun _ => datas)) j (fun hg => ⟨by omega, by omega⟩),
          .le (gT (b := decide (a < j)) iDT) (ko true 3 0 data_2 (fun _ => datas)) j none false v1 hv1 (fun hg => ⟨by omega, by omega⟩) false (fun _ => [iv v1]),
          .k (datas.v),
          .k (iv j),
          .arg (gT (b := decide (a < j)) iDT) (j - 1) (j - 1) rfl (fun hg => by omega),
          .ix (gT (b := decide (a < j)) iDT) (ko true 3 0 data_2 (fun _ => datas)) (j - 1) (fun hg => ⟨by omega, by omega⟩),
          .le (gT (b := decide (a < j)) iDT) (ko true 3 0 data_2 (fun _ => datas)) (j - 1) none false v2 hv2 (fun hg => ⟨by omega, by omega⟩) false (fun _ => [iv v2]),
          .cp (gT (b := decide (a < j)) iDT) 14 48 [(kf false (.f 0) ([⟨rs, rss⟩] : List (Fat DFrac)) (fun _ => ⟨atB rsb, 1, 1⟩)).a] (fun hg G => clo_ctv v1 v2 rsb rs rss hV (by have := hva (by omega); omega) (by have := hvb (by omega); omega) n1 hn1),
          .k (bv (decide (n1 < 0))),
          .and g0 false (decide (a < j)) (decide (n1 < 0))] (fun _ _ => by kernel_rfl) fun _ _ G4 => ?_
        intro S4 t4
        refine V.cond (b := (decide (a < j)) && (decide (n1 < 0))) (iAT iDT iDT) (iAF iDF iDF) (by kernel_rfl) (fun q3 => ?_) (fun q4 => ?_)
        · skip
          refine nm (data_2.set j.toNat v2 : List Int) fun l1 hl1 => ?_
          have hl1n := congrArg List.length hl1; try simp only [List.length_append, List.length_cons, List.length_nil, List.length_replicate, List.length_set, List.length_take, List.length_drop, List.length_map, List.length_reverse, List.length_range] at hl1n
          refine nm (l1.getD (j - 1).toNat default : Int) fun v3 hv3 => ?_
          refine nm (l1.set (j - 1).toNat v1 : List Int) fun l2 hl2 => ?_
          have hl2n := congrArg List.length hl2; try simp only [List.length_append, List.length_cons, List.length_nil, List.length_replicate, List.length_set, List.length_take, List.length_drop, List.length_map, List.length_reverse, List.length_range] at hl2n
          refine V.go [.k (datas.v),
            .k (iv j),
            .k (datas.v),
            .k (iv j),
            .a (j - 1) (by omega) (by omega),
            .k (datas.v),
            .k (iv j),
            .a (j - 1) (by omega) (by omega),
            .ix g0 (ko true 3 0 data_2 (fun _ => datas)) (j - 1) (fun _ => ⟨by omega, by omega⟩),
            .le g0 (ko true 3 0 data_2 (fun _ => datas)) (j - 1) none false v2 hv2 (fun _ => ⟨by omega, by omega⟩) false (fun _ => [iv v2]),
            .k (datas.v),
            .k (iv j),
            .ix g0 (ko true 3 0 data_2 (fun _ => datas)) j (fun _ => ⟨by omega, by omega⟩),
            .le g0 (ko true 3 0 data_2 (fun _ => datas)) j none false v1 hv1 (fun _ => ⟨by omega, by omega⟩) false (fun _ => [iv v1]),
            .ix g0 (ko true 3 0 data_2 (fun _ => datas)) j (fun _ => ⟨by omega, by omega⟩),
            .se g0 15 0 3 true data_2 (fun _ => datas) j none v1 v2 hv1 true l1 hl1 (fun _ => ⟨by omega, by omega⟩) (fun _ => rfl) [] (fun _ _ _ _ => trivial),
            .ix g0 (ko true 3 0 l1 (fun _ => datas)) (j - 1) (fun _ => ⟨by omega, by omega⟩),
            .se g0 17 0 3 true l1 (fun _ => datas) (j - 1) none v3 v1 hv3 true l2 hl2 (fun _ => ⟨by omega, by omega⟩) (fun _ => rfl) [] (fun _ _ _ _ => trivial)] (fun _ _ => by kernel_rfl) fun _ _ G5 => ?_
          intro S5 t5
          refine V.go [.k (iv j),
            .a (j - 1) (by omega) (by omega),
            .k (iv (j - 1))] (fun _ _ => by kernel_rfl) fun _ _ G6 => ?_
          intro S6 t6
          refine V.rnd hZ2 (l2, j - 1) [0] (by kernel_rfl) ?_ ?_
          · skip
            refine ⟨?_, ?_, ?_⟩
            · show 0 ≤ (j - 1)
              omega
            · show (j - 1) ≤ i
              omega
            · show Fr.InsJ (rs.map Fr.qv) l2 i.toNat (j - 1).toNat
              have hst := Fr.ins_step hf5 (by omega) ((Fr.cmp_ltR hf5 (by omega) (by omega) hv1 hv2c hn1).1 q3.2)
              rw [show j.toNat - 1 = (j - 1).toNat by omega, ← hv2, ← hv1] at hst
              rw [hl2, hl1]; exact hst
          · show (j - 1).toNat < j.toNat
            omega
        · skip
          refine V.go [.k (iv i),
            .a (i + 1) (by omega) (by omega),
            .k (iv (i + 1))] (fun _ _ => by kernel_rfl) fun _ _ G7 => ?_
          intro S7 t7
          refine V.rnd hZ1 (data_2, i + 1) [0] (by kernel_rfl) ?_ ?_
          · skip
            refine ⟨?_, ?_⟩
            · show a + 1 ≤ (i + 1)
              omega
            · show (a = 0 ∧ (i + 1) ≤ b + 1 ∧ Fr.InsI (rs.map Fr.qv) data_2 (i + 1).toNat) ∨ (a = b ∧ data_2 = Fr.ord (rs.map Fr.qv))
              left; refine ⟨ha0, by omega, ?_⟩
              rw [show (i + 1).toNat = i.toNat + 1 by omega]
              refine Fr.ins_stop hf5 (by omega) hv1 hv2c hn1 ?_
              have hqq := q4; rcases hqq with h | h
              · left; omega
              · right; exact h
          · show (b - (i + 1)).toNat < (b - i).toNat
            omega
    · skip
      have eL0 : data_1 = Fr.ord (rs.map Fr.qv) := by
        rcases hf2 with ⟨h1, h2, h3⟩ | ⟨h1, h2⟩
        · exact Fr.ins_end h3 (by rw [List.length_map]; omega)
        · exact h2
      subst eL0
      exact V.ret [] [] [] [] [] [0] (.tuple #[]) (fun _ _ => by kernel_rfl) (fun _ _ => by kernel_rfl) (fun _ _ => trivial)

set_option maxRecDepth 10000 in
theorem stable_ct (data : List Int) (datas : SV) (n : Int) (rsb : Nat) (rs : List DFrac) (rss : SV) (hV : ∀ x ∈ rs, Fr.rt x ∧ Fr.ln 2000000 x) (hl : data.length = rs.length) (hn : n = (data.length : Int)) (hr : rs.length ≤ 20) (hD : data = Fr.iota rs.length) :
    Ct Try.prog 86 #[datas.v, iv n, .func (.func 48) #[] #[pp rsb 0]] [fs true ([⟨rs, rss⟩] : List (Fat DFrac)) ⟨atB rsb, 1, 1⟩] [os false 3 data datas] (fun g => .tuple #[]) (fun g => []) (fun g => [os true 3 (Fr.ord (rs.map Fr.qv)) datas]) (fun g => []) := by
  refine V.fn mo Try.func86 63 0 (by kernel_rfl) fun w H ε k0 => ?_
  obtain ⟨⟨kl1, -⟩, ⟨kl2, -⟩, -⟩ : Lq ([⟨rs, rss⟩] : List (Fat DFrac)) (SV.v ⟨atB rsb, 1, 1⟩) ∧ Lq data datas.v ∧ True := kn k0 (by kernel_rfl)
  clear k0
  refine V.tro 3 data datas 0 (by kernel_rfl) (fun _ _ => trivial) ?_
  refine V.go [.k (iv 20)] (fun _ _ => by kernel_rfl) fun _ _ G1 => ?_
  intro S1 t1
  refine V.go [.k (iv 20),
    .k (iv 0),
    .k (iv 20)] (fun _ _ => by kernel_rfl) fun _ _ G2 => ?_
  intro S2 t2
  refine V.loop (γ := List Int × Int × Int) (fun ⟨data_1, a, b⟩ => ⟨[(0, datas.v), (1, iv n), (2, .func (.func 48) #[] #[pp rsb 0]), (6, iv 20), (7, iv a), (8, iv b)], [fs false ([⟨rs, rss⟩] : List (Fat DFrac)) ⟨atB rsb, 1, 1⟩], [os true 3 data_1 datas]⟩) (fun ⟨data_1, a, b⟩ => ((a = 0 ∧ b = 20 ∧ data_1 = Fr.iota rs.length) ∨ (a = 20 ∧ b = 40 ∧ n = 20 ∧ data_1 = Fr.ord (rs.map Fr.qv)))) (fun ⟨data_1, a, b⟩ => (40 - b).toNat) (data, 0, 20) (by kernel_rfl) [0] (by kernel_rfl) ?_ ?_
  · skip
    · show ((0 : Int) = 0 ∧ (20 : Int) = 20 ∧ data = Fr.iota rs.length) ∨ ((0 : Int) = 20 ∧ (20 : Int) = 40 ∧ n = 20 ∧ data = Fr.ord (rs.map Fr.qv))
      left; exact ⟨rfl, rfl, hD⟩
  · rintro ⟨data_1, a, b⟩ hF1 kw3 Z1 hZ1
    have hf1 : (a = 0 ∧ b = 20 ∧ data_1 = Fr.iota rs.length) ∨ (a = 20 ∧ b = 40 ∧ n = 20 ∧ data_1 = Fr.ord (rs.map Fr.qv)) := hF1
    obtain ⟨-, ⟨kl3, -⟩, -⟩ : Lq ([⟨rs, rss⟩] : List (Fat DFrac)) (SV.v ⟨atB rsb, 1, 1⟩) ∧ Lq data_1 datas.v ∧ True := kn kw3 (by kernel_rfl)
    clear kw3
    refine V.go [.k (iv b),
      .k (iv n),
      .k (bv (decide (b ≤ n)))] (fun _ _ => by kernel_rfl) fun _ _ G3 => ?_
    intro S3 t3
    refine V.cond (b := decide (b ≤ n)) iDT iDF (by kernel_rfl) (fun q1 => ?_) (fun q2 => ?_)
    · skip
      obtain ⟨hdl, ha0, hb20⟩ : data_1 = Fr.iota rs.length ∧ a = 0 ∧ b = 20 := by rcases hf1 with h | h; exact ⟨h.2.2, h.1, h.2.1⟩; omega
      have hdn : data_1.length = rs.length := by rw [hdl, Fr.iota_len]
      refine V.go [.k (datas.v),
        .k (iv a),
        .k (iv b),
        .k (.func (.func 48) #[] #[pp rsb 0]),
        .ct g0 4 102 false [0] [] [(kf false (.f 0) ([⟨rs, rss⟩] : List (Fat DFrac)) (fun _ => ⟨atB rsb, 1, 1⟩)).a] (fun _ G => ins_ct data_1 datas a b rsb rs rss hV hdn (.inl ⟨ha0, by omega, by rw [hdn]; exact hdl⟩) (by omega))] (fun _ _ => by kernel_rfl) fun _ _ G4 => ?_
      intro S4 t4
      refine V.go [.k (iv b),
        .k (iv b)] (fun _ _ => by kernel_rfl) fun _ _ G5 => ?_
      intro S5 t5
      refine V.go [.k (iv b),
        .k (iv 20),
        .a (b + 20) (by omega) (by omega),
        .k (iv (b + 20))] (fun _ _ => by kernel_rfl) fun _ _ G6 => ?_
      intro S6 t6
      refine V.rnd hZ1 (Fr.ord (rs.map Fr.qv), b, b + 20) [0] (by kernel_rfl) ?_ ?_
      · skip
        · show (b = 0 ∧ (b + 20) = 20 ∧ (Fr.ord (rs.map Fr.qv)) = Fr.iota rs.length) ∨ (b = 20 ∧ (b + 20) = 40 ∧ n = 20 ∧ (Fr.ord (rs.map Fr.qv)) = Fr.ord (rs.map Fr.qv))
          right; exact ⟨by omega, by omega, by omega, rfl⟩
      · show (40 - (b + 20)).toNat < (40 - b).toNat
        omega
    · skip
      have hdn : data_1.length = rs.length := by rcases hf1 with h | h; rw [h.2.2, Fr.iota_len]; rw [h.2.2.2, Fr.ord_len, List.length_map]
      refine V.go [.k (datas.v),
        .k (iv a),
        .k (iv n),
        .k (.func (.func 48) #[] #[pp rsb 0]),
        .ct g0 4 102 false [0] [] [(kf false (.f 0) ([⟨rs, rss⟩] : List (Fat DFrac)) (fun _ => ⟨atB rsb, 1, 1⟩)).a] (fun _ G => ins_ct data_1 datas a n rsb rs rss hV hdn (by rcases hf1 with h | h; exact .inl ⟨h.1, by omega, by rw [hdn]; exact h.2.2⟩; exact .inr ⟨by omega, by omega, h.2.2.2⟩) (by omega))] (fun _ _ => by kernel_rfl) fun _ _ G7 => ?_
      intro S7 t7
      refine V.loop (γ := Int) (fun blockSize => ⟨[(0, datas.v), (1, iv n), (2, .func (.func 48) #[] #[pp rsb 0]), (6, iv blockSize)], [fs false ([⟨rs, rss⟩] : List (Fat DFrac)) ⟨atB rsb, 1, 1⟩], [os true 3 (Fr.ord (rs.map Fr.qv)) datas]⟩) (fun blockSize => (blockSize = 20)) (fun blockSize => 0) 20 (by kernel_rfl) [0] (by kernel_rfl) ?_ ?_
      · skip
        · show (20 : Int) = 20
          rfl
      · rintro blockSize hF2 kw9 Z2 hZ2
        have hf2 : blockSize = 20 := hF2
        clear kw9
        refine V.go [.k (iv blockSize),
          .k (iv n),
          .k (bv (decide (blockSize < n)))] (fun _ _ => by kernel_rfl) fun _ _ G8 => ?_
        intro S8 t8
        refine V.cond (b := decide (blockSize < n)) iDT iDF (by kernel_rfl) (fun q3 => ?_) (fun q4 => ?_)
        · skip
          exfalso; omega
        · skip
          exact V.ret [] [] [] [] [] [0] (.tuple #[]) (fun _ _ => by kernel_rfl) (fun _ _ => by kernel_rfl) (fun _ _ => trivial)

set_option maxRecDepth 10000 in
theorem sorts_ct (x : List Int) (xs : SV) (rsb : Nat) (rs : List DFrac) (rss : SV) (hV : ∀ x ∈ rs, Fr.rt x ∧ Fr.ln 2000000 x) (hl : x.length = rs.length) (hr : rs.length ≤ 20) (hD : x = Fr.iota rs.length) :
    Ct Try.prog 47 #[xs.v, .func (.func 48) #[] #[pp rsb 0]] [fs true ([⟨rs, rss⟩] : List (Fat DFrac)) ⟨atB rsb, 1, 1⟩] [os false 3 x xs] (fun g => .tuple #[]) (fun g => []) (fun g => [os true 3 (Fr.ord (rs.map Fr.qv)) xs]) (fun g => []) := by
  refine V.fn mo Try.func47 9 0 (by kernel_rfl) fun w H ε k0 => ?_
  obtain ⟨⟨kl1, -⟩, ⟨kl2, -⟩, -⟩ : Lq ([⟨rs, rss⟩] : List (Fat DFrac)) (SV.v ⟨atB rsb, 1, 1⟩) ∧ Lq x xs.v ∧ True := kn k0 (by kernel_rfl)
  clear k0
  refine V.tro 3 x xs 0 (by kernel_rfl) (fun _ _ => trivial) ?_
  refine V.go [.k (xs.v),
    .k (xs.v),
    .ln (ko true 3 0 x (fun _ => xs)),
    .k (.func (.func 48) #[] #[pp rsb 0]),
    .ct g0 4 86 false [0] [] [(kf false (.f 0) ([⟨rs, rss⟩] : List (Fat DFrac)) (fun _ => ⟨atB rsb, 1, 1⟩)).a] (fun _ G => stable_ct x xs (x.length : Int) rsb rs rss hV hl rfl hr hD)] (fun _ _ => by kernel_rfl) fun _ _ G1 => ?_
  intro S1 t1
  exact V.ret [] [] [] [] [] [0] (.tuple #[]) (fun _ _ => by kernel_rfl) (fun _ _ => by kernel_rfl) (fun _ _ => trivial)

end Kb
set_option linter.unusedVariables false
set_option linter.unusedSectionVars false
set_option linter.unusedSimpArgs false
namespace Kb
open Go Go.Proofs
set_option maxRecDepth 10000 in
theorem shs_ct (l : List DFrac) (ls : SV) (hW : Fr.Wb l) :
    Cp Try.prog 43 #[ls.v] [fs true l ls] (bv (decide (Fr.isSh l))) := by
  refine V.fn mo Try.func43 18 0 (by kernel_rfl) fun w H ε k0 => ?_
  obtain ⟨⟨kl1, -⟩, -⟩ : Lq l ls.v ∧ True := kn k0 (by kernel_rfl)
  clear k0
  refine V.go [.kb false] (fun _ _ => by kernel_rfl) fun _ _ G1 => ?_
  intro S1 t1
  refine nm (Bg.sgn (Fr.sumW l).num : Int) fun n1 hn1 => ?_
  refine nm (Bg.dig (Fr.sumW l).num.natAbs : List Int) fun l1 hl1 => ?_
  have hl1n := congrArg List.length hl1
  refine nm (Bg.dig (Fr.sumW l).den : List Int) fun l2 hl2 => ?_
  have hl2n := congrArg List.length hl2
  refine nm (Bg.sgn (1 : Int) : Int) fun n2 hn2 => ?_
  refine nm (Bg.dig (1 : Int).natAbs : List Int) fun l3 hl3 => ?_
  have hl3n := congrArg List.length hl3
  refine nm (Bg.dig 1 : List Int) fun l4 hl4 => ?_
  have hl4n := congrArg List.length hl4
  refine nm (if Fr.FrB n1 l1 (1 : Int) l2 ∧ Fr.FrB n2 l3 (1 : Int) l4 then Fr.cmpQ (Fr.fq n1 l1 l2) (Fr.fq n2 l3 l4) else 0 : Int) fun n3 hn3 => ?_
  refine nm (((!(l.any Fr.wrongB)) && (!(l.any Fr.negB))) && (decide (n3 = 0)) : Bool) fun p1 hp1 => ?_
  have zw : Fr.Fz n1 l1 1 l2 (Fr.sumW l) := by subst_vars; exact ⟨Fr.FrB.of _, Fr.fq_of _⟩
  have zo : Fr.Fz n2 l3 1 l4 ((1 : Int) : Rat) := by subst_vars; exact Fr.intz 1
  have hcmp : (∀ x ∈ l, Fr.rt x) → n3 = Fr.cmpQ (Fr.sumW l) 1 := fun hR => by rw [hn3, if_pos ⟨zw.rt, zo.rt⟩, zw.v, zo.v]; rfl
  have hzo := zo.len (Fr.Hb.int (by omega)); have hzo1 := hzo.1; have hzo2 := hzo.2
  have hzl := fun (hR : ∀ x ∈ l, Fr.rt x) => zw.len (hW.hbW hR)
  refine V.go [.k (ls.v),
    .cp g0 1 33 [(kf false (.f 0) l (fun _ => ls)).a] (fun _ G => conw_ct l ls (by first | assumption | exact Fr.Wb.lf (by assumption))),
    .k (bv (!(l.any Fr.wrongB))),
    .k (bv (!(l.any Fr.wrongB))),
    .k (ls.v),
    .cp (gT (b := !(l.any Fr.wrongB)) (iNT Iff.rfl)) 5 33 [(kf false (.f 0) l (fun _ => ls)).a] (fun hg G => conn_ct l ls (by first | assumption | exact Fr.Wb.lf (by assumption))),
    .k (bv (!(l.any Fr.negB))),
    .and g0 false (!(l.any Fr.wrongB)) (!(l.any Fr.negB)),
    .k (bv ((!(l.any Fr.wrongB)) && (!(l.any Fr.negB)))),
    .k (ls.v),
    .ct (gT (b := (!(l.any Fr.wrongB)) && (!(l.any Fr.negB))) (iAT (iNT Iff.rfl) (iNT Iff.rfl))) 10 36 false [] [] [(kf false (.f 0) l (fun _ => ls)).a] (fun hg G => sum_ctv l ls hW (Fr.anyW.1 (by simpa using hg.1)) n1 hn1 l1 hl1 l2 hl2),
    .ct (gT (b := (!(l.any Fr.wrongB)) && (!(l.any Fr.negB))) (iAT (iNT Iff.rfl) (iNT Iff.rfl))) 11 18 false [] [] [] (fun hg G => fint_ctv (1 : Int) (by omega) n2 hn2 l3 hl3 l4 hl4),
    .cp (gT (b := (!(l.any Fr.wrongB)) && (!(l.any Fr.negB))) (iAT (iNT Iff.rfl) (iNT Iff.rfl))) 12 49 [(kf true (.g 10 0) l1 (fun G => (G 10).ss 0)).a, (kf true (.g 10 1) l2 (fun G => (G 10).ss 1)).a, (kf true (.g 11 0) l3 (fun G => (G 11).ss 0)).a, (kf true (.g 11 1) l4 (fun G => (G 11).ss 1)).a] (fun hg G => fcmp_ctv n1 l1 ((G 10).ss 0) (1 : Int) l2 ((G 10).ss 1) n2 l3 ((G 11).ss 0) (1 : Int) l4 ((G 11).ss 1) (by have := (hzl (Fr.anyW.1 (by simpa using hg.1))).1; omega) (by have := (hzl (Fr.anyW.1 (by simpa using hg.1))).2; omega) (by omega) (by omega) n3 hn3),
    .k (bv (decide (n3 = 0))),
    .andn g0 false ((!(l.any Fr.wrongB)) && (!(l.any Fr.negB))) (decide (n3 = 0)) p1 hp1,
    .k (bv p1)] (fun _ _ => by kernel_rfl) fun _ _ G2 => ?_
  intro S2 t2
  have e0 : p1 = decide (Fr.isSh l) := by
    refine Bool.eq_iff_iff.2 (Iff.trans (iN hp1 (iAT (iAT (iNT Iff.rfl) (iNT Iff.rfl)) iDT)) (Iff.trans ?_ decide_eq_true_iff.symm))
    have h := Fr.isSh_is hcmp; rw [Bool.not_eq_true, Bool.not_eq_true] at h; exact h
  exact V.ret [0] [] [] [] [] [] (bv p1) (fun _ _ => by kernel_rfl) (fun _ _ => (Eq.trans (by kernel_rfl) (cong1 (fun (x0 : Bool) => (bv x0 : Value)) e0)).trans (by kernel_rfl)) (fun _ _ => trivial)

set_option maxRecDepth 10000 in
theorem round_ct (total : Int) (l : List DFrac) (ls : SV) (hW : Fr.Wb l) (hl : l.length ≤ 20) :
    Ct Try.prog 15 #[iv total, ls.v] [fs true l ls] [] (fun g => .tuple #[((g.ss 0)).v, iv (if Fr.rndOk total l then (0 : Int) else 1)]) (fun g => [fs true (Fr.rndL total l) (g.ss 0)]) (fun g => []) (fun g => []) := by
  refine V.fn mo Try.func15 100 6 (by kernel_rfl) fun w H ε k0 => ?_
  obtain ⟨⟨kl1, -⟩, -⟩ : Lq l ls.v ∧ True := kn k0 (by kernel_rfl)
  clear k0
  refine V.go [.k (.slice none 0 0),
    .k (iv 0)] (fun _ _ => by kernel_rfl) fun _ _ G1 => ?_
  intro S1 t1
  refine nm ((decide (total < 0)) || (decide (1099511627776 < total)) : Bool) fun p1 hp1 => ?_
  refine V.go [.k (iv total),
    .k (bv (decide (total < 0))),
    .k (bv (decide (total < 0))),
    .k (iv total),
    .k (bv (decide (1099511627776 < total))),
    .orn g0 false (decide (total < 0)) (decide (1099511627776 < total)) p1 hp1,
    .k (bv p1),
    .k (ls.v),
    .cp (gF (b := p1) (iN hp1 (iOF iDF iDF))) 8 43 [(kf false (.f 0) l (fun _ => ls)).a] (fun hg G => shs_ct l ls hW),
    .k (bv (!(decide (Fr.isSh l)))),
    .or g0 false p1 (!(decide (Fr.isSh l)))] (fun _ _ => by kernel_rfl) fun _ _ G2 => ?_
  intro S2 t2
  refine V.cond (b := p1 || (!(decide (Fr.isSh l)))) (iOT (iN hp1 (iOT iDT iDT)) (iNT iDF)) (iOF (iN hp1 (iOF iDF iDF)) (iNF iDT)) (by kernel_rfl) (fun q1 => ?_) (fun q2 => ?_)
  · skip
    have hNo : ¬ Fr.rndOk total l := by have hqq := q1; rintro ⟨h1, h2⟩; rcases hqq with (h | h) | h; omega; omega; exact h h2
    refine V.go [.k (.slice none 0 0),
      .k (iv 1)] (fun _ _ => by kernel_rfl) fun _ _ G3 => ?_
    intro S3 t3
    refine V.nilF (α := Int) ?_
    have e0 : ([] : List Int) = Fr.rndL total l := by
      exact (Fr.rndL_n hNo).symm
    rw [← e0]
    have e1 : (1 : Int) = if Fr.rndOk total l then (0 : Int) else 1 := by
      exact (if_neg hNo).symm
    exact V.ret [0, 0] [{}] [fun _ => {}] [] [1] [] (.tuple #[SV.v ({}), iv 1]) (fun _ _ => by kernel_rfl) (fun _ _ => (Eq.trans (by kernel_rfl) (cong1 (fun (x1 : Int) => (.tuple #[SV.v ({}), iv x1] : Value)) e1)).trans (by kernel_rfl)) (fun _ _ => trivial)
  · skip
    have hOk : Fr.rndOk total l := by have hqq := q2; exact ⟨by omega, by first | exact hqq.2 | exact Decidable.not_not.1 hqq.2⟩
    have hOk1 := hOk.1
    refine nm (List.replicate (l.length : Int).toNat (0 : Int) : List Int) fun l1 hl1 => ?_
    have hl1n := congrArg List.length hl1; try simp only [List.length_append, List.length_cons, List.length_nil, List.length_replicate, List.length_set, List.length_take, List.length_drop, List.length_map, List.length_reverse, List.length_range] at hl1n
    refine V.go [.k (ls.v),
      .ln (kf false (.f 0) l (fun _ => ls)),
      .mks 2 0 3 8 (l.length : Int) l1 hl1 (by omega) (by omega) (by omega),
      .v fun G => ((G 2).s).v] (fun _ _ => by kernel_rfl) fun _ _ G4 => ?_
    intro S4 t4
    refine nm (List.replicate (l.length : Int).toNat (default : DFrac) : List DFrac) fun l2 hl2 => ?_
    have hl2n := congrArg List.length hl2; try simp only [List.length_append, List.length_cons, List.length_nil, List.length_replicate, List.length_set, List.length_take, List.length_drop, List.length_map, List.length_reverse, List.length_range] at hl2n
    refine V.go [.k (ls.v),
      .ln (kf false (.f 0) l (fun _ => ls)),
      .mks 2 1 33 64 (l.length : Int) l2 hl2 (by omega) (by omega) (by omega),
      .nb 3 2 (fun b => pp b 0) 22 (fun _ => #[.slice none 0 0]),
      .st 2 (fun G => .blk ((G 3).b) #[((G 2).s).v] 22)] (fun _ _ => by kernel_rfl) fun _ _ G5 => ?_
    intro S5 t5
    refine V.go [.k (.slice none 0 0)] (fun _ _ => by kernel_rfl) fun _ _ G6 => ?_
    intro S6 t6
    refine V.go [.k (iv total),
      .k (iv total)] (fun _ _ => by kernel_rfl) fun _ _ G7 => ?_
    intro S7 t7
    refine V.go [.k (ls.v),
      .ln (kf false (.f 0) l (fun _ => ls)),
      .k (iv 0)] (fun _ _ => by kernel_rfl) fun _ _ G8 => ?_
    intro S8 t8
    refine V.on (α := Int) 5 3 (by kernel_rfl) ?_
    refine V.loop (γ := List Int × SV × List Int × SV × Int × Int × List DFrac × SV) (fun ⟨out, outs, order, orders, left, k0, rests, restss⟩ => ⟨[(0, iv total), (6, outs.v), (7, pp ((G5 3).b) 0), (8, orders.v), (9, iv left), (34, ls.v), (35, iv (l.length : Int)), (36, iv k0)], [fs false l ls], [os true 3 out outs, os true 33 rests restss, .blk ((G5 3).b) #[restss.v] 22, .no, .no, os true 3 order orders]⟩) (fun ⟨out, outs, order, orders, left, k0, rests, restss⟩ => (0 ≤ k0) ∧ (k0 ≤ (l.length : Int)) ∧ (Fr.RI total l out rests order left k0.toNat)) (fun ⟨out, outs, order, orders, left, k0, rests, restss⟩ => ((l.length : Int) - k0).toNat) (l1, (G4 2).s, ([] : List Int), {}, total, 0, l2, (G5 2).s) (by kernel_rfl) [0] (by kernel_rfl) ?_ ?_
    · skip
      refine ⟨?_, ?_, ?_⟩
      · show 0 ≤ (0 : Int)
        first | omega | rfl | (simp; done) | (subst_vars; simp; done)
      · show (0 : Int) ≤ (l.length : Int)
        first | omega | rfl | (simp; done) | (subst_vars; simp; done)
      · show Fr.RI total l l1 l2 ([] : List Int) total (0 : Int).toNat
        rw [hl1, hl2, Int.toNat_natCast]; exact Fr.RI.start total l hOk.1
    · rintro ⟨out, outs, order, orders, left, k0, rests, restss⟩ hF1 kw9 Z1 hZ1
      have hF1 : (0 ≤ k0) ∧ (k0 ≤ (l.length : Int)) ∧ (Fr.RI total l out rests order left k0.toNat) := hF1
      obtain ⟨hf1, hf2, hf3⟩ := hF1
      obtain ⟨-, ⟨kl2, -⟩, ⟨kl3, -⟩, ⟨kl4, -⟩, -⟩ : Lq l ls.v ∧ Lq out outs.v ∧ Lq rests restss.v ∧ Lq order orders.v ∧ True := kn kw9 (by kernel_rfl)
      clear kw9
      have hRol := hf3.ol; have hRrl := hf3.rl; have hRlr := hf3.lr
      have hodn := congrArg List.length hf3.od; rw [Fr.iota_len] at hodn
      refine V.go [.k (bv (decide (k0 < (l.length : Int))))] (fun _ _ => by kernel_rfl) fun _ _ G9 => ?_
      intro S9 t9
      refine V.cond (b := decide (k0 < (l.length : Int))) iDT iDF (by kernel_rfl) (fun q3 => ?_) (fun q4 => ?_)
      · skip
        refine nm (l.getD k0.toNat default : DFrac) fun x1 hx1 => ?_
        refine V.reg [.k (iv k0),
          .ix g0 (kf false (.f 0) l (fun _ => ls)) k0 (fun _ => ⟨by omega, by omega⟩),
          .le g0 (kf false (.f 0) l (fun _ => ls)) k0 none true x1 hx1 (fun _ => ⟨by omega, by omega⟩) true (fun _ => Dat.cells x1),
          .nb 3 3 (fun b => pp b 0) 33 (fun _ => ca (DFrac.mk (DBig.mk 0 ⟨[], {}⟩) (DBig.mk 0 ⟨[], {}⟩))),
          .k (iv k0),
          .st 3 (fun G => .blk ((G 3).b) (ca x1) 33)] (fun _ _ => by kernel_rfl) fun _ _ G10 kw11 => ?_
        intro S10 t10
        obtain ⟨⟨⟨kl5, -⟩, ⟨kl6, -⟩⟩, -⟩ : (Lq x1.P.Digits.l x1.P.Digits.s.v ∧ Lq x1.Q.Digits.l x1.Q.Digits.s.v) ∧ Lq out outs.v ∧ Lq rests restss.v ∧ Lq order orders.v ∧ True := kn kw11 (by kernel_rfl)
        clear kw11
        refine nm (Bg.sgn total : Int) fun n1 hn1 => ?_
        refine nm (Bg.dig total.natAbs : List Int) fun l3 hl3 => ?_
        have hl3n := congrArg List.length hl3
        refine nm (Bg.dig 1 : List Int) fun l4 hl4 => ?_
        have hl4n := congrArg List.length hl4
        refine nm (Fr.rS (Fr.FrB x1.P.Sign x1.P.Digits.l x1.Q.Sign x1.Q.Digits.l ∧ Fr.FrB n1 l3 (1 : Int) l4) ((Fr.fq x1.P.Sign x1.P.Digits.l x1.Q.Digits.l) * (Fr.fq n1 l3 l4)) : Int) fun n2 hn2 => ?_
        refine nm (Fr.rD (Fr.FrB x1.P.Sign x1.P.Digits.l x1.Q.Sign x1.Q.Digits.l ∧ Fr.FrB n1 l3 (1 : Int) l4) ((Fr.fq x1.P.Sign x1.P.Digits.l x1.Q.Digits.l) * (Fr.fq n1 l3 l4)) : List Int) fun l5 hl5 => ?_
        have hl5n := congrArg List.length hl5
        refine nm (Fr.rT (Fr.FrB x1.P.Sign x1.P.Digits.l x1.Q.Sign x1.Q.Digits.l ∧ Fr.FrB n1 l3 (1 : Int) l4) : Int) fun n3 hn3 => ?_
        refine nm (Fr.rE (Fr.FrB x1.P.Sign x1.P.Digits.l x1.Q.Sign x1.Q.Digits.l ∧ Fr.FrB n1 l3 (1 : Int) l4) ((Fr.fq x1.P.Sign x1.P.Digits.l x1.Q.Digits.l) * (Fr.fq n1 l3 l4)) : List Int) fun l6 hl6 => ?_
        have hl6n := congrArg List.length hl6
        refine nm (if ¬ (Fr.FrB x1.P.Sign x1.P.Digits.l x1.Q.Sign x1.Q.Digits.l ∧ Fr.FrB n1 l3 (1 : Int) l4) then (1 : Int) else 0 : Int) fun n4 hn4 => ?_
        have hxm := getD_mem (l := l) (k := k0.toNat) (by omega) hx1
        have hxr := hOk.2.1 _ hxm; have hxl := hW.2 _ hxm
        have hxl1 := hxl.1; have hxl2 := hxl.2
        have hx01 := hOk.2.one hxm
        have hflr := Fr.fl_rng (t := total) (r := Fr.qv x1) hOk.1.1 hx01.1 hx01.2
        have zt : Fr.Fz n1 l3 1 l4 ((total : Int) : Rat) := by subst_vars; exact Fr.intz total
        have hzt := zt.len (Fr.Hb.int (by omega)); have hzt1 := hzt.1; have hzt2 := hzt.2
        have zx := Fr.Fz.of ⟨hxr, zt.rt⟩ hn2 hl5 hn3 hl6
        rw [zt.v] at zx
        have zxb := (hxr.z.hb hxl.1 hxl.2).mul (Fr.Hb.int (n := total) (by omega))
        have hzx := zx.len zxb; have hzx1 := hzx.1; have hzx2 := hzx.2
        refine V.reg [.ld 3 0 true (fun _ => Dat.cells x1),
          .k (iv total),
          .ct g0 2 18 false [] [] [] (fun _ G => fint_ctv total (by omega) n1 hn1 l3 hl3 l4 hl4),
          .ct g0 3 11 false [] [] [(kx false (.f 1) x1 x1.P.Digits.l (fun _ => x1.P.Digits.s) (fun _ H (h : Dat.good H (x1 : DFrac)) => h.1)).a, (kx false (.f 1) x1 x1.Q.Digits.l (fun _ => x1.Q.Digits.s) (fun _ H (h : Dat.good H (x1 : DFrac)) => h.2)).a, (kf true (.g 2 0) l3 (fun G => (G 2).ss 0)).a, (kf true (.g 2 1) l4 (fun G => (G 2).ss 1)).a] (fun _ G => fmul_ctv x1.P.Sign x1.P.Digits.l x1.P.Digits.s x1.Q.Sign x1.Q.Digits.l x1.Q.Digits.s n1 l3 ((G 2).ss 0) (1 : Int) l4 ((G 2).ss 1) (by omega) (by omega) (by omega) (by omega) n2 hn2 l5 hl5 n3 hn3 l6 hl6 n4 hn4),
          .v fun G => .tuple #[ag (DFrac.mk (DBig.mk n2 ⟨l5, (G 3).ss 0⟩) (DBig.mk n3 ⟨l6, (G 3).ss 1⟩)), iv n4],
          .v fun G => ag (DFrac.mk (DBig.mk n2 ⟨l5, (G 3).ss 0⟩) (DBig.mk n3 ⟨l6, (G 3).ss 1⟩)),
          .k (iv n4),
          .nb 7 4 (fun b => pp b 0) 33 (fun _ => ca (DFrac.mk (DBig.mk 0 ⟨[], {}⟩) (DBig.mk 0 ⟨[], {}⟩))),
          .st 4 (fun G => .blk ((G 7).b) (ca (DFrac.mk (DBig.mk n2 ⟨l5, (G 3).ss 0⟩) (DBig.mk n3 ⟨l6, (G 3).ss 1⟩))) 33),
          .k (iv n4)] (fun _ _ => by kernel_rfl) fun _ _ G11 kw12 => ?_
        intro S11 t11
        obtain ⟨⟨kl7, -⟩, ⟨kl8, -⟩, ⟨kl9, -⟩, ⟨kl10, -⟩, -⟩ : Lq l3 (((G11 2).ss 0).v) ∧ Lq l4 (((G11 2).ss 1).v) ∧ Lq l5 (((G11 3).ss 0).v) ∧ Lq l6 (((G11 3).ss 1).v) ∧ Lq out outs.v ∧ Lq rests restss.v ∧ Lq order orders.v ∧ True := kn kw12 (by kernel_rfl)
        clear kw12
        refine nm (Bg.oS (Fr.FrB n2 l5 n3 l6) (Fr.fq n2 l5 l6).floor : Int) fun n5 hn5 => ?_
        refine nm (Bg.oD (Fr.FrB n2 l5 n3 l6) (Fr.fq n2 l5 l6).floor : List Int) fun l7 hl7 => ?_
        have hl7n := congrArg List.length hl7
        refine nm (Bg.intV n5 l7 : Int) fun n6 hn6 => ?_
        refine nm (out.getD k0.toNat default : Int) fun v1 hv1 => ?_
        refine nm (out.set k0.toNat n6 : List Int) fun l8 hl8 => ?_
        have hl8n := congrArg List.length hl8; try simp only [List.length_append, List.length_cons, List.length_nil, List.length_replicate, List.length_set, List.length_take, List.length_drop, List.length_map, List.length_reverse, List.length_range] at hl8n
        have zf := Fr.Bz.of zx.rt hn5 hl7
        rw [zx.v] at zf
        have hfl : n6 = Fr.fl total (Fr.qv x1) := by rw [hn6]; exact zf.intV (by have h1 := hflr.1; have h2 := hflr.2; unfold Fr.fl Fr.qv at h1 h2; omega)
        have hfr : 0 ≤ n6 ∧ n6 ≤ 1099511627776 := by rw [hfl]; omega
        refine V.reg [.k (outs.v),
          .k (iv k0),
          .ld 4 0 true (fun _ => Dat.cells (DFrac.mk (DBig.mk n2 ⟨l5, (G11 3).ss 0⟩) (DBig.mk n3 ⟨l6, (G11 3).ss 1⟩))),
          .ct g0 3 45 false [] [] [(kf true (.f 4) l5 (fun _ => (G11 3).ss 0)).a, (kf true (.f 5) l6 (fun _ => (G11 3).ss 1)).a] (fun _ G => ffloor_ctv n2 l5 ((G11 3).ss 0) n3 l6 ((G11 3).ss 1) (by omega) (by omega) n5 hn5 l7 hl7),
          .cp g0 4 44 [(kf true (.g 3 0) l7 (fun G => (G 3).ss 0)).a] (fun _ G => int_ctv n5 l7 ((G 3).ss 0) n6 hn6),
          .k (.tuple #[iv n6, bv (decide (Bg.inI n5 l7))]),
          .k (iv n6),
          .k (bv (decide (Bg.inI n5 l7))),
          .ix g0 (ko true 3 0 out (fun _ => outs)) k0 (fun _ => ⟨by omega, by omega⟩),
          .se g0 9 0 3 true out (fun _ => outs) k0 none v1 n6 hv1 true l8 hl8 (fun _ => ⟨by omega, by omega⟩) (fun _ => rfl) [] (fun _ _ _ _ => trivial)] (fun _ _ => by kernel_rfl) fun _ _ G12 kw13 => ?_
        intro S12 t12
        obtain ⟨⟨kl11, -⟩, -⟩ : Lq l7 (((G12 3).ss 0).v) ∧ Lq l8 outs.v ∧ Lq rests restss.v ∧ Lq order orders.v ∧ True := kn kw13 (by kernel_rfl)
        clear kw13
        refine nm (l8.getD k0.toNat default : Int) fun v2 hv2 => ?_
        refine nm (Bg.sgn v2 : Int) fun n7 hn7 => ?_
        refine nm (Bg.dig v2.natAbs : List Int) fun l9 hl9 => ?_
        have hl9n := congrArg List.length hl9
        refine nm (Fr.rS (Fr.FrB n2 l5 n3 l6 ∧ Fr.FrB n7 l9 (1 : Int) l4) ((Fr.fq n2 l5 l6) - (Fr.fq n7 l9 l4)) : Int) fun n8 hn8 => ?_
        refine nm (Fr.rD (Fr.FrB n2 l5 n3 l6 ∧ Fr.FrB n7 l9 (1 : Int) l4) ((Fr.fq n2 l5 l6) - (Fr.fq n7 l9 l4)) : List Int) fun l10 hl10 => ?_
        have hl10n := congrArg List.length hl10
        refine nm (Fr.rT (Fr.FrB n2 l5 n3 l6 ∧ Fr.FrB n7 l9 (1 : Int) l4) : Int) fun n9 hn9 => ?_
        refine nm (Fr.rE (Fr.FrB n2 l5 n3 l6 ∧ Fr.FrB n7 l9 (1 : Int) l4) ((Fr.fq n2 l5 l6) - (Fr.fq n7 l9 l4)) : List Int) fun l11 hl11 => ?_
        have hl11n := congrArg List.length hl11
        refine nm (if ¬ (Fr.FrB n2 l5 n3 l6 ∧ Fr.FrB n7 l9 (1 : Int) l4) then (1 : Int) else 0 : Int) fun n10 hn10 => ?_
        refine nm (rests.getD k0.toNat default : DFrac) fun x2 hx2 => ?_
        have hv : v2 = n6 := by rw [hv2, hl8, Fr.getD_set' (by have := hf3.ol; omega), if_pos rfl]
        have zi : Fr.Fz n7 l9 1 l4 ((v2 : Int) : Rat) := by subst_vars; exact Fr.intz _
        have hzi := zi.len (Fr.Hb.int (by omega)); have hzi1 := hzi.1; have hzi2 := hzi.2
        have zr := Fr.Fz.of ⟨zx.rt, zi.rt⟩ hn8 hl10 hn9 hl11
        rw [zx.v, zi.v, hv, hfl] at zr
        have zrb := Fr.Hb.sub zxb (Fr.Hb.int (n := Fr.fl total (Fr.qv x1)) (by omega))
        have hzr := zr.len (zrb.mono (show _ ≤ 2000000 by omega))
        refine V.reg [.ld 2 0 false (fun _ => [restss.v]),
          .k (iv k0),
          .ld 4 0 true (fun _ => Dat.cells (DFrac.mk (DBig.mk n2 ⟨l5, (G11 3).ss 0⟩) (DBig.mk n3 ⟨l6, (G11 3).ss 1⟩))),
          .k (outs.v),
          .k (iv k0),
          .ix g0 (ko true 3 0 l8 (fun _ => outs)) k0 (fun _ => ⟨by omega, by omega⟩),
          .le g0 (ko true 3 0 l8 (fun _ => outs)) k0 none false v2 hv2 (fun _ => ⟨by omega, by omega⟩) false (fun _ => [iv v2]),
          .ct g0 7 18 false [] [] [] (fun _ G => fint_ctv v2 (by omega) n7 hn7 l9 hl9 l4 hl4),
          .ct g0 8 46 false [] [] [(kf true (.f 4) l5 (fun _ => (G11 3).ss 0)).a, (kf true (.f 5) l6 (fun _ => (G11 3).ss 1)).a, (kf true (.g 7 0) l9 (fun G => (G 7).ss 0)).a, (kf true (.g 7 1) l4 (fun G => (G 7).ss 1)).a] (fun _ G => fsub_ctv n2 l5 ((G11 3).ss 0) n3 l6 ((G11 3).ss 1) n7 l9 ((G 7).ss 0) (1 : Int) l4 ((G 7).ss 1) (by omega) (by omega) (by omega) (by omega) n8 hn8 l10 hl10 n9 hn9 l11 hl11 n10 hn10),
          .v fun G => .tuple #[ag (DFrac.mk (DBig.mk n8 ⟨l10, (G 8).ss 0⟩) (DBig.mk n9 ⟨l11, (G 8).ss 1⟩)), iv n10],
          .v fun G => ag (DFrac.mk (DBig.mk n8 ⟨l10, (G 8).ss 0⟩) (DBig.mk n9 ⟨l11, (G 8).ss 1⟩)),
          .k (iv n10),
          .ix g0 (ko true 33 1 rests (fun _ => restss)) k0 (fun _ => ⟨by omega, by omega⟩),
          .seG g0 13 1 33 true rests (fun _ => restss) k0 none x2 (fun G => (DFrac.mk (DBig.mk n8 ⟨l10, (G 8).ss 0⟩) (DBig.mk n9 ⟨l11, (G 8).ss 1⟩) : DFrac)) hx2 true (fun _ => ⟨by omega, by omega⟩) (fun _ => rfl) [(kf true (.g 8 0) l10 (fun G => (G 8).ss 0)).a, (kf true (.g 8 1) l11 (fun G => (G 8).ss 1)).a] (fun _ _ ho h => (And.intro h.1 h.2.1))] (fun _ _ => by kernel_rfl) fun _ _ G13 kw14 => ?_
        intro S13 t13
        obtain ⟨⟨kl12, -⟩, ⟨kl13, -⟩, ⟨kl14, -⟩, ⟨kl15, -⟩, -⟩ : Lq l9 (((G13 7).ss 0).v) ∧ Lq l4 (((G13 7).ss 1).v) ∧ Lq l10 (((G13 8).ss 0).v) ∧ Lq l11 (((G13 8).ss 1).v) ∧ Lq l8 outs.v ∧ Lq (rests.set k0.toNat (DFrac.mk (DBig.mk n8 ⟨l10, (G13 8).ss 0⟩) (DBig.mk n9 ⟨l11, (G13 8).ss 1⟩))) restss.v ∧ Lq order orders.v ∧ True := kn kw14 (by kernel_rfl)
        clear kw14
        refine nm (order ++ [k0] : List Int) fun l12 hl12 => ?_
        have hl12n := congrArg List.length hl12; try simp only [List.length_append, List.length_cons, List.length_nil, List.length_replicate, List.length_set, List.length_take, List.length_drop, List.length_map, List.length_reverse, List.length_range] at hl12n
        refine V.reg [.k (orders.v),
          .k (iv k0),
          .nr 2 true 3 [k0] [] (fun _ _ _ _ _ => trivial) (fun _ => #[iv k0]),
          .ap 3 5 3 8 false true order (fun _ => orders) (kf true (.g 2 0) [k0] (fun G => ⟨atB (G 2).b, 1, 1⟩)) true l12 hl12 (by (try simp only [List.length_append, List.length_cons, List.length_nil, List.length_replicate, List.length_set, List.length_take, List.length_drop, List.length_map, List.length_reverse, List.length_range]); omega) (fun h => by cases h) (.inr fun _ _ => trivial),
          .v fun G => ((G 3).s).v] (fun _ _ => by kernel_rfl) fun _ _ G14 kw15 => ?_
        intro S14 t14
        obtain ⟨⟨kl16, -⟩, -⟩ : Lq [k0] (SV.v ⟨atB (G14 2).b, 1, 1⟩) ∧ Lq l8 outs.v ∧ Lq (rests.set k0.toNat (DFrac.mk (DBig.mk n8 ⟨l10, (G13 8).ss 0⟩) (DBig.mk n9 ⟨l11, (G13 8).ss 1⟩))) restss.v ∧ Lq l12 (((G14 3).s).v) ∧ True := kn kw15 (by kernel_rfl)
        clear kw15
        refine V.go [.k (iv left),
          .k (outs.v),
          .k (iv k0),
          .ix g0 (ko true 3 0 l8 (fun _ => outs)) k0 (fun _ => ⟨by omega, by omega⟩),
          .le g0 (ko true 3 0 l8 (fun _ => outs)) k0 none false v2 hv2 (fun _ => ⟨by omega, by omega⟩) false (fun _ => [iv v2]),
          .a (left - v2) (by omega) (by omega),
          .k (iv (left - v2))] (fun _ _ => by kernel_rfl) fun _ _ G15 => ?_
        intro S15 t15
        refine V.go [.a (k0 + 1) (by omega) (by omega),
          .k (iv (k0 + 1))] (fun _ _ => by kernel_rfl) fun _ _ G16 => ?_
        intro S16 t16
        refine V.rnd hZ1 (l8, outs, l12, (G14 3).s, left - v2, k0 + 1, rests.set k0.toNat (DFrac.mk (DBig.mk n8 ⟨l10, (G13 8).ss 0⟩) (DBig.mk n9 ⟨l11, (G13 8).ss 1⟩)), restss) [0] (by kernel_rfl) ?_ ?_
        · skip
          refine ⟨?_, ?_, ?_⟩
          · show 0 ≤ (k0 + 1)
            first | omega | rfl | (simp; done) | (subst_vars; simp; done)
          · show (k0 + 1) ≤ (l.length : Int)
            first | omega | rfl | (simp; done) | (subst_vars; simp; done)
          · show Fr.RI total l l8 (rests.set k0.toNat (DFrac.mk (DBig.mk n8 ⟨l10, (G13 8).ss 0⟩) (DBig.mk n9 ⟨l11, (G13 8).ss 1⟩))) l12 (left - v2) (k0 + 1).toNat
            have hk : ((k0.toNat : Nat) : Int) = k0 := by omega
            have hst := Fr.RI.step (y := (DFrac.mk (DBig.mk n8 ⟨l10, (G13 8).ss 0⟩) (DBig.mk n9 ⟨l11, (G13 8).ss 1⟩))) hf3 (by omega) hx1 hfl zr.rt hzr zr.v hfr
            rw [hk] at hst
            rw [hv]
            rw [hl8, hl12, show (k0 + 1).toNat = k0.toNat + 1 by omega]; exact hst
        · show ((l.length : Int) - (k0 + 1)).toNat < ((l.length : Int) - k0).toNat
          omega
      · skip
        have hE := hf3.end (by omega)
        have hrl : rests.length = l.length := by have := congrArg List.length hE.rq; simpa using this
        have hodl : order.length = rests.length := by rw [hE.od, Fr.iota_len, List.length_map]
        have hL := Fr.left_rng (t := total) (q := l.map Fr.qv) hOk.2.2.2
        rw [← hE.lf, List.length_map] at hL
        have hL1 := hL.1; have hL2 := hL.2.1
        have hOr : (Fr.ord (rests.map Fr.qv)).length = l.length := by rw [Fr.ord_len, List.length_map, hrl]
        refine V.frz 1 true 33 rests restss (by kernel_rfl) ?_
        refine V.frzB 2 ((G5 3).b) #[restss.v] 22 (⟨rests, restss⟩ : Fat DFrac) true 1 (fs true rests restss) (by kernel_rfl) (fun _ h => h) ?_
        refine V.go [.k (orders.v),
          .k (.func (.func 48) #[] #[pp ((G5 3).b) 0]),
          .ct g0 2 47 false [5] [] [(kf true (.f 2) ([⟨rests, restss⟩] : List (Fat DFrac)) (fun _ => ⟨atB (G5 3).b, 1, 1⟩)).a] (fun _ G => sorts_ct order orders ((G5 3).b) rests restss (fun x hx => hE.r x hx) hodl (by omega) (by have h := hE.od; rw [List.length_map] at h; exact h))] (fun _ _ => by kernel_rfl) fun _ _ G17 => ?_
        intro S17 t17
        refine nm ((Fr.ord (rests.map Fr.qv)).take left.toNat : List Int) fun l13 hl13 => ?_
        have hl13n := congrArg List.length hl13; try simp only [List.length_append, List.length_cons, List.length_nil, List.length_replicate, List.length_set, List.length_take, List.length_drop, List.length_map, List.length_reverse, List.length_range] at hl13n
        refine V.go [.k (orders.v),
          .k (iv left),
          .fro 2 5 3 true (Fr.ord (rests.map Fr.qv)) (fun _ => orders) left l13 hl13 (by omega) (by omega),
          .ln (ko true 3 5 l13 (fun _ => (orders.sub 1 0 left.toNat))),
          .k (iv 0)] (fun _ _ => by kernel_rfl) fun _ _ G18 => ?_
        intro S18 t18
        refine V.loop (γ := List Int × SV × Int) (fun ⟨out2, out2s, k1⟩ => ⟨[(6, out2s.v), (86, (orders.sub 1 0 left.toNat).v), (87, iv (l13.length : Int)), (88, iv k1)], [], [os true 3 out2 out2s, .no, .no, .no, .no, os true 3 l13 (orders.sub 1 0 left.toNat)]⟩) (fun ⟨out2, out2s, k1⟩ => (0 ≤ k1) ∧ (k1 ≤ (l13.length : Int)) ∧ (out2 = Fr.bump out (l13.take k1.toNat))) (fun ⟨out2, out2s, k1⟩ => ((l13.length : Int) - k1).toNat) (out, outs, 0) (by kernel_rfl) [] (by kernel_rfl) ?_ ?_
        · skip
          refine ⟨?_, ?_, ?_⟩
          · show 0 ≤ (0 : Int)
            first | omega | rfl | (simp; done) | (subst_vars; simp; done)
          · show (0 : Int) ≤ (l13.length : Int)
            first | omega | rfl | (simp; done) | (subst_vars; simp; done)
          · show out = Fr.bump out (l13.take (0 : Int).toNat)
            rfl
        · rintro ⟨out2, out2s, k1⟩ hF2 kw20 Z2 hZ2
          have hF2 : (0 ≤ k1) ∧ (k1 ≤ (l13.length : Int)) ∧ (out2 = Fr.bump out (l13.take k1.toNat)) := hF2
          obtain ⟨hf4, hf5, hf6⟩ := hF2
          obtain ⟨⟨kl17, -⟩, -, -⟩ : Lq out2 out2s.v ∧ Lq l13 ((orders.sub 1 0 left.toNat).v) ∧ True := kn kw20 (by kernel_rfl)
          clear kw20
          have hol : out2.length = l.length := by rw [hf6, Fr.bump_len, hE.o]; simp
          refine V.go [.k (bv (decide (k1 < (l13.length : Int))))] (fun _ _ => by kernel_rfl) fun _ _ G19 => ?_
          intro S19 t19
          refine V.cond (b := decide (k1 < (l13.length : Int))) iDT iDF (by kernel_rfl) (fun q5 => ?_) (fun q6 => ?_)
          · skip
            refine nm (l13.getD k1.toNat default : Int) fun v3 hv3 => ?_
            have hvm : v3 ∈ l13 := getD_mem (by omega) hv3
            have hvo : 0 ≤ v3 ∧ v3 < (l.length : Int) := by rw [hl13] at hvm; have := Fr.ord_mem.1 (List.mem_of_mem_take hvm); rw [List.length_map, hrl] at this; exact this
            refine V.go [.ix g0 (ko true 3 5 l13 (fun _ => (orders.sub 1 0 left.toNat))) k1 (fun _ => ⟨by omega, by omega⟩),
              .le g0 (ko true 3 5 l13 (fun _ => (orders.sub 1 0 left.toNat))) k1 none false v3 hv3 (fun _ => ⟨by omega, by omega⟩) false (fun _ => [iv v3]),
              .k (iv v3)] (fun _ _ => by kernel_rfl) fun _ _ G20 => ?_
            intro S20 t20
            refine nm (out2.getD v3.toNat default : Int) fun v4 hv4 => ?_
            refine nm (out2.set v3.toNat (v4 + 1) : List Int) fun l14 hl14 => ?_
            have hl14n := congrArg List.length hl14; try simp only [List.length_append, List.length_cons, List.length_nil, List.length_replicate, List.length_set, List.length_take, List.length_drop, List.length_map, List.length_reverse, List.length_range] at hl14n
            have hwr := Fr.bump_rng (o := out) (l := l13.take k1.toNat) (b := 1099511627776) (fun x hx => by rw [hE.o] at hx; obtain ⟨r, hr, rfl⟩ := List.mem_map.1 hx; obtain ⟨y, hy, rfl⟩ := List.mem_map.1 hr; have h01 := hOk.2.one hy; have := Fr.fl_rng (t := total) hOk.1.1 h01.1 h01.2; omega) (fun i hi => by have h1 := List.mem_of_mem_take hi; rw [hl13] at h1; have := Fr.ord_mem.1 (List.mem_of_mem_take h1); rw [List.length_map, hrl] at this; rw [hE.o]; simpa using this) v4 (by rw [← hf6]; exact getD_mem (by omega) hv4)
            have htl : (l13.take k1.toNat).length ≤ l13.length := by rw [List.length_take]; omega
            refine V.go [.k (out2s.v),
              .k (iv v3),
              .ix g0 (ko true 3 0 out2 (fun _ => out2s)) v3 (fun _ => ⟨by omega, by omega⟩),
              .le g0 (ko true 3 0 out2 (fun _ => out2s)) v3 none false v4 hv4 (fun _ => ⟨by omega, by omega⟩) false (fun _ => [iv v4]),
              .a (v4 + 1) (by omega) (by omega),
              .ix g0 (ko true 3 0 out2 (fun _ => out2s)) v3 (fun _ => ⟨by omega, by omega⟩),
              .se g0 6 0 3 true out2 (fun _ => out2s) v3 none v4 (v4 + 1) hv4 true l14 hl14 (fun _ => ⟨by omega, by omega⟩) (fun _ => rfl) [] (fun _ _ _ _ => trivial)] (fun _ _ => by kernel_rfl) fun _ _ G21 => ?_
            intro S21 t21
            refine V.go [.a (k1 + 1) (by omega) (by omega),
              .k (iv (k1 + 1))] (fun _ _ => by kernel_rfl) fun _ _ G22 => ?_
            intro S22 t22
            refine V.rnd hZ2 (l14, out2s, k1 + 1) [] (by kernel_rfl) ?_ ?_
            · skip
              refine ⟨?_, ?_, ?_⟩
              · show 0 ≤ (k1 + 1)
                first | omega | rfl | (simp; done) | (subst_vars; simp; done)
              · show (k1 + 1) ≤ (l13.length : Int)
                first | omega | rfl | (simp; done) | (subst_vars; simp; done)
              · show l14 = Fr.bump out (l13.take (k1 + 1).toNat)
                rw [hl14, show (k1 + 1).toNat = k1.toNat + 1 by omega, Fr.take_step (by omega), Fr.bump_snoc, ← hf6, ← hv3]
                rw [← hv4]
            · show ((l13.length : Int) - (k1 + 1)).toNat < ((l13.length : Int) - k1).toNat
              omega
          · skip
            refine V.go [.k (out2s.v),
              .k (out2s.v),
              .k (iv 0)] (fun _ _ => by kernel_rfl) fun _ _ G23 => ?_
            intro S23 t23
            refine V.frz 0 true 3 out2 out2s (by kernel_rfl) ?_
            have e0 : out2 = Fr.rndL total l := by
              rw [Fr.rndL_y hOk, hf6]; unfold Fr.rndQ; rw [← hE.o, ← hE.rq, ← hE.lf, hl13, List.take_of_length_le (by simp only [List.length_take]; omega)]
            subst e0
            have e1 : (0 : Int) = if Fr.rndOk total l then (0 : Int) else 1 := by
              exact (if_pos hOk).symm
            exact V.ret [0, 0] [out2s] [fun _ => {}] [] [0] [] (.tuple #[out2s.v, iv 0]) (fun _ _ => by kernel_rfl) (fun _ _ => (Eq.trans (by kernel_rfl) (cong1 (fun (x1 : Int) => (.tuple #[out2s.v, iv x1] : Value)) e1)).trans (by kernel_rfl)) (fun _ _ => trivial)
theorem round_ctv (total : Int) (l : List DFrac) (ls : SV) (hW : Fr.Wb l) (hl : l.length ≤ 20) (rv0 : List Int) (erv0 : rv0 = Fr.rndL total l) (rv1 : Int) (erv1 : rv1 = if Fr.rndOk total l then (0 : Int) else 1) :
    Ct Try.prog 15 #[iv total, ls.v] [fs true l ls] [] (fun g => .tuple #[((g.ss 0)).v, iv rv1]) (fun g => [fs true rv0 (g.ss 0)]) (fun g => []) (fun g => []) := by
  subst erv0 erv1; exact round_ct total l ls hW hl

end Kb
set_option linter.unusedVariables false
set_option linter.unusedSectionVars false
set_option linter.unusedSimpArgs false
namespace Kb
namespace Fr
open Bg
def shEq (m : List Rat) : Int := if m = [] then 1 else if m.any (fun r => decide (r < 0)) = true then 3 else if sumQ m = 0 then 15 else 0
def shQq (m : List Rat) : List Rat := if shEq m = 0 then m.map (fun r => r / sumQ m) else []
def rndOkq (t : Int) (m : List Rat) : Prop := (0 ≤ t ∧ t ≤ 1099511627776) ∧ (∀ r ∈ m, 0 ≤ r) ∧ sumQ m = 1
instance (t : Int) (m : List Rat) : Decidable (rndOkq t m) := by unfold rndOkq; infer_instance
def rndLq (t : Int) (m : List Rat) : List Int := if rndOkq t m then rndQ t m else []
theorem Frs.cons {x : DFrac} {r : Rat} {l : List DFrac} {m : List Rat} (hx : rt x) (e : qv x = r) (h : Frs l m) : Frs (x :: l) (r :: m) :=
  ⟨fun y hy => by rcases List.mem_cons.1 hy with rfl | hy; exact hx; exact h.1 y hy, by rw [List.map_cons, e, h.2]⟩
theorem Frs.sum {l : List DFrac} {m : List Rat} (h : Frs l m) : sumW l = sumQ m := by unfold sumW; rw [h.2]
theorem Frs.nilI {l : List DFrac} {m : List Rat} (h : Frs l m) : l = [] ↔ m = [] := by
  rw [← List.length_eq_zero_iff, ← List.length_eq_zero_iff, ← h.2, List.length_map]
theorem Frs.len {l : List DFrac} {m : List Rat} (h : Frs l m) : l.length = m.length := by rw [← h.2, List.length_map]
theorem shE_q {l : List DFrac} {m : List Rat} (h : Frs l m) : shE l = shEq m := by
  have hw : l.any wrongB = false := anyW.2 h.1
  have hn : l.any negB = m.any (fun r => decide (r < 0)) := by
    rw [← h.2, List.any_map]
    have key : ∀ l : List DFrac, (∀ x ∈ l, rt x) → l.any negB = l.any ((fun r => decide (r < 0)) ∘ qv) := fun l => by
      induction l with
      | nil => intro _; rfl
      | cons x l ih =>
        intro hl
        rw [List.any_cons, List.any_cons, ih fun y hy => hl y (List.mem_cons_of_mem _ hy), negB_is (hl x List.mem_cons_self)]; rfl
    exact key l h.1
  unfold shE shEq
  rw [h.sum]
  by_cases e : l = []
  · rw [if_pos (.inl e), if_pos (h.nilI.1 e)]
  · rw [if_neg (by rw [hw]; simp [e]), if_neg fun k => e (h.nilI.2 k), hn]
theorem shQ_q {l : List DFrac} {m : List Rat} (h : Frs l m) : shQ l = shQq m := by
  unfold shQ shQq
  rw [shE_q h, h.sum, ← h.2, List.map_map]; rfl
theorem rndOk_q {t : Int} {l : List DFrac} {m : List Rat} (h : Frs l m) : rndOk t l ↔ rndOkq t m := by
  unfold rndOk rndOkq isSh
  rw [h.sum]
  refine and_congr_right fun _ => ⟨fun k => ⟨fun r hr => ?_, k.2.2⟩, fun k => ⟨h.1, fun x hx => ?_, k.2⟩⟩
  · rw [← h.2] at hr; obtain ⟨x, hx, rfl⟩ := List.mem_map.1 hr; exact k.2.1 x hx
  · exact k.1 _ (by rw [← h.2]; exact List.mem_map_of_mem hx)
theorem rndL_q {t : Int} {l : List DFrac} {m : List Rat} (h : Frs l m) : rndL t l = rndLq t m := by
  unfold rndL rndLq
  rw [h.2]
  by_cases e : rndOk t l
  · rw [if_pos e, if_pos ((rndOk_q h).1 e)]
  · rw [if_neg e, if_neg fun k => e ((rndOk_q h).2 k)]
def sh4 (x : DFrac) : Int × List Int × Int × List Int := (x.P.Sign, x.P.Digits.l, x.Q.Sign, x.Q.Digits.l)
theorem Frs.same {l m : List DFrac} {a : List Rat} (h : Frs l a) (k : Frs m a) : l.map sh4 = m.map sh4 := Frs.eq_of h k
theorem Frs.same_iff {l m : List DFrac} {a b : List Rat} (h : Frs l a) (k : Frs m b) : l.map sh4 = m.map sh4 ↔ a = b := by
  refine ⟨fun e => ?_, fun e => by subst e; exact h.same k⟩
  have e2 := congrArg (List.map fun (q : Int × List Int × Int × List Int) => fq q.1 q.2.1 q.2.2.2) e
  rw [List.map_map, List.map_map] at e2
  have e3 : ∀ l : List DFrac, l.map ((fun (q : Int × List Int × Int × List Int) => fq q.1 q.2.1 q.2.2.2) ∘ sh4) = l.map qv := fun l => rfl
  rw [e3, e3, h.2, k.2] at e2
  exact e2
theorem sh4_get {a b : List DFrac} {k : Nat} (h1 : k < a.length) (h2 : k < b.length) (h : a.map sh4 = b.map sh4) : sh4 (a.getD k default) = sh4 (b.getD k default) := by
  have := congrArg (fun l => l[k]?) h
  simp only [List.getElem?_map, List.getElem?_eq_getElem h1, List.getElem?_eq_getElem h2, Option.map_some, Option.some.injEq] at this
  rw [List.getD_eq_getElem?_getD, List.getD_eq_getElem?_getD, List.getElem?_eq_getElem h1, List.getElem?_eq_getElem h2]; exact this
theorem sh4_eq {a b : List DFrac} (hl : a.length = b.length) (h : ∀ k, k < a.length → sh4 (a.getD k default) = sh4 (b.getD k default)) : a.map sh4 = b.map sh4 := by
  refine List.ext_getElem? fun k => ?_
  rw [List.getElem?_map, List.getElem?_map]
  by_cases hk : k < a.length
  · have := h k hk
    rw [List.getD_eq_getElem?_getD, List.getD_eq_getElem?_getD, List.getElem?_eq_getElem hk, List.getElem?_eq_getElem (by omega)] at this
    rw [List.getElem?_eq_getElem hk, List.getElem?_eq_getElem (by omega)]; exact congrArg some this
  · rw [List.getElem?_eq_none (by omega), List.getElem?_eq_none (by omega)]
-- ---- limits
instance (l : List DFrac) : Decidable (∀ x ∈ l, ln 6 x) := by unfold ln; infer_instance
def few30 (l : List DFrac) : Prop := l.length ≤ 20 ∧ ∀ x ∈ l, ln 6 x
instance (l : List DFrac) : Decidable (few30 l) := by unfold few30; infer_instance
theorem few30_wb {l : List DFrac} (h : few30 l) : Wb l := ⟨by have := h.1; omega, fun x hx => by have := h.2 x hx; unfold ln at this ⊢; omega⟩
theorem few30_no {l : List DFrac} {k : Nat} {x : DFrac} (hk : k < l.length) (hx : x = l.getD k default) (h : ¬ ((x.P.Digits.l.length : Int) ≤ 6 ∧ (x.Q.Digits.l.length : Int) ≤ 6)) : ¬ few30 l := fun f => by
  have := f.2 x (getD_mem hk hx); unfold ln at this; omega
theorem few30_yes {l : List DFrac} (h : l.length ≤ 20) (hs : ∀ i, i < l.length → ln 6 (l.getD i default)) : few30 l := ⟨h, fun x hx => by
  obtain ⟨i, hi, rfl⟩ := List.getElem_of_mem hx
  have := hs i hi
  rw [List.getD_eq_getElem?_getD, List.getElem?_eq_getElem hi] at this; exact this⟩
theorem shQ_hb {l : List DFrac} (h : few30 l) (he : shE l = 0) : ∀ r ∈ shQ l, Hb r 147 := fun r hr => by
  obtain ⟨_, hr1, _, _⟩ := shE_is he
  rw [shQ_y he] at hr
  obtain ⟨x, hx, rfl⟩ := List.mem_map.1 hr
  have h1 : ∀ r ∈ l.map qv, Hb r 6 := fun r hr' => by
    obtain ⟨y, hy, rfl⟩ := List.mem_map.1 hr'
    exact (hr1 y hy).z.hb (h.2 y hy).1 (h.2 y hy).2
  have h2 := sumQ_hb h1
  have h3 : Hb (sumW l) 141 := h2.mono (by rw [List.length_map]; have := h.1; have := Nat.mul_le_mul_right (6 + 1) this; omega)
  exact (h1 _ (List.mem_map_of_mem hx)).div h3
theorem shQ_len {l : List DFrac} (he : shE l = 0) : (shQ l).length = l.length := by rw [shQ_y he, List.length_map]
theorem sumQ_div (s : Rat) : ∀ l : List Rat, sumQ (l.map fun r => r / s) = sumQ l / s
  | [] => by show (0 : Rat) = 0 / s; rw [Rat.div_def, Rat.zero_mul]
  | x :: l => by
    rw [List.map_cons, sumQ_cons, sumQ_cons, sumQ_div s l, Rat.div_def, Rat.div_def, Rat.div_def, Rat.add_mul]
theorem shQ_sum {l : List DFrac} (he : shE l = 0) : sumQ (shQ l) = 1 := by
  obtain ⟨_, _, _, h0⟩ := shE_is he
  rw [shQ_y he]
  have := sumQ_div (sumW l) (l.map qv)
  rw [List.map_map] at this
  rw [show (fun x => qv x / sumW l) = (fun r => r / sumW l) ∘ qv from rfl, this]
  show sumW l / sumW l = 1
  rw [Rat.div_def]; exact Rat.mul_inv_cancel _ h0
theorem sumW_pos {l : List DFrac} (he : shE l = 0) : 0 < sumW l := by
  obtain ⟨hn, hr, h1, h0⟩ := shE_is he
  cases l with
  | nil => exact (hn rfl).elim
  | cons x l =>
    have := (mem_le_sumQ (l := (x :: l).map qv) (x := qv x) (fun y hy => by obtain ⟨z, hz, rfl⟩ := List.mem_map.1 hy; exact h1 z hz) (by simp)).2
    exact Rat.lt_of_le_of_ne this fun e => h0 e.symm
theorem shQ_nonneg {l : List DFrac} (he : shE l = 0) : ∀ r ∈ shQ l, 0 ≤ r := fun r hr => by
  have hp := sumW_pos he
  obtain ⟨hn, hr1, h1, h0⟩ := shE_is he
  rw [shQ_y he] at hr
  obtain ⟨x, hx, rfl⟩ := List.mem_map.1 hr
  rw [Rat.div_def]
  exact Rat.mul_nonneg (h1 x hx) (Rat.le_of_lt (Rat.inv_pos.2 hp))
theorem shQ_ok {l : List DFrac} (he : shE l = 0) {σ : Nat → SV} {t : Int} (ht : 0 ≤ t ∧ t ≤ 1099511627776) : rndOk t (frs (shQ l) σ) := by
  rw [rndOk_q (Frs.of (shQ l) σ)]
  exact ⟨ht, shQ_nonneg he, shQ_sum he⟩
theorem shQ_wb {l : List DFrac} (h : few30 l) (he : shE l = 0) (σ : Nat → SV) : Wb (frs (shQ l) σ) := by
  refine ⟨by rw [frs_len, shQ_len he]; have := h.1; omega, fun x hx => ?_⟩
  have := frs_ln (fun r hr => (shQ_hb h he r hr).mono (show 147 ≤ 1000000 by omega)) x hx
  exact this
-- ---- what 'whole' looks at
structure WholeP (t : Int) (l : List Int) (sh : List DFrac) : Prop where
  len : l.length = sh.length
  rt : ∀ x ∈ sh, rt x
  wb : Wb sh
  t0 : 0 ≤ t ∧ t ≤ 1099511627776
  n : ∀ j, j < l.length → (0 ≤ l.getD j default ∧ l.getD j default ≤ t + 1000) ∧ ((l.getD j default - 1 : Int) : Rat) < qv (sh.getD j default) * t ∧ qv (sh.getD j default) * t < ((l.getD j default + 1 : Int) : Rat)
  sum : sumI l = t
theorem sumI_take {l : List Int} {k : Nat} (h : k < l.length) : sumI (l.take (k + 1)) = sumI (l.take k) + l.getD k default := by
  rw [take_step h, sumI_app]; simp [sumI]
theorem whole_of {t : Int} {l : List DFrac} (hb : Wb l) (h : rndOk t l) : WholeP t (rndL t l) l := by
  have hs : sumQ (l.map qv) = 1 := h.2.2.2
  rw [rndL_y h]
  refine ⟨by rw [rnd_len, List.length_map], h.2.1, hb, h.1, fun j hj => ?_, rnd_sum hs⟩
  rw [rnd_len, List.length_map] at hj
  have hx : qv (l.getD j default) = (l.map qv).getD j 0 := (getD_qv hj).symm
  have h01 := h.2.one (getD_mem hj rfl : l.getD j default ∈ l)
  rw [hx] at h01 ⊢
  have hf := fl_rng (t := t) h.1.1 h01.1 h01.2
  refine ⟨?_, rnd_near hs (by simpa using hj)⟩
  rw [rnd_get (by simpa using hj)]
  split <;> omega
structure FairP (n : List Int) (sh : List DFrac) : Prop where
  rt : ∀ x ∈ sh, rt x
  wb : Wb sh
  len : n.length = sh.length
  b : ∀ x ∈ n, 0 ≤ x ∧ x ≤ 1099511628777
  f : ∀ i k, i < n.length → k < n.length → (qv (sh.getD k default) < qv (sh.getD i default) → n.getD k default ≤ n.getD i default) ∧ (qv (sh.getD i default) = qv (sh.getD k default) → n.getD i default - n.getD k default ≤ 1 ∧ (i < k → n.getD k default ≤ n.getD i default))
theorem fair_of {t : Int} {l : List DFrac} (hb : Wb l) (h : rndOk t l) : FairP (rndL t l) l := by
  have hw := whole_of hb h
  refine ⟨h.2.1, hb, hw.len, fun x hx => ?_, fun i k hi hk => ?_⟩
  · obtain ⟨j, hj, rfl⟩ := List.getElem_of_mem hx
    have := (hw.n j hj).1
    rw [List.getD_eq_getElem?_getD, List.getElem?_eq_getElem hj] at this
    have := h.1; simp only [Option.getD_some] at *; omega
  · rw [rndL_y h] at hi hk ⊢
    rw [rnd_len, List.length_map] at hi hk
    rw [← getD_qv hi, ← getD_qv hk]
    exact rnd_fair h.1.1 (by simpa using hi) (by simpa using hk)
theorem cmpQ_pos {a b : Rat} : 0 < cmpQ a b ↔ b < a := by
  unfold cmpQ
  by_cases h : a < b
  · rw [if_pos h]; exact ⟨fun k => by omega, fun k => (Rat.not_lt.2 (Rat.le_of_lt h) k).elim⟩
  · rw [if_neg h]
    by_cases e : a = b
    · rw [if_pos e]; exact ⟨fun k => by omega, fun k => by subst e; exact (Rat.lt_irrefl k).elim⟩
    · rw [if_neg e]; exact ⟨fun _ => Rat.lt_of_le_of_ne (Rat.not_lt.1 h) fun k => e k.symm, fun _ => by omega⟩
theorem cmpQ_zero {a b : Rat} : cmpQ a b = 0 ↔ a = b := by
  unfold cmpQ
  by_cases h : a < b
  · rw [if_pos h]; exact ⟨fun k => by omega, fun k => by subst k; exact (Rat.lt_irrefl h).elim⟩
  · rw [if_neg h]
    by_cases e : a = b
    · rw [if_pos e]; exact ⟨fun _ => e, fun _ => rfl⟩
    · rw [if_neg e]; exact ⟨fun k => by omega, fun k => (e k).elim⟩
instance (r : Rat) (k : Nat) : Decidable (Hb r k) := by unfold Hb; infer_instance
theorem Frs.wb {l : List DFrac} {m : List Rat} (h : Frs l m) (hl : m.length ≤ 1000) (hb : ∀ r ∈ m, Hb r 100) : Wb l :=
  ⟨by rw [h.len]; exact hl, fun x hx => (h.1 x hx).z.len ((hb (qv x) (by rw [← h.2]; exact List.mem_map_of_mem hx)).mono (by omega))⟩
theorem Frs.sm {a b : List DFrac} {m m' : List Rat} (h : Frs a m) (k : Frs b m') (e : m = m') : a.map sh4 = b.map sh4 := by subst e; exact h.same k
/-- a share -/
theorem shQ_get {l : List DFrac} (he : shE l = 0) (σ : Nat → SV) {i : Nat} (h : i < l.length) : qv ((frs (shQ l) σ).getD i default) = qv (l.getD i default) / sumW l := by
  rw [← getD_qv (by rw [frs_len, shQ_len he]; exact h), frs_qv, shQ_y he, List.getD_eq_getElem?_getD, List.getElem?_map, List.getElem?_eq_getElem h, List.getD_eq_getElem?_getD, List.getElem?_eq_getElem h]; rfl
theorem prop_is {l : List DFrac} (he : shE l = 0) (σ : Nat → SV) {i k : Nat} (hi : i < l.length) (hk : k < l.length) : qv ((frs (shQ l) σ).getD i default) * qv (l.getD k default) = qv ((frs (shQ l) σ).getD k default) * qv (l.getD i default) := by
  rw [shQ_get he σ hi, shQ_get he σ hk, Rat.div_def, Rat.div_def]; grind
end Fr
end Kb
set_option linter.unusedVariables false
set_option linter.unusedSectionVars false
set_option linter.unusedSimpArgs false
namespace Kb
open Go Go.Proofs
set_option maxRecDepth 10000 in
theorem few5_ct (f_P_Sign : Int) (f_P_Digits : List Int) (f_P_Digitss : SV) (f_Q_Sign : Int) (f_Q_Digits : List Int) (f_Q_Digitss : SV) (n : Int) :
    Cp Try.prog 32 #[ag (DFrac.mk (DBig.mk f_P_Sign ⟨f_P_Digits, f_P_Digitss⟩) (DBig.mk f_Q_Sign ⟨f_Q_Digits, f_Q_Digitss⟩)), iv n] [fs true f_P_Digits f_P_Digitss, fs true f_Q_Digits f_Q_Digitss] (bv (decide ((f_P_Digits.length : Int) ≤ n ∧ (f_Q_Digits.length : Int) ≤ n))) := by
  refine V.fn mo Try.func32 19 1 (by kernel_rfl) fun w H ε k0 => ?_
  obtain ⟨⟨kl1, -⟩, ⟨kl2, -⟩, -⟩ : Lq f_P_Digits f_P_Digitss.v ∧ Lq f_Q_Digits f_Q_Digitss.v ∧ True := kn k0 (by kernel_rfl)
  clear k0
  refine V.go [.nb 0 0 (fun b => pp b 0) 33 (fun _ => ca (DFrac.mk (DBig.mk f_P_Sign ⟨f_P_Digits, f_P_Digitss⟩) (DBig.mk f_Q_Sign ⟨f_Q_Digits, f_Q_Digitss⟩))),
    .kb false] (fun _ _ => by kernel_rfl) fun _ _ G1 => ?_
  intro S1 t1
  refine nm ((decide ((f_P_Digits.length : Int) ≤ n)) && (decide ((f_Q_Digits.length : Int) ≤ n)) : Bool) fun p1 hp1 => ?_
  refine V.go [.k (pp ((G1 0).b) 0),
    .k (pp ((G1 0).b) 1),
    .ld 0 1 false (fun _ => [f_P_Digitss.v]),
    .ln (kf false (.f 0) f_P_Digits (fun _ => f_P_Digitss)),
    .k (iv n),
    .k (bv (decide ((f_P_Digits.length : Int) ≤ n))),
    .k (bv (decide ((f_P_Digits.length : Int) ≤ n))),
    .k (pp ((G1 0).b) 2),
    .k (pp ((G1 0).b) 3),
    .ld 0 3 false (fun _ => [f_Q_Digitss.v]),
    .ln (kf false (.f 1) f_Q_Digits (fun _ => f_Q_Digitss)),
    .k (iv n),
    .k (bv (decide ((f_Q_Digits.length : Int) ≤ n))),
    .andn g0 false (decide ((f_P_Digits.length : Int) ≤ n)) (decide ((f_Q_Digits.length : Int) ≤ n)) p1 hp1,
    .k (bv p1)] (fun _ _ => by kernel_rfl) fun _ _ G2 => ?_
  intro S2 t2
  have e0 : p1 = decide ((f_P_Digits.length : Int) ≤ n ∧ (f_Q_Digits.length : Int) ≤ n) := by
    refine Bool.eq_iff_iff.2 (Iff.trans (iN hp1 (iAT iDT iDT)) (Iff.trans ?_ decide_eq_true_iff.symm))
    exact Iff.rfl
  exact V.ret [0] [] [] [] [] [] (bv p1) (fun _ _ => by kernel_rfl) (fun _ _ => (Eq.trans (by kernel_rfl) (cong1 (fun (x0 : Bool) => (bv x0 : Value)) e0)).trans (by kernel_rfl)) (fun _ _ => trivial)

set_option maxRecDepth 10000 in
theorem samebig_ct (a_Sign : Int) (a_Digits : List Int) (a_Digitss : SV) (b_Sign : Int) (b_Digits : List Int) (b_Digitss : SV) :
    Cp Try.prog 79 #[ag (DBig.mk a_Sign ⟨a_Digits, a_Digitss⟩), ag (DBig.mk b_Sign ⟨b_Digits, b_Digitss⟩)] [fs true a_Digits a_Digitss, fs true b_Digits b_Digitss] (bv (decide (a_Sign = b_Sign ∧ a_Digits = b_Digits))) := by
  refine V.fn mo Try.func79 38 2 (by kernel_rfl) fun w H ε k0 => ?_
  obtain ⟨⟨kl1, -⟩, ⟨kl2, -⟩, -⟩ : Lq a_Digits a_Digitss.v ∧ Lq b_Digits b_Digitss.v ∧ True := kn k0 (by kernel_rfl)
  clear k0
  refine V.go [.nb 0 0 (fun b => pp b 0) 31 (fun _ => ca (DBig.mk a_Sign ⟨a_Digits, a_Digitss⟩)),
    .nb 1 1 (fun b => pp b 0) 31 (fun _ => ca (DBig.mk b_Sign ⟨b_Digits, b_Digitss⟩)),
    .kb false] (fun _ _ => by kernel_rfl) fun _ _ G1 => ?_
  intro S1 t1
  refine nm ((!(decide (a_Sign = b_Sign))) || (!(decide ((a_Digits.length : Int) = (b_Digits.length : Int)))) : Bool) fun p1 hp1 => ?_
  refine V.go [.k (pp ((G1 0).b) 0),
    .ld 0 0 false (fun _ => [iv a_Sign]),
    .k (pp ((G1 1).b) 0),
    .ld 1 0 false (fun _ => [iv b_Sign]),
    .k (bv (!(decide (a_Sign = b_Sign)))),
    .k (bv (!(decide (a_Sign = b_Sign)))),
    .k (pp ((G1 0).b) 1),
    .ld 0 1 false (fun _ => [a_Digitss.v]),
    .ln (kf false (.f 0) a_Digits (fun _ => a_Digitss)),
    .k (pp ((G1 1).b) 1),
    .ld 1 1 false (fun _ => [b_Digitss.v]),
    .ln (kf false (.f 1) b_Digits (fun _ => b_Digitss)),
    .k (bv (!(decide ((a_Digits.length : Int) = (b_Digits.length : Int))))),
    .orn g0 false (!(decide (a_Sign = b_Sign))) (!(decide ((a_Digits.length : Int) = (b_Digits.length : Int)))) p1 hp1] (fun _ _ => by kernel_rfl) fun _ _ G2 => ?_
  intro S2 t2
  refine V.cond (b := p1) (iN hp1 (iOT (iNT iDF) (iNT iDF))) (iN hp1 (iOF (iNF iDT) (iNF iDT))) (by kernel_rfl) (fun q1 => ?_) (fun q2 => ?_)
  · skip
    refine V.go [.kb false] (fun _ _ => by kernel_rfl) fun _ _ G3 => ?_
    intro S3 t3
    have e0 : false = decide (a_Sign = b_Sign ∧ a_Digits = b_Digits) := by
      exact (decide_eq_false fun h => by have hqq := q1; rcases hqq with h1 | h1; exact h1 h.1; exact h1 (by rw [h.2])).symm
    exact V.ret [0] [] [] [] [] [] (bv false) (fun _ _ => by kernel_rfl) (fun _ _ => (Eq.trans (by kernel_rfl) (cong1 (fun (x0 : Bool) => (bv x0 : Value)) e0)).trans (by kernel_rfl)) (fun _ _ => trivial)
  · skip
    refine V.go [.k (iv 0)] (fun _ _ => by kernel_rfl) fun _ _ G4 => ?_
    intro S4 t4
    refine V.loop (γ := Int) (fun i => ⟨[(2, pp ((G1 0).b) 0), (3, pp ((G1 1).b) 0), (5, iv i)], [fs false a_Digits a_Digitss, fs false b_Digits b_Digitss], [.blk ((G1 0).b) (ca (DBig.mk a_Sign ⟨a_Digits, a_Digitss⟩)) 31, .blk ((G1 1).b) (ca (DBig.mk b_Sign ⟨b_Digits, b_Digitss⟩)) 31]⟩) (fun i => (0 ≤ i) ∧ (i ≤ (a_Digits.length : Int)) ∧ (0 ≤ i) ∧ (i ≤ (a_Digits.length : Int)) ∧ (∀ j, j < i.toNat → a_Digits.getD j default = b_Digits.getD j default)) (fun i => ((a_Digits.length : Int) - i).toNat) 0 (by kernel_rfl) [0, 1] (by kernel_rfl) ?_ ?_
    · skip
      refine ⟨?_, ?_, ?_, ?_, ?_⟩
      · show 0 ≤ (0 : Int)
        first | omega | rfl | (simp; done) | (subst_vars; simp; done)
      · show (0 : Int) ≤ (a_Digits.length : Int)
        first | omega | rfl | (simp; done) | (subst_vars; simp; done)
      · show 0 ≤ (0 : Int)
        omega
      · show (0 : Int) ≤ (a_Digits.length : Int)
        omega
      · show ∀ j, j < (0 : Int).toNat → a_Digits.getD j default = b_Digits.getD j default
        intro j hj; simp at hj
    · rintro i hF1 kw5 Z1 hZ1
      have hF1 : (0 ≤ i) ∧ (i ≤ (a_Digits.length : Int)) ∧ (0 ≤ i) ∧ (i ≤ (a_Digits.length : Int)) ∧ (∀ j, j < i.toNat → a_Digits.getD j default = b_Digits.getD j default) := hF1
      obtain ⟨hf1, hf2, hf3, hf4, hf5⟩ := hF1
      clear kw5
      refine V.go [.k (iv i),
        .k (pp ((G1 0).b) 1),
        .ld 0 1 false (fun _ => [a_Digitss.v]),
        .ln (kf false (.f 0) a_Digits (fun _ => a_Digitss)),
        .k (bv (decide (i < (a_Digits.length : Int))))] (fun _ _ => by kernel_rfl) fun _ _ G5 => ?_
      intro S5 t5
      refine V.cond (b := decide (i < (a_Digits.length : Int))) iDT iDF (by kernel_rfl) (fun q3 => ?_) (fun q4 => ?_)
      · skip
        refine nm (a_Digits.getD i.toNat default : Int) fun v1 hv1 => ?_
        refine nm (b_Digits.getD i.toNat default : Int) fun v2 hv2 => ?_
        refine V.go [.k (pp ((G1 0).b) 1),
          .ld 0 1 false (fun _ => [a_Digitss.v]),
          .k (iv i),
          .ix g0 (kf false (.f 0) a_Digits (fun _ => a_Digitss)) i (fun _ => ⟨by omega, by omega⟩),
          .le g0 (kf false (.f 0) a_Digits (fun _ => a_Digitss)) i none false v1 hv1 (fun _ => ⟨by omega, by omega⟩) false (fun _ => [iv v1]),
          .k (pp ((G1 1).b) 1),
          .ld 1 1 false (fun _ => [b_Digitss.v]),
          .k (iv i),
          .ix g0 (kf false (.f 1) b_Digits (fun _ => b_Digitss)) i (fun _ => ⟨by omega, by omega⟩),
          .le g0 (kf false (.f 1) b_Digits (fun _ => b_Digitss)) i none false v2 hv2 (fun _ => ⟨by omega, by omega⟩) false (fun _ => [iv v2]),
          .k (bv (!(decide (v1 = v2))))] (fun _ _ => by kernel_rfl) fun _ _ G6 => ?_
        intro S6 t6
        refine V.cond (b := !(decide (v1 = v2))) (iNT iDF) (iNF iDT) (by kernel_rfl) (fun q5 => ?_) (fun q6 => ?_)
        · skip
          refine V.go [.kb false] (fun _ _ => by kernel_rfl) fun _ _ G7 => ?_
          intro S7 t7
          have e0 : false = decide (a_Sign = b_Sign ∧ a_Digits = b_Digits) := by
            exact (decide_eq_false fun h => q5 (by rw [hv1, hv2, h.2])).symm
          exact V.ret [0] [] [] [] [] [] (bv false) (fun _ _ => by kernel_rfl) (fun _ _ => (Eq.trans (by kernel_rfl) (cong1 (fun (x0 : Bool) => (bv x0 : Value)) e0)).trans (by kernel_rfl)) (fun _ _ => trivial)
        · skip
          refine V.go [.k (iv i),
            .a (i + 1) (by omega) (by omega),
            .k (iv (i + 1))] (fun _ _ => by kernel_rfl) fun _ _ G8 => ?_
          intro S8 t8
          refine V.rnd hZ1 (i + 1) [0, 1] (by kernel_rfl) ?_ ?_
          · skip
            refine ⟨?_, ?_, ?_, ?_, ?_⟩
            · show 0 ≤ (i + 1)
              omega
            · show (i + 1) ≤ (a_Digits.length : Int)
              omega
            · show 0 ≤ (i + 1)
              omega
            · show (i + 1) ≤ (a_Digits.length : Int)
              omega
            · show ∀ j, j < (i + 1).toNat → a_Digits.getD j default = b_Digits.getD j default
              intro j hj; by_cases e : j < i.toNat
              · exact hf5 j e
              · rw [show j = i.toNat by omega, ← hv1, ← hv2]; exact (by have hqq := q6; first | exact hqq | exact Decidable.not_not.1 hqq)
          · show ((a_Digits.length : Int) - (i + 1)).toNat < ((a_Digits.length : Int) - i).toNat
            omega
      · skip
        refine V.go [.kb true] (fun _ _ => by kernel_rfl) fun _ _ G9 => ?_
        intro S9 t9
        have e0 : true = decide (a_Sign = b_Sign ∧ a_Digits = b_Digits) := by
          exact (decide_eq_true ⟨by omega, Bg.eq_of_getD (by omega) fun j hj => hf5 j (by omega)⟩).symm
        exact V.ret [0] [] [] [] [] [] (bv true) (fun _ _ => by kernel_rfl) (fun _ _ => (Eq.trans (by kernel_rfl) (cong1 (fun (x0 : Bool) => (bv x0 : Value)) e0)).trans (by kernel_rfl)) (fun _ _ => trivial)

set_option maxRecDepth 10000 in
theorem same5_ct (a_P_Sign : Int) (a_P_Digits : List Int) (a_P_Digitss : SV) (a_Q_Sign : Int) (a_Q_Digits : List Int) (a_Q_Digitss : SV) (b_P_Sign : Int) (b_P_Digits : List Int) (b_P_Digitss : SV) (b_Q_Sign : Int) (b_Q_Digits : List Int) (b_Q_Digitss : SV) :
    Cp Try.prog 41 #[ag (DFrac.mk (DBig.mk a_P_Sign ⟨a_P_Digits, a_P_Digitss⟩) (DBig.mk a_Q_Sign ⟨a_Q_Digits, a_Q_Digitss⟩)), ag (DFrac.mk (DBig.mk b_P_Sign ⟨b_P_Digits, b_P_Digitss⟩) (DBig.mk b_Q_Sign ⟨b_Q_Digits, b_Q_Digitss⟩))] [fs true a_P_Digits a_P_Digitss, fs true a_Q_Digits a_Q_Digitss, fs true b_P_Digits b_P_Digitss, fs true b_Q_Digits b_Q_Digitss] (bv (decide (a_P_Sign = b_P_Sign ∧ a_P_Digits = b_P_Digits ∧ a_Q_Sign = b_Q_Sign ∧ a_Q_Digits = b_Q_Digits))) := by
  refine V.fn mo Try.func41 17 2 (by kernel_rfl) fun w H ε k0 => ?_
  obtain ⟨⟨kl1, -⟩, ⟨kl2, -⟩, ⟨kl3, -⟩, ⟨kl4, -⟩, -⟩ : Lq a_P_Digits a_P_Digitss.v ∧ Lq a_Q_Digits a_Q_Digitss.v ∧ Lq b_P_Digits b_P_Digitss.v ∧ Lq b_Q_Digits b_Q_Digitss.v ∧ True := kn k0 (by kernel_rfl)
  clear k0
  refine V.go [.nb 0 0 (fun b => pp b 0) 33 (fun _ => ca (DFrac.mk (DBig.mk a_P_Sign ⟨a_P_Digits, a_P_Digitss⟩) (DBig.mk a_Q_Sign ⟨a_Q_Digits, a_Q_Digitss⟩))),
    .nb 1 1 (fun b => pp b 0) 33 (fun _ => ca (DFrac.mk (DBig.mk b_P_Sign ⟨b_P_Digits, b_P_Digitss⟩) (DBig.mk b_Q_Sign ⟨b_Q_Digits, b_Q_Digitss⟩))),
    .kb false] (fun _ _ => by kernel_rfl) fun _ _ G1 => ?_
  intro S1 t1
  refine nm ((decide (a_P_Sign = b_P_Sign ∧ a_P_Digits = b_P_Digits)) && (decide (a_Q_Sign = b_Q_Sign ∧ a_Q_Digits = b_Q_Digits)) : Bool) fun p1 hp1 => ?_
  refine V.go [.k (pp ((G1 0).b) 0),
    .ld 0 0 true (fun _ => Dat.cells (DBig.mk a_P_Sign ⟨a_P_Digits, a_P_Digitss⟩)),
    .k (pp ((G1 1).b) 0),
    .ld 1 0 true (fun _ => Dat.cells (DBig.mk b_P_Sign ⟨b_P_Digits, b_P_Digitss⟩)),
    .cp g0 4 79 [(kf false (.f 0) a_P_Digits (fun _ => a_P_Digitss)).a, (kf false (.f 2) b_P_Digits (fun _ => b_P_Digitss)).a] (fun _ G => samebig_ct a_P_Sign a_P_Digits a_P_Digitss b_P_Sign b_P_Digits b_P_Digitss),
    .k (bv (decide (a_P_Sign = b_P_Sign ∧ a_P_Digits = b_P_Digits))),
    .k (pp ((G1 0).b) 2),
    .ld 0 2 true (fun _ => Dat.cells (DBig.mk a_Q_Sign ⟨a_Q_Digits, a_Q_Digitss⟩)),
    .k (pp ((G1 1).b) 2),
    .ld 1 2 true (fun _ => Dat.cells (DBig.mk b_Q_Sign ⟨b_Q_Digits, b_Q_Digitss⟩)),
    .cp (gT (b := decide (a_P_Sign = b_P_Sign ∧ a_P_Digits = b_P_Digits)) iDT) 10 79 [(kf false (.f 1) a_Q_Digits (fun _ => a_Q_Digitss)).a, (kf false (.f 3) b_Q_Digits (fun _ => b_Q_Digitss)).a] (fun hg G => samebig_ct a_Q_Sign a_Q_Digits a_Q_Digitss b_Q_Sign b_Q_Digits b_Q_Digitss),
    .andn g0 false (decide (a_P_Sign = b_P_Sign ∧ a_P_Digits = b_P_Digits)) (decide (a_Q_Sign = b_Q_Sign ∧ a_Q_Digits = b_Q_Digits)) p1 hp1,
    .k (bv p1)] (fun _ _ => by kernel_rfl) fun _ _ G2 => ?_
  intro S2 t2
  have e0 : p1 = decide (a_P_Sign = b_P_Sign ∧ a_P_Digits = b_P_Digits ∧ a_Q_Sign = b_Q_Sign ∧ a_Q_Digits = b_Q_Digits) := by
    refine Bool.eq_iff_iff.2 (Iff.trans (iN hp1 (iAT iDT iDT)) (Iff.trans ?_ decide_eq_true_iff.symm))
    exact and_assoc
  exact V.ret [0] [] [] [] [] [] (bv p1) (fun _ _ => by kernel_rfl) (fun _ _ => (Eq.trans (by kernel_rfl) (cong1 (fun (x0 : Bool) => (bv x0 : Value)) e0)).trans (by kernel_rfl)) (fun _ _ => trivial)

set_option maxRecDepth 10000 in
theorem few30_ct (l : List DFrac) (ls : SV) :
    Cp Try.prog 9 #[ls.v] [fs true l ls] (bv (decide (Fr.few30 l))) := by
  refine V.fn mo Try.func9 23 0 (by kernel_rfl) fun w H ε k0 => ?_
  obtain ⟨⟨kl1, -⟩, -⟩ : Lq l ls.v ∧ True := kn k0 (by kernel_rfl)
  clear k0
  refine V.go [.kb false] (fun _ _ => by kernel_rfl) fun _ _ G1 => ?_
  intro S1 t1
  refine V.go [.k (iv 0)] (fun _ _ => by kernel_rfl) fun _ _ G2 => ?_
  intro S2 t2
  refine V.loop (γ := Int) (fun i => ⟨[(0, ls.v), (3, iv i)], [fs false l ls], []⟩) (fun i => (0 ≤ i) ∧ (i ≤ (l.length : Int) ∧ i ≤ 21) ∧ (∀ j, j < i.toNat → Fr.ln 6 (l.getD j default))) (fun i => ((l.length : Int) - i).toNat) 0 (by kernel_rfl) [0] (by kernel_rfl) ?_ ?_
  · skip
    refine ⟨?_, ?_, ?_⟩
    · show 0 ≤ (0 : Int)
      omega
    · show (0 : Int) ≤ (l.length : Int) ∧ (0 : Int) ≤ 21
      omega
    · show ∀ j, j < (0 : Int).toNat → Fr.ln 6 (l.getD j default)
      intro j hj; simp at hj
  · rintro i hF1 kw3 Z1 hZ1
    have hF1 : (0 ≤ i) ∧ (i ≤ (l.length : Int) ∧ i ≤ 21) ∧ (∀ j, j < i.toNat → Fr.ln 6 (l.getD j default)) := hF1
    obtain ⟨hf1, hf2, hf3⟩ := hF1
    clear kw3
    refine nm ((decide (i < (l.length : Int))) && (decide (i < 21)) : Bool) fun p1 hp1 => ?_
    refine V.go [.k (iv i),
      .k (ls.v),
      .ln (kf false (.f 0) l (fun _ => ls)),
      .k (bv (decide (i < (l.length : Int)))),
      .k (bv (decide (i < (l.length : Int)))),
      .k (iv i),
      .k (bv (decide (i < 21))),
      .andn g0 false (decide (i < (l.length : Int))) (decide (i < 21)) p1 hp1] (fun _ _ => by kernel_rfl) fun _ _ G3 => ?_
    intro S3 t3
    refine V.cond (b := p1) (iN hp1 (iAT iDT iDT)) (iN hp1 (iAF iDF iDF)) (by kernel_rfl) (fun q1 => ?_) (fun q2 => ?_)
    · skip
      refine nm (l.getD i.toNat default : DFrac) fun x1 hx1 => ?_
      refine V.reg [.k (ls.v),
        .k (iv i),
        .ix g0 (kf false (.f 0) l (fun _ => ls)) i (fun _ => ⟨by omega, by omega⟩),
        .le g0 (kf false (.f 0) l (fun _ => ls)) i none true x1 hx1 (fun _ => ⟨by omega, by omega⟩) true (fun _ => Dat.cells x1),
        .cp g0 4 32 [(kx false (.g 3 0) x1 x1.P.Digits.l (fun _ => x1.P.Digits.s) (fun _ H (h : Dat.good H (x1 : DFrac)) => h.1)).a, (kx false (.g 3 0) x1 x1.Q.Digits.l (fun _ => x1.Q.Digits.s) (fun _ H (h : Dat.good H (x1 : DFrac)) => h.2)).a] (fun _ G => few5_ct x1.P.Sign x1.P.Digits.l x1.P.Digits.s x1.Q.Sign x1.Q.Digits.l x1.Q.Digits.s (6 : Int)),
        .k (bv (!(decide ((x1.P.Digits.l.length : Int) ≤ (6 : Int) ∧ (x1.Q.Digits.l.length : Int) ≤ (6 : Int)))))] (fun _ _ => by kernel_rfl) fun _ _ G4 kw5 => ?_
      intro S4 t4
      obtain ⟨⟨⟨kl2, -⟩, ⟨kl3, -⟩⟩, -⟩ : (Lq x1.P.Digits.l x1.P.Digits.s.v ∧ Lq x1.Q.Digits.l x1.Q.Digits.s.v) ∧ True := kn kw5 (by kernel_rfl)
      clear kw5
      refine V.cond (b := !(decide ((x1.P.Digits.l.length : Int) ≤ (6 : Int) ∧ (x1.Q.Digits.l.length : Int) ≤ (6 : Int)))) (iNT iDF) (iNF iDT) (by kernel_rfl) (fun q3 => ?_) (fun q4 => ?_)
      · skip
        refine V.go [.kb false] (fun _ _ => by kernel_rfl) fun _ _ G5 => ?_
        intro S5 t5
        have e0 : false = decide (Fr.few30 l) := by
          exact (decide_eq_false (Fr.few30_no (k := i.toNat) (by omega) hx1 (by have hqq := q3; omega))).symm
        exact V.ret [0] [] [] [] [] [] (bv false) (fun _ _ => by kernel_rfl) (fun _ _ => (Eq.trans (by kernel_rfl) (cong1 (fun (x0 : Bool) => (bv x0 : Value)) e0)).trans (by kernel_rfl)) (fun _ _ => trivial)
      · skip
        refine V.go [.k (iv i),
          .a (i + 1) (by omega) (by omega),
          .k (iv (i + 1))] (fun _ _ => by kernel_rfl) fun _ _ G6 => ?_
        intro S6 t6
        refine V.rnd hZ1 (i + 1) [0] (by kernel_rfl) ?_ ?_
        · skip
          refine ⟨?_, ?_, ?_⟩
          · show 0 ≤ (i + 1)
            omega
          · show (i + 1) ≤ (l.length : Int) ∧ (i + 1) ≤ 21
            omega
          · show ∀ j, j < (i + 1).toNat → Fr.ln 6 (l.getD j default)
            intro j hj; by_cases e : j < i.toNat
            · exact hf3 j e
            · rw [show j = i.toNat by omega, ← hx1]; have hqq := q4; unfold Fr.ln; omega
        · show ((l.length : Int) - (i + 1)).toNat < ((l.length : Int) - i).toNat
          omega
    · skip
      refine V.go [.k (ls.v),
        .ln (kf false (.f 0) l (fun _ => ls)),
        .k (bv (decide ((l.length : Int) ≤ 20))),
        .k (bv (decide ((l.length : Int) ≤ 20)))] (fun _ _ => by kernel_rfl) fun _ _ G7 => ?_
      intro S7 t7
      have e0 : (decide ((l.length : Int) ≤ 20)) = decide (Fr.few30 l) := by
        refine Bool.eq_iff_iff.2 (Iff.trans iDT (Iff.trans ?_ decide_eq_true_iff.symm))
        exact ⟨fun h => Fr.few30_yes (by omega) fun k hk => hf3 k (by omega), fun h => by have := h.1; omega⟩
      exact V.ret [0] [] [] [] [] [] (bv (decide ((l.length : Int) ≤ 20))) (fun _ _ => by kernel_rfl) (fun _ _ => (Eq.trans (by kernel_rfl) (cong1 (fun (x0 : Bool) => (bv x0 : Value)) e0)).trans (by kernel_rfl)) (fun _ _ => trivial)

set_option maxRecDepth 10000 in
theorem same30_ct (a : List DFrac) (as_ : SV) (b : List DFrac) (bs : SV) :
    Cp Try.prog 13 #[as_.v, bs.v] [fs true a as_, fs true b bs] (bv (decide (a.map Fr.sh4 = b.map Fr.sh4))) := by
  refine V.fn mo Try.func13 27 0 (by kernel_rfl) fun w H ε k0 => ?_
  obtain ⟨⟨kl1, -⟩, ⟨kl2, -⟩, -⟩ : Lq a as_.v ∧ Lq b bs.v ∧ True := kn k0 (by kernel_rfl)
  clear k0
  refine V.go [.kb false] (fun _ _ => by kernel_rfl) fun _ _ G1 => ?_
  intro S1 t1
  refine V.go [.k (as_.v),
    .ln (kf false (.f 0) a (fun _ => as_)),
    .k (bs.v),
    .ln (kf false (.f 1) b (fun _ => bs)),
    .k (bv (!(decide ((a.length : Int) = (b.length : Int)))))] (fun _ _ => by kernel_rfl) fun _ _ G2 => ?_
  intro S2 t2
  refine V.cond (b := !(decide ((a.length : Int) = (b.length : Int)))) (iNT iDF) (iNF iDT) (by kernel_rfl) (fun q1 => ?_) (fun q2 => ?_)
  · skip
    refine V.go [.kb false] (fun _ _ => by kernel_rfl) fun _ _ G3 => ?_
    intro S3 t3
    have e0 : false = decide (a.map Fr.sh4 = b.map Fr.sh4) := by
      exact (decide_eq_false fun h => q1 (by have := congrArg List.length h; simp only [List.length_map] at this; omega)).symm
    exact V.ret [0] [] [] [] [] [] (bv false) (fun _ _ => by kernel_rfl) (fun _ _ => (Eq.trans (by kernel_rfl) (cong1 (fun (x0 : Bool) => (bv x0 : Value)) e0)).trans (by kernel_rfl)) (fun _ _ => trivial)
  · skip
    refine V.go [.k (iv 0)] (fun _ _ => by kernel_rfl) fun _ _ G4 => ?_
    intro S4 t4
    refine V.loop (γ := Int) (fun i => ⟨[(0, as_.v), (1, bs.v), (5, iv i)], [fs false a as_, fs false b bs], []⟩) (fun i => (0 ≤ i) ∧ (i ≤ (a.length : Int)) ∧ (0 ≤ i) ∧ (i ≤ (a.length : Int)) ∧ (∀ j, j < i.toNat → Fr.sh4 (a.getD j default) = Fr.sh4 (b.getD j default))) (fun i => ((a.length : Int) - i).toNat) 0 (by kernel_rfl) [0, 1] (by kernel_rfl) ?_ ?_
    · skip
      refine ⟨?_, ?_, ?_, ?_, ?_⟩
      · show 0 ≤ (0 : Int)
        first | omega | rfl | (simp; done) | (subst_vars; simp; done)
      · show (0 : Int) ≤ (a.length : Int)
        first | omega | rfl | (simp; done) | (subst_vars; simp; done)
      · show 0 ≤ (0 : Int)
        omega
      · show (0 : Int) ≤ (a.length : Int)
        omega
      · show ∀ j, j < (0 : Int).toNat → Fr.sh4 (a.getD j default) = Fr.sh4 (b.getD j default)
        intro j hj; simp at hj
    · rintro i hF1 kw5 Z1 hZ1
      have hF1 : (0 ≤ i) ∧ (i ≤ (a.length : Int)) ∧ (0 ≤ i) ∧ (i ≤ (a.length : Int)) ∧ (∀ j, j < i.toNat → Fr.sh4 (a.getD j default) = Fr.sh4 (b.getD j default)) := hF1
      obtain ⟨hf1, hf2, hf3, hf4, hf5⟩ := hF1
      clear kw5
      refine V.go [.k (iv i),
        .k (as_.v),
        .ln (kf false (.f 0) a (fun _ => as_)),
        .k (bv (decide (i < (a.length : Int))))] (fun _ _ => by kernel_rfl) fun _ _ G5 => ?_
      intro S5 t5
      refine V.cond (b := decide (i < (a.length : Int))) iDT iDF (by kernel_rfl) (fun q3 => ?_) (fun q4 => ?_)
      · skip
        refine nm (a.getD i.toNat default : DFrac) fun x1 hx1 => ?_
        refine nm (b.getD i.toNat default : DFrac) fun x2 hx2 => ?_
        refine V.reg [.k (as_.v),
          .k (iv i),
          .ix g0 (kf false (.f 0) a (fun _ => as_)) i (fun _ => ⟨by omega, by omega⟩),
          .le g0 (kf false (.f 0) a (fun _ => as_)) i none true x1 hx1 (fun _ => ⟨by omega, by omega⟩) true (fun _ => Dat.cells x1),
          .k (bs.v),
          .k (iv i),
          .ix g0 (kf false (.f 1) b (fun _ => bs)) i (fun _ => ⟨by omega, by omega⟩),
          .le g0 (kf false (.f 1) b (fun _ => bs)) i none true x2 hx2 (fun _ => ⟨by omega, by omega⟩) true (fun _ => Dat.cells x2),
          .cp g0 8 41 [(kx false (.g 3 0) x1 x1.P.Digits.l (fun _ => x1.P.Digits.s) (fun _ H (h : Dat.good H (x1 : DFrac)) => h.1)).a, (kx false (.g 3 0) x1 x1.Q.Digits.l (fun _ => x1.Q.Digits.s) (fun _ H (h : Dat.good H (x1 : DFrac)) => h.2)).a, (kx false (.g 7 0) x2 x2.P.Digits.l (fun _ => x2.P.Digits.s) (fun _ H (h : Dat.good H (x2 : DFrac)) => h.1)).a, (kx false (.g 7 0) x2 x2.Q.Digits.l (fun _ => x2.Q.Digits.s) (fun _ H (h : Dat.good H (x2 : DFrac)) => h.2)).a] (fun _ G => same5_ct x1.P.Sign x1.P.Digits.l x1.P.Digits.s x1.Q.Sign x1.Q.Digits.l x1.Q.Digits.s x2.P.Sign x2.P.Digits.l x2.P.Digits.s x2.Q.Sign x2.Q.Digits.l x2.Q.Digits.s),
          .k (bv (!(decide (x1.P.Sign = x2.P.Sign ∧ x1.P.Digits.l = x2.P.Digits.l ∧ x1.Q.Sign = x2.Q.Sign ∧ x1.Q.Digits.l = x2.Q.Digits.l))))] (fun _ _ => by kernel_rfl) fun _ _ G6 kw7 => ?_
        intro S6 t6
        obtain ⟨⟨⟨kl3, -⟩, ⟨kl4, -⟩⟩, ⟨⟨kl5, -⟩, ⟨kl6, -⟩⟩, -⟩ : (Lq x1.P.Digits.l x1.P.Digits.s.v ∧ Lq x1.Q.Digits.l x1.Q.Digits.s.v) ∧ (Lq x2.P.Digits.l x2.P.Digits.s.v ∧ Lq x2.Q.Digits.l x2.Q.Digits.s.v) ∧ True := kn kw7 (by kernel_rfl)
        clear kw7
        refine V.cond (b := !(decide (x1.P.Sign = x2.P.Sign ∧ x1.P.Digits.l = x2.P.Digits.l ∧ x1.Q.Sign = x2.Q.Sign ∧ x1.Q.Digits.l = x2.Q.Digits.l))) (iNT iDF) (iNF iDT) (by kernel_rfl) (fun q5 => ?_) (fun q6 => ?_)
        · skip
          refine V.go [.kb false] (fun _ _ => by kernel_rfl) fun _ _ G7 => ?_
          intro S7 t7
          have e0 : false = decide (a.map Fr.sh4 = b.map Fr.sh4) := by
            exact (decide_eq_false fun h => q5 (by have h1 := Fr.sh4_get (k := i.toNat) (by omega) (by omega) h; rw [← hx1, ← hx2] at h1; unfold Fr.sh4 at h1; simpa using h1)).symm
          exact V.ret [0] [] [] [] [] [] (bv false) (fun _ _ => by kernel_rfl) (fun _ _ => (Eq.trans (by kernel_rfl) (cong1 (fun (x0 : Bool) => (bv x0 : Value)) e0)).trans (by kernel_rfl)) (fun _ _ => trivial)
        · skip
          refine V.go [.k (iv i),
            .a (i + 1) (by omega) (by omega),
            .k (iv (i + 1))] (fun _ _ => by kernel_rfl) fun _ _ G8 => ?_
          intro S8 t8
          refine V.rnd hZ1 (i + 1) [0, 1] (by kernel_rfl) ?_ ?_
          · skip
            refine ⟨?_, ?_, ?_, ?_, ?_⟩
            · show 0 ≤ (i + 1)
              omega
            · show (i + 1) ≤ (a.length : Int)
              omega
            · show 0 ≤ (i + 1)
              omega
            · show (i + 1) ≤ (a.length : Int)
              omega
            · show ∀ j, j < (i + 1).toNat → Fr.sh4 (a.getD j default) = Fr.sh4 (b.getD j default)
              intro j hj; by_cases e : j < i.toNat
              · exact hf5 j e
              · rw [show j = i.toNat by omega, ← hx1, ← hx2]; have hqq := q6; unfold Fr.sh4; obtain ⟨h1, h2, h3, h4⟩ : _ ∧ _ ∧ _ ∧ _ := by first | exact hqq | exact Decidable.not_not.1 hqq
                rw [h1, h2, h3, h4]
          · show ((a.length : Int) - (i + 1)).toNat < ((a.length : Int) - i).toNat
            omega
      · skip
        refine V.go [.kb true] (fun _ _ => by kernel_rfl) fun _ _ G9 => ?_
        intro S9 t9
        have e0 : true = decide (a.map Fr.sh4 = b.map Fr.sh4) := by
          exact (decide_eq_true (Fr.sh4_eq (by omega) fun j hj => hf5 j (by omega))).symm
        exact V.ret [0] [] [] [] [] [] (bv true) (fun _ _ => by kernel_rfl) (fun _ _ => (Eq.trans (by kernel_rfl) (cong1 (fun (x0 : Bool) => (bv x0 : Value)) e0)).trans (by kernel_rfl)) (fun _ _ => trivial)

set_option maxRecDepth 10000 in
theorem sameints_ct (a : List Int) (as_ : SV) (b : List Int) (bs : SV) :
    Cp Try.prog 31 #[as_.v, bs.v] [fs true a as_, fs true b bs] (bv (decide (a = b))) := by
  refine V.fn mo Try.func31 26 0 (by kernel_rfl) fun w H ε k0 => ?_
  obtain ⟨⟨kl1, -⟩, ⟨kl2, -⟩, -⟩ : Lq a as_.v ∧ Lq b bs.v ∧ True := kn k0 (by kernel_rfl)
  clear k0
  refine V.go [.kb false] (fun _ _ => by kernel_rfl) fun _ _ G1 => ?_
  intro S1 t1
  refine V.go [.k (as_.v),
    .ln (kf false (.f 0) a (fun _ => as_)),
    .k (bs.v),
    .ln (kf false (.f 1) b (fun _ => bs)),
    .k (bv (!(decide ((a.length : Int) = (b.length : Int)))))] (fun _ _ => by kernel_rfl) fun _ _ G2 => ?_
  intro S2 t2
  refine V.cond (b := !(decide ((a.length : Int) = (b.length : Int)))) (iNT iDF) (iNF iDT) (by kernel_rfl) (fun q1 => ?_) (fun q2 => ?_)
  · skip
    refine V.go [.kb false] (fun _ _ => by kernel_rfl) fun _ _ G3 => ?_
    intro S3 t3
    have e0 : false = decide (a = b) := by
      exact (decide_eq_false fun h => q1 (by rw [h])).symm
    exact V.ret [0] [] [] [] [] [] (bv false) (fun _ _ => by kernel_rfl) (fun _ _ => (Eq.trans (by kernel_rfl) (cong1 (fun (x0 : Bool) => (bv x0 : Value)) e0)).trans (by kernel_rfl)) (fun _ _ => trivial)
  · skip
    refine V.go [.k (iv 0)] (fun _ _ => by kernel_rfl) fun _ _ G4 => ?_
    intro S4 t4
    refine V.loop (γ := Int) (fun i => ⟨[(0, as_.v), (1, bs.v), (5, iv i)], [fs false a as_, fs false b bs], []⟩) (fun i => (0 ≤ i) ∧ (i ≤ (a.length : Int)) ∧ (0 ≤ i) ∧ (i ≤ (a.length : Int)) ∧ (∀ j, j < i.toNat → a.getD j default = b.getD j default)) (fun i => ((a.length : Int) - i).toNat) 0 (by kernel_rfl) [0, 1] (by kernel_rfl) ?_ ?_
    · skip
      refine ⟨?_, ?_, ?_, ?_, ?_⟩
      · show 0 ≤ (0 : Int)
        first | omega | rfl | (simp; done) | (subst_vars; simp; done)
      · show (0 : Int) ≤ (a.length : Int)
        first | omega | rfl | (simp; done) | (subst_vars; simp; done)
      · show 0 ≤ (0 : Int)
        omega
      · show (0 : Int) ≤ (a.length : Int)
        omega
      · show ∀ j, j < (0 : Int).toNat → a.getD j default = b.getD j default
        intro j hj; simp at hj
    · rintro i hF1 kw5 Z1 hZ1
      have hF1 : (0 ≤ i) ∧ (i ≤ (a.length : Int)) ∧ (0 ≤ i) ∧ (i ≤ (a.length : Int)) ∧ (∀ j, j < i.toNat → a.getD j default = b.getD j default) := hF1
      obtain ⟨hf1, hf2, hf3, hf4, hf5⟩ := hF1
      clear kw5
      refine V.go [.k (iv i),
        .k (as_.v),
        .ln (kf false (.f 0) a (fun _ => as_)),
        .k (bv (decide (i < (a.length : Int))))] (fun _ _ => by kernel_rfl) fun _ _ G5 => ?_
      intro S5 t5
      refine V.cond (b := decide (i < (a.length : Int))) iDT iDF (by kernel_rfl) (fun q3 => ?_) (fun q4 => ?_)
      · skip
        refine nm (a.getD i.toNat default : Int) fun v1 hv1 => ?_
        refine nm (b.getD i.toNat default : Int) fun v2 hv2 => ?_
        refine V.go [.k (as_.v),
          .k (iv i),
          .ix g0 (kf false (.f 0) a (fun _ => as_)) i (fun _ => ⟨by omega, by omega⟩),
          .le g0 (kf false (.f 0) a (fun _ => as_)) i none false v1 hv1 (fun _ => ⟨by omega, by omega⟩) false (fun _ => [iv v1]),
          .k (bs.v),
          .k (iv i),
          .ix g0 (kf false (.f 1) b (fun _ => bs)) i (fun _ => ⟨by omega, by omega⟩),
          .le g0 (kf false (.f 1) b (fun _ => bs)) i none false v2 hv2 (fun _ => ⟨by omega, by omega⟩) false (fun _ => [iv v2]),
          .k (bv (!(decide (v1 = v2))))] (fun _ _ => by kernel_rfl) fun _ _ G6 => ?_
        intro S6 t6
        refine V.cond (b := !(decide (v1 = v2))) (iNT iDF) (iNF iDT) (by kernel_rfl) (fun q5 => ?_) (fun q6 => ?_)
        · skip
          refine V.go [.kb false] (fun _ _ => by kernel_rfl) fun _ _ G7 => ?_
          intro S7 t7
          have e0 : false = decide (a = b) := by
            exact (decide_eq_false fun h => q5 (by rw [hv1, hv2, h])).symm
          exact V.ret [0] [] [] [] [] [] (bv false) (fun _ _ => by kernel_rfl) (fun _ _ => (Eq.trans (by kernel_rfl) (cong1 (fun (x0 : Bool) => (bv x0 : Value)) e0)).trans (by kernel_rfl)) (fun _ _ => trivial)
        · skip
          refine V.go [.k (iv i),
            .a (i + 1) (by omega) (by omega),
            .k (iv (i + 1))] (fun _ _ => by kernel_rfl) fun _ _ G8 => ?_
          intro S8 t8
          refine V.rnd hZ1 (i + 1) [0, 1] (by kernel_rfl) ?_ ?_
          · skip
            refine ⟨?_, ?_, ?_, ?_, ?_⟩
            · show 0 ≤ (i + 1)
              omega
            · show (i + 1) ≤ (a.length : Int)
              omega
            · show 0 ≤ (i + 1)
              omega
            · show (i + 1) ≤ (a.length : Int)
              omega
            · show ∀ j, j < (i + 1).toNat → a.getD j default = b.getD j default
              intro j hj; by_cases e : j < i.toNat
              · exact hf5 j e
              · rw [show j = i.toNat by omega, ← hv1, ← hv2]; exact (by have hqq := q6; first | exact hqq | exact Decidable.not_not.1 hqq)
          · show ((a.length : Int) - (i + 1)).toNat < ((a.length : Int) - i).toNat
            omega
      · skip
        refine V.go [.kb true] (fun _ _ => by kernel_rfl) fun _ _ G9 => ?_
        intro S9 t9
        have e0 : true = decide (a = b) := by
          exact (decide_eq_true (Bg.eq_of_getD (by omega) fun j hj => hf5 j (by omega))).symm
        exact V.ret [0] [] [] [] [] [] (bv true) (fun _ _ => by kernel_rfl) (fun _ _ => (Eq.trans (by kernel_rfl) (cong1 (fun (x0 : Bool) => (bv x0 : Value)) e0)).trans (by kernel_rfl)) (fun _ _ => trivial)

set_option maxRecDepth 10000 in
theorem lof_ct (p q : Int) (hp : -9223372036854775808 ≤ p ∧ p ≤ 9223372036854775807) (hq : -9223372036854775808 ≤ q ∧ q ≤ 9223372036854775807) :
    Ct Try.prog 12 #[iv p, iv q] [] [] (fun g => ag (DFrac.mk (DBig.mk (Fr.rS (q ≠ 0) (Rat.divInt p q)) ⟨Fr.rD (q ≠ 0) (Rat.divInt p q), (g.ss 0)⟩) (DBig.mk (Fr.rT (q ≠ 0)) ⟨Fr.rE (q ≠ 0) (Rat.divInt p q), (g.ss 1)⟩))) (fun g => [fs true (Fr.rD (q ≠ 0) (Rat.divInt p q)) (g.ss 0), fs true (Fr.rE (q ≠ 0) (Rat.divInt p q)) (g.ss 1)]) (fun g => []) (fun g => []) := by
  refine V.fn mo Try.func12 14 2 (by kernel_rfl) fun w H ε k0 => ?_
  clear k0
  refine V.go [.nb 0 0 (fun b => pp b 0) 33 (fun _ => ca (DFrac.mk (DBig.mk 0 ⟨[], {}⟩) (DBig.mk 0 ⟨[], {}⟩)))] (fun _ _ => by kernel_rfl) fun _ _ G1 => ?_
  intro S1 t1
  refine nm (Fr.rS (q ≠ 0) (Rat.divInt p q) : Int) fun n1 hn1 => ?_
  refine nm (Fr.rD (q ≠ 0) (Rat.divInt p q) : List Int) fun l1 hl1 => ?_
  have hl1n := congrArg List.length hl1
  refine nm (Fr.rT (q ≠ 0) : Int) fun n2 hn2 => ?_
  refine nm (Fr.rE (q ≠ 0) (Rat.divInt p q) : List Int) fun l2 hl2 => ?_
  have hl2n := congrArg List.length hl2
  refine nm (if q = 0 then (15 : Int) else 0 : Int) fun n3 hn3 => ?_
  refine V.reg [.k (iv p),
    .k (iv q),
    .ct g0 2 40 false [] [] [] (fun _ G => fof_ctv p q (by omega) (by omega) n1 hn1 l1 hl1 n2 hn2 l2 hl2 n3 hn3),
    .v fun G => .tuple #[ag (DFrac.mk (DBig.mk n1 ⟨l1, (G 2).ss 0⟩) (DBig.mk n2 ⟨l2, (G 2).ss 1⟩)), iv n3],
    .v fun G => ag (DFrac.mk (DBig.mk n1 ⟨l1, (G 2).ss 0⟩) (DBig.mk n2 ⟨l2, (G 2).ss 1⟩)),
    .k (iv n3),
    .nb 6 1 (fun b => pp b 0) 33 (fun _ => ca (DFrac.mk (DBig.mk 0 ⟨[], {}⟩) (DBig.mk 0 ⟨[], {}⟩))),
    .st 1 (fun G => .blk ((G 6).b) (ca (DFrac.mk (DBig.mk n1 ⟨l1, (G 2).ss 0⟩) (DBig.mk n2 ⟨l2, (G 2).ss 1⟩))) 33),
    .k (iv n3)] (fun _ _ => by kernel_rfl) fun _ _ G2 kw2 => ?_
  intro S2 t2
  obtain ⟨⟨kl1, -⟩, ⟨kl2, -⟩, -⟩ : Lq l1 (((G2 2).ss 0).v) ∧ Lq l2 (((G2 2).ss 1).v) ∧ True := kn kw2 (by kernel_rfl)
  clear kw2
  refine V.go [.ld 1 0 true (fun _ => Dat.cells (DFrac.mk (DBig.mk n1 ⟨l1, (G2 2).ss 0⟩) (DBig.mk n2 ⟨l2, (G2 2).ss 1⟩))),
    .st 0 (fun _ => .blk ((G1 0).b) (ca (DFrac.mk (DBig.mk n1 ⟨l1, (G2 2).ss 0⟩) (DBig.mk n2 ⟨l2, (G2 2).ss 1⟩))) 33)] (fun _ _ => by kernel_rfl) fun _ _ G3 => ?_
  intro S3 t3
  have e1 : l1 = Fr.rD (q ≠ 0) (Rat.divInt p q) := by
    rw [hl1]
  subst e1
  have e3 : l2 = Fr.rE (q ≠ 0) (Rat.divInt p q) := by
    rw [hl2]
  subst e3
  have e0 : n1 = Fr.rS (q ≠ 0) (Rat.divInt p q) := by
    rw [hn1]
  have e2 : n2 = Fr.rT (q ≠ 0) := by
    rw [hn2]
  exact V.ret [0] [(G2 2).ss 0, (G2 2).ss 1] [fun _ => {}, fun _ => {}] [] [0, 1] [] (ag (DFrac.mk (DBig.mk n1 ⟨(Fr.rD (q ≠ 0) (Rat.divInt p q)), (G2 2).ss 0⟩) (DBig.mk n2 ⟨(Fr.rE (q ≠ 0) (Rat.divInt p q)), (G2 2).ss 1⟩))) (fun _ _ => by kernel_rfl) (fun _ _ => (Eq.trans (by kernel_rfl) (cong2 (fun (x0 : Int) (x2 : Int) => (.agg #[iv x0, ((G2 2).ss 0).v, iv x2, ((G2 2).ss 1).v] : Value)) e0 e2)).trans (by kernel_rfl)) (fun _ _ => trivial)
theorem lof_ctv (p q : Int) (hp : -9223372036854775808 ≤ p ∧ p ≤ 9223372036854775807) (hq : -9223372036854775808 ≤ q ∧ q ≤ 9223372036854775807) (rv0 : Int) (erv0 : rv0 = Fr.rS (q ≠ 0) (Rat.divInt p q)) (rv1 : List Int) (erv1 : rv1 = Fr.rD (q ≠ 0) (Rat.divInt p q)) (rv2 : Int) (erv2 : rv2 = Fr.rT (q ≠ 0)) (rv3 : List Int) (erv3 : rv3 = Fr.rE (q ≠ 0) (Rat.divInt p q)) :
    Ct Try.prog 12 #[iv p, iv q] [] [] (fun g => ag (DFrac.mk (DBig.mk rv0 ⟨rv1, (g.ss 0)⟩) (DBig.mk rv2 ⟨rv3, (g.ss 1)⟩))) (fun g => [fs true rv1 (g.ss 0), fs true rv3 (g.ss 1)]) (fun g => []) (fun g => []) := by
  subst erv0 erv1 erv2 erv3; exact lof_ct p q hp hq

theorem same30t_ct (a : List DFrac) (as_ : SV) (b : List DFrac) (bs : SV) (hT : a.map Fr.sh4 = b.map Fr.sh4) :
    Cp Try.prog 13 #[as_.v, bs.v] [fs true a as_, fs true b bs] (bv (true)) := by
  have h := same30_ct  a as_ b bs ; rw [decide_eq_true hT] at h; exact h

theorem sameintst_ct (a : List Int) (as_ : SV) (b : List Int) (bs : SV) (hT : a = b) :
    Cp Try.prog 31 #[as_.v, bs.v] [fs true a as_, fs true b bs] (bv (true)) := by
  have h := sameints_ct  a as_ b bs ; rw [decide_eq_true hT] at h; exact h

theorem same5t_ct (a_P_Sign : Int) (a_P_Digits : List Int) (a_P_Digitss : SV) (a_Q_Sign : Int) (a_Q_Digits : List Int) (a_Q_Digitss : SV) (b_P_Sign : Int) (b_P_Digits : List Int) (b_P_Digitss : SV) (b_Q_Sign : Int) (b_Q_Digits : List Int) (b_Q_Digitss : SV) (hT : a_P_Sign = b_P_Sign ∧ a_P_Digits = b_P_Digits ∧ a_Q_Sign = b_Q_Sign ∧ a_Q_Digits = b_Q_Digits) :
    Cp Try.prog 41 #[ag (DFrac.mk (DBig.mk a_P_Sign ⟨a_P_Digits, a_P_Digitss⟩) (DBig.mk a_Q_Sign ⟨a_Q_Digits, a_Q_Digitss⟩)), ag (DFrac.mk (DBig.mk b_P_Sign ⟨b_P_Digits, b_P_Digitss⟩) (DBig.mk b_Q_Sign ⟨b_Q_Digits, b_Q_Digitss⟩))] [fs true a_P_Digits a_P_Digitss, fs true a_Q_Digits a_Q_Digitss, fs true b_P_Digits b_P_Digitss, fs true b_Q_Digits b_Q_Digitss] (bv (true)) := by
  have h := same5_ct  a_P_Sign a_P_Digits a_P_Digitss a_Q_Sign a_Q_Digits a_Q_Digitss b_P_Sign b_P_Digits b_P_Digitss b_Q_Sign b_Q_Digits b_Q_Digitss ; rw [decide_eq_true hT] at h; exact h

end Kb
set_option linter.unusedVariables false
set_option linter.unusedSectionVars false
set_option linter.unusedSimpArgs false
namespace Kb
open Go Go.Proofs
set_option maxRecDepth 10000 in
theorem whole_ct (total : Int) (l : List Int) (ls : SV) (shares : List DFrac) (sharess : SV) (hP : Fr.WholeP total l shares) :
    Cp Try.prog 16 #[iv total, ls.v, sharess.v] [fs true l ls, fs true shares sharess] (bv true) := by
  refine V.fn mo Try.func16 68 1 (by kernel_rfl) fun w H ε k0 => ?_
  obtain ⟨⟨kl1, -⟩, ⟨kl2, -⟩, -⟩ : Lq l ls.v ∧ Lq shares sharess.v ∧ True := kn k0 (by kernel_rfl)
  clear k0
  have hPl := hP.len; have hPt1 := hP.t0.1; have hPt2 := hP.t0.2; have hPw := hP.wb.1
  refine V.go [.kb false] (fun _ _ => by kernel_rfl) fun _ _ G1 => ?_
  intro S1 t1
  refine V.go [.k (ls.v),
    .ln (kf false (.f 0) l (fun _ => ls)),
    .k (sharess.v),
    .ln (kf false (.f 1) shares (fun _ => sharess)),
    .k (bv (!(decide ((l.length : Int) = (shares.length : Int)))))] (fun _ _ => by kernel_rfl) fun _ _ G2 => ?_
  intro S2 t2
  refine V.cond (b := !(decide ((l.length : Int) = (shares.length : Int)))) (iNT iDF) (iNF iDT) (by kernel_rfl) (fun q1 => ?_) (fun q2 => ?_)
  · skip
    exfalso; omega
  · skip
    refine V.go [.k (iv 0)] (fun _ _ => by kernel_rfl) fun _ _ G3 => ?_
    intro S3 t3
    refine V.go [.k (iv 0)] (fun _ _ => by kernel_rfl) fun _ _ G4 => ?_
    intro S4 t4
    refine V.loop (γ := Int × Int) (fun ⟨sum, i⟩ => ⟨[(0, iv total), (1, ls.v), (2, sharess.v), (7, iv sum), (8, iv i)], [fs false l ls, fs false shares sharess], [.no]⟩) (fun ⟨sum, i⟩ => (0 ≤ i) ∧ (i ≤ (l.length : Int)) ∧ (0 ≤ i) ∧ (i ≤ (l.length : Int)) ∧ (sum = Fr.sumI (l.take i.toNat)) ∧ (0 ≤ sum ∧ sum ≤ i * 2199023255552)) (fun ⟨sum, i⟩ => ((l.length : Int) - i).toNat) (0, 0) (by kernel_rfl) [0, 1] (by kernel_rfl) ?_ ?_
    · skip
      refine ⟨?_, ?_, ?_, ?_, ?_, ?_⟩
      · show 0 ≤ (0 : Int)
        first | omega | rfl | (simp; done) | (subst_vars; simp; done)
      · show (0 : Int) ≤ (l.length : Int)
        first | omega | rfl | (simp; done) | (subst_vars; simp; done)
      · show 0 ≤ (0 : Int)
        omega
      · show (0 : Int) ≤ (l.length : Int)
        omega
      · show (0 : Int) = Fr.sumI (l.take (0 : Int).toNat)
        rfl
      · show 0 ≤ (0 : Int) ∧ (0 : Int) ≤ (0 : Int) * 2199023255552
        omega
    · rintro ⟨sum, i⟩ hF1 kw5 Z1 hZ1
      have hF1 : (0 ≤ i) ∧ (i ≤ (l.length : Int)) ∧ (0 ≤ i) ∧ (i ≤ (l.length : Int)) ∧ (sum = Fr.sumI (l.take i.toNat)) ∧ (0 ≤ sum ∧ sum ≤ i * 2199023255552) := hF1
      obtain ⟨hf1, hf2, hf3, hf4, hf5, hf6⟩ := hF1
      clear kw5
      refine V.go [.k (iv i),
        .k (ls.v),
        .ln (kf false (.f 0) l (fun _ => ls)),
        .k (bv (decide (i < (l.length : Int))))] (fun _ _ => by kernel_rfl) fun _ _ G5 => ?_
      intro S5 t5
      refine V.cond (b := decide (i < (l.length : Int))) iDT iDF (by kernel_rfl) (fun q3 => ?_) (fun q4 => ?_)
      · skip
        refine nm (shares.getD i.toNat default : DFrac) fun x1 hx1 => ?_
        refine nm (Bg.sgn total : Int) fun n1 hn1 => ?_
        refine nm (Bg.dig total.natAbs : List Int) fun l1 hl1 => ?_
        have hl1n := congrArg List.length hl1
        refine nm (Bg.dig 1 : List Int) fun l2 hl2 => ?_
        have hl2n := congrArg List.length hl2
        refine nm (Fr.rS (Fr.FrB x1.P.Sign x1.P.Digits.l x1.Q.Sign x1.Q.Digits.l ∧ Fr.FrB n1 l1 (1 : Int) l2) ((Fr.fq x1.P.Sign x1.P.Digits.l x1.Q.Digits.l) * (Fr.fq n1 l1 l2)) : Int) fun n2 hn2 => ?_
        refine nm (Fr.rD (Fr.FrB x1.P.Sign x1.P.Digits.l x1.Q.Sign x1.Q.Digits.l ∧ Fr.FrB n1 l1 (1 : Int) l2) ((Fr.fq x1.P.Sign x1.P.Digits.l x1.Q.Digits.l) * (Fr.fq n1 l1 l2)) : List Int) fun l3 hl3 => ?_
        have hl3n := congrArg List.length hl3
        refine nm (Fr.rT (Fr.FrB x1.P.Sign x1.P.Digits.l x1.Q.Sign x1.Q.Digits.l ∧ Fr.FrB n1 l1 (1 : Int) l2) : Int) fun n3 hn3 => ?_
        refine nm (Fr.rE (Fr.FrB x1.P.Sign x1.P.Digits.l x1.Q.Sign x1.Q.Digits.l ∧ Fr.FrB n1 l1 (1 : Int) l2) ((Fr.fq x1.P.Sign x1.P.Digits.l x1.Q.Digits.l) * (Fr.fq n1 l1 l2)) : List Int) fun l4 hl4 => ?_
        have hl4n := congrArg List.length hl4
        refine nm (if ¬ (Fr.FrB x1.P.Sign x1.P.Digits.l x1.Q.Sign x1.Q.Digits.l ∧ Fr.FrB n1 l1 (1 : Int) l2) then (1 : Int) else 0 : Int) fun n4 hn4 => ?_
        have hxm := getD_mem (l := shares) (k := i.toNat) (by omega) hx1
        have hxr := hP.rt _ hxm; have hxl := hP.wb.2 _ hxm
        have hxl1 := hxl.1; have hxl2 := hxl.2
        have hNi := hP.n i.toNat (by omega)
        rw [← hx1] at hNi
        have zt : Fr.Fz n1 l1 1 l2 ((total : Int) : Rat) := by subst_vars; exact Fr.intz total
        have hzt := zt.len (Fr.Hb.int (by omega)); have hzt1 := hzt.1; have hzt2 := hzt.2
        have zx := Fr.Fz.of ⟨hxr, zt.rt⟩ hn2 hl3 hn3 hl4
        rw [zt.v] at zx
        have zxb := (hxr.z.hb hxl.1 hxl.2).mul (Fr.Hb.int (n := total) (by omega))
        have hzx := zx.len zxb; have hzx1 := hzx.1; have hzx2 := hzx.2
        refine V.reg [.k (sharess.v),
          .k (iv i),
          .ix g0 (kf false (.f 1) shares (fun _ => sharess)) i (fun _ => ⟨by omega, by omega⟩),
          .le g0 (kf false (.f 1) shares (fun _ => sharess)) i none true x1 hx1 (fun _ => ⟨by omega, by omega⟩) true (fun _ => Dat.cells x1),
          .k (iv total),
          .ct g0 5 18 false [] [] [] (fun _ G => fint_ctv total (by omega) n1 hn1 l1 hl1 l2 hl2),
          .ct g0 6 11 false [] [] [(kx false (.g 3 0) x1 x1.P.Digits.l (fun _ => x1.P.Digits.s) (fun _ H (h : Dat.good H (x1 : DFrac)) => h.1)).a, (kx false (.g 3 0) x1 x1.Q.Digits.l (fun _ => x1.Q.Digits.s) (fun _ H (h : Dat.good H (x1 : DFrac)) => h.2)).a, (kf true (.g 5 0) l1 (fun G => (G 5).ss 0)).a, (kf true (.g 5 1) l2 (fun G => (G 5).ss 1)).a] (fun _ G => fmul_ctv x1.P.Sign x1.P.Digits.l x1.P.Digits.s x1.Q.Sign x1.Q.Digits.l x1.Q.Digits.s n1 l1 ((G 5).ss 0) (1 : Int) l2 ((G 5).ss 1) (by omega) (by omega) (by omega) (by omega) n2 hn2 l3 hl3 n3 hn3 l4 hl4 n4 hn4),
          .v fun G => .tuple #[ag (DFrac.mk (DBig.mk n2 ⟨l3, (G 6).ss 0⟩) (DBig.mk n3 ⟨l4, (G 6).ss 1⟩)), iv n4],
          .v fun G => ag (DFrac.mk (DBig.mk n2 ⟨l3, (G 6).ss 0⟩) (DBig.mk n3 ⟨l4, (G 6).ss 1⟩)),
          .k (iv n4),
          .nb 10 0 (fun b => pp b 0) 33 (fun _ => ca (DFrac.mk (DBig.mk 0 ⟨[], {}⟩) (DBig.mk 0 ⟨[], {}⟩))),
          .st 0 (fun G => .blk ((G 10).b) (ca (DFrac.mk (DBig.mk n2 ⟨l3, (G 6).ss 0⟩) (DBig.mk n3 ⟨l4, (G 6).ss 1⟩))) 33),
          .k (iv n4)] (fun _ _ => by kernel_rfl) fun _ _ G6 kw7 => ?_
        intro S6 t6
        obtain ⟨⟨⟨kl3, -⟩, ⟨kl4, -⟩⟩, ⟨kl5, -⟩, ⟨kl6, -⟩, ⟨kl7, -⟩, ⟨kl8, -⟩, -⟩ : (Lq x1.P.Digits.l x1.P.Digits.s.v ∧ Lq x1.Q.Digits.l x1.Q.Digits.s.v) ∧ Lq l1 (((G6 5).ss 0).v) ∧ Lq l2 (((G6 5).ss 1).v) ∧ Lq l3 (((G6 6).ss 0).v) ∧ Lq l4 (((G6 6).ss 1).v) ∧ True := kn kw7 (by kernel_rfl)
        clear kw7
        refine nm (l.getD i.toNat default : Int) fun v1 hv1 => ?_
        refine nm (Bg.sgn (v1 - 1) : Int) fun n5 hn5 => ?_
        refine nm (Bg.dig (v1 - 1).natAbs : List Int) fun l5 hl5 => ?_
        have hl5n := congrArg List.length hl5
        refine nm (if Fr.FrB n5 l5 (1 : Int) l2 ∧ Fr.FrB n2 l3 n3 l4 then Fr.cmpQ (Fr.fq n5 l5 l2) (Fr.fq n2 l3 l4) else 0 : Int) fun n6 hn6 => ?_
        refine nm (Bg.sgn (v1 + 1) : Int) fun n7 hn7 => ?_
        refine nm (Bg.dig (v1 + 1).natAbs : List Int) fun l6 hl6 => ?_
        have hl6n := congrArg List.length hl6
        refine nm (if Fr.FrB n7 l6 (1 : Int) l2 ∧ Fr.FrB n2 l3 n3 l4 then Fr.cmpQ (Fr.fq n7 l6 l2) (Fr.fq n2 l3 l4) else 0 : Int) fun n8 hn8 => ?_
        refine nm (((decide (v1 < 0)) || (decide (0 ≤ n6))) || (decide (n8 ≤ 0)) : Bool) fun p1 hp1 => ?_
        rw [← hv1] at hNi
        obtain ⟨⟨hvA, hvB⟩, hnA, hnB⟩ := hNi
        have hT1 := hP.t0.1; have hT2 := hP.t0.2
        have zm : Fr.Fz n5 l5 1 l2 ((v1 - 1 : Int) : Rat) := by subst_vars; exact Fr.intz _
        have zp : Fr.Fz n7 l6 1 l2 ((v1 + 1 : Int) : Rat) := by subst_vars; exact Fr.intz _
        have hzm := zm.len (Fr.Hb.int (by omega)); have hzm1 := hzm.1; have hzm2 := hzm.2; have hzp := zp.len (Fr.Hb.int (by omega)); have hzp1 := hzp.1; have hzp2 := hzp.2
        have hc1 : n6 < 0 := by rw [hn6, if_pos ⟨zm.rt, zx.rt⟩, zm.v, zx.v, Fr.cmpQ_neg]; exact hnA
        have hc2 : 0 < n8 := by rw [hn8, if_pos ⟨zp.rt, zx.rt⟩, zp.v, zx.v, Fr.cmpQ_pos]; exact hnB
        refine V.go [.k (ls.v),
          .k (iv i),
          .ix g0 (kf false (.f 0) l (fun _ => ls)) i (fun _ => ⟨by omega, by omega⟩),
          .le g0 (kf false (.f 0) l (fun _ => ls)) i none false v1 hv1 (fun _ => ⟨by omega, by omega⟩) false (fun _ => [iv v1]),
          .k (bv (decide (v1 < 0))),
          .k (bv (decide (v1 < 0))),
          .k (ls.v),
          .k (iv i),
          .ix (gF (b := decide (v1 < 0)) iDF) (kf false (.f 0) l (fun _ => ls)) i (fun hg => ⟨by omega, by omega⟩),
          .le (gF (b := decide (v1 < 0)) iDF) (kf false (.f 0) l (fun _ => ls)) i none false v1 hv1 (fun hg => ⟨by omega, by omega⟩) false (fun _ => [iv v1]),
          .arg (gF (b := decide (v1 < 0)) iDF) (v1 - 1) (v1 - 1) rfl (fun hg => by omega),
          .ct (gF (b := decide (v1 < 0)) iDF) 11 18 false [] [] [] (fun hg G => fint_ctv (v1 - 1) (by omega) n5 hn5 l5 hl5 l2 hl2),
          .ld 0 0 true (fun _ => Dat.cells (DFrac.mk (DBig.mk n2 ⟨l3, (G6 6).ss 0⟩) (DBig.mk n3 ⟨l4, (G6 6).ss 1⟩))),
          .cp (gF (b := decide (v1 < 0)) iDF) 13 49 [(kf true (.g 11 0) l5 (fun G => (G 11).ss 0)).a, (kf true (.g 11 1) l2 (fun G => (G 11).ss 1)).a, (kf true (.f 5) l3 (fun _ => (G6 6).ss 0)).a, (kf true (.f 6) l4 (fun _ => (G6 6).ss 1)).a] (fun hg G => fcmp_ctv n5 l5 ((G 11).ss 0) (1 : Int) l2 ((G 11).ss 1) n2 l3 ((G6 6).ss 0) n3 l4 ((G6 6).ss 1) (by omega) (by omega) (by omega) (by omega) n6 hn6),
          .k (bv (decide (0 ≤ n6))),
          .or g0 false (decide (v1 < 0)) (decide (0 ≤ n6)),
          .k (bv ((decide (v1 < 0)) || (decide (0 ≤ n6)))),
          .k (ls.v),
          .k (iv i),
          .ix (gF (b := (decide (v1 < 0)) || (decide (0 ≤ n6))) (iOF iDF iDF)) (kf false (.f 0) l (fun _ => ls)) i (fun hg => ⟨by omega, by omega⟩),
          .le (gF (b := (decide (v1 < 0)) || (decide (0 ≤ n6))) (iOF iDF iDF)) (kf false (.f 0) l (fun _ => ls)) i none false v1 hv1 (fun hg => ⟨by omega, by omega⟩) false (fun _ => [iv v1]),
          .arg (gF (b := (decide (v1 < 0)) || (decide (0 ≤ n6))) (iOF iDF iDF)) (v1 + 1) (v1 + 1) rfl (fun hg => by omega),
          .ct (gF (b := (decide (v1 < 0)) || (decide (0 ≤ n6))) (iOF iDF iDF)) 22 18 false [] [] [] (fun hg G => fint_ctv (v1 + 1) (by omega) n7 hn7 l6 hl6 l2 hl2),
          .ld 0 0 true (fun _ => Dat.cells (DFrac.mk (DBig.mk n2 ⟨l3, (G6 6).ss 0⟩) (DBig.mk n3 ⟨l4, (G6 6).ss 1⟩))),
          .cp (gF (b := (decide (v1 < 0)) || (decide (0 ≤ n6))) (iOF iDF iDF)) 24 49 [(kf true (.g 22 0) l6 (fun G => (G 22).ss 0)).a, (kf true (.g 22 1) l2 (fun G => (G 22).ss 1)).a, (kf true (.f 5) l3 (fun _ => (G6 6).ss 0)).a, (kf true (.f 6) l4 (fun _ => (G6 6).ss 1)).a] (fun hg G => fcmp_ctv n7 l6 ((G 22).ss 0) (1 : Int) l2 ((G 22).ss 1) n2 l3 ((G6 6).ss 0) n3 l4 ((G6 6).ss 1) (by omega) (by omega) (by omega) (by omega) n8 hn8),
          .k (bv (decide (n8 ≤ 0))),
          .orn g0 false ((decide (v1 < 0)) || (decide (0 ≤ n6))) (decide (n8 ≤ 0)) p1 hp1] (fun _ _ => by kernel_rfl) fun _ _ G7 => ?_
        intro S7 t7
        refine V.cond (b := p1) (iN hp1 (iOT (iOT iDT iDT) iDT)) (iN hp1 (iOF (iOF iDF iDF) iDF)) (by kernel_rfl) (fun q5 => ?_) (fun q6 => ?_)
        · skip
          exfalso; have hqq := q5; omega
        · skip
          refine V.go [.k (iv sum),
            .k (ls.v),
            .k (iv i),
            .ix g0 (kf false (.f 0) l (fun _ => ls)) i (fun _ => ⟨by omega, by omega⟩),
            .le g0 (kf false (.f 0) l (fun _ => ls)) i none false v1 hv1 (fun _ => ⟨by omega, by omega⟩) false (fun _ => [iv v1]),
            .a (sum + v1) (by omega) (by omega),
            .k (iv (sum + v1))] (fun _ _ => by kernel_rfl) fun _ _ G8 => ?_
          intro S8 t8
          refine V.go [.k (iv i),
            .a (i + 1) (by omega) (by omega),
            .k (iv (i + 1))] (fun _ _ => by kernel_rfl) fun _ _ G9 => ?_
          intro S9 t9
          refine V.rnd hZ1 (sum + v1, i + 1) [0, 1] (by kernel_rfl) ?_ ?_
          · skip
            refine ⟨?_, ?_, ?_, ?_, ?_, ?_⟩
            · show 0 ≤ (i + 1)
              omega
            · show (i + 1) ≤ (l.length : Int)
              omega
            · show 0 ≤ (i + 1)
              omega
            · show (i + 1) ≤ (l.length : Int)
              omega
            · show (sum + v1) = Fr.sumI (l.take (i + 1).toNat)
              rw [show (i + 1).toNat = i.toNat + 1 by omega, Fr.sumI_take (by omega), ← hf5, ← hv1]
            · show 0 ≤ (sum + v1) ∧ (sum + v1) ≤ (i + 1) * 2199023255552
              omega
          · show ((l.length : Int) - (i + 1)).toNat < ((l.length : Int) - i).toNat
            omega
      · skip
        refine V.go [.k (iv sum),
          .k (iv total),
          .k (bv (decide (sum = total))),
          .k (bv (decide (sum = total)))] (fun _ _ => by kernel_rfl) fun _ _ G10 => ?_
        intro S10 t10
        have e0 : (decide (sum = total)) = true := by
          refine decide_eq_true ?_
          rw [hf5, List.take_of_length_le (by omega)]; exact hP.sum
        exact V.ret [0] [] [] [] [] [] (bv (decide (sum = total))) (fun _ _ => by kernel_rfl) (fun _ _ => (Eq.trans (by kernel_rfl) (cong1 (fun (x0 : Bool) => (bv x0 : Value)) e0)).trans (by kernel_rfl)) (fun _ _ => trivial)

set_option maxRecDepth 10000 in
theorem fair_ct (n : List Int) (ns : SV) (shares : List DFrac) (sharess : SV) (hP : Fr.FairP n shares) :
    Cp Try.prog 17 #[ns.v, sharess.v] [fs true n ns, fs true shares sharess] (bv true) := by
  refine V.fn mo Try.func17 86 0 (by kernel_rfl) fun w H ε k0 => ?_
  obtain ⟨⟨kl1, -⟩, ⟨kl2, -⟩, -⟩ : Lq n ns.v ∧ Lq shares sharess.v ∧ True := kn k0 (by kernel_rfl)
  clear k0
  have hPl := hP.len; have hPw := hP.wb.1
  refine V.go [.kb false] (fun _ _ => by kernel_rfl) fun _ _ G1 => ?_
  intro S1 t1
  refine V.go [.k (iv 0)] (fun _ _ => by kernel_rfl) fun _ _ G2 => ?_
  intro S2 t2
  refine V.loop (γ := Int) (fun i => ⟨[(0, ns.v), (1, sharess.v), (5, iv i)], [fs false n ns, fs false shares sharess], []⟩) (fun i => (0 ≤ i) ∧ (i ≤ (n.length : Int))) (fun i => ((n.length : Int) - i).toNat) 0 (by kernel_rfl) [0, 1] (by kernel_rfl) ?_ ?_
  · skip
    refine ⟨?_, ?_⟩
    · show 0 ≤ (0 : Int)
      first | omega | rfl | (simp; done) | (subst_vars; simp; done)
    · show (0 : Int) ≤ (n.length : Int)
      first | omega | rfl | (simp; done) | (subst_vars; simp; done)
  · rintro i hF1 kw3 Z1 hZ1
    have hF1 : (0 ≤ i) ∧ (i ≤ (n.length : Int)) := hF1
    obtain ⟨hf1, hf2⟩ := hF1
    clear kw3
    refine nm ((decide (i < (n.length : Int))) && (decide (i < (shares.length : Int))) : Bool) fun p1 hp1 => ?_
    refine V.go [.k (iv i),
      .k (ns.v),
      .ln (kf false (.f 0) n (fun _ => ns)),
      .k (bv (decide (i < (n.length : Int)))),
      .k (bv (decide (i < (n.length : Int)))),
      .k (iv i),
      .k (sharess.v),
      .ln (kf false (.f 1) shares (fun _ => sharess)),
      .k (bv (decide (i < (shares.length : Int)))),
      .andn g0 false (decide (i < (n.length : Int))) (decide (i < (shares.length : Int))) p1 hp1] (fun _ _ => by kernel_rfl) fun _ _ G3 => ?_
    intro S3 t3
    refine V.cond (b := p1) (iN hp1 (iAT iDT iDT)) (iN hp1 (iAF iDF iDF)) (by kernel_rfl) (fun q1 => ?_) (fun q2 => ?_)
    · skip
      refine V.go [.k (iv 0)] (fun _ _ => by kernel_rfl) fun _ _ G4 => ?_
      intro S4 t4
      refine V.loop (γ := Int) (fun k => ⟨[(0, ns.v), (1, sharess.v), (5, iv i), (6, iv k)], [fs false n ns, fs false shares sharess], []⟩) (fun k => (0 ≤ k) ∧ (k ≤ (n.length : Int))) (fun k => ((n.length : Int) - k).toNat) 0 (by kernel_rfl) [0, 1] (by kernel_rfl) ?_ ?_
      · skip
        refine ⟨?_, ?_⟩
        · show 0 ≤ (0 : Int)
          first | omega | rfl | (simp; done) | (subst_vars; simp; done)
        · show (0 : Int) ≤ (n.length : Int)
          first | omega | rfl | (simp; done) | (subst_vars; simp; done)
      · rintro k hF2 kw6 Z2 hZ2
        have hF2 : (0 ≤ k) ∧ (k ≤ (n.length : Int)) := hF2
        obtain ⟨hf3, hf4⟩ := hF2
        clear kw6
        refine nm ((decide (k < (n.length : Int))) && (decide (k < (shares.length : Int))) : Bool) fun p2 hp2 => ?_
        refine V.go [.k (iv k),
          .k (ns.v),
          .ln (kf false (.f 0) n (fun _ => ns)),
          .k (bv (decide (k < (n.length : Int)))),
          .k (bv (decide (k < (n.length : Int)))),
          .k (iv k),
          .k (sharess.v),
          .ln (kf false (.f 1) shares (fun _ => sharess)),
          .k (bv (decide (k < (shares.length : Int)))),
          .andn g0 false (decide (k < (n.length : Int))) (decide (k < (shares.length : Int))) p2 hp2] (fun _ _ => by kernel_rfl) fun _ _ G5 => ?_
        intro S5 t5
        refine V.cond (b := p2) (iN hp2 (iAT iDT iDT)) (iN hp2 (iAF iDF iDF)) (by kernel_rfl) (fun q3 => ?_) (fun q4 => ?_)
        · skip
          refine nm (shares.getD i.toNat default : DFrac) fun x1 hx1 => ?_
          refine nm (shares.getD k.toNat default : DFrac) fun x2 hx2 => ?_
          refine nm (if Fr.FrB x1.P.Sign x1.P.Digits.l x1.Q.Sign x1.Q.Digits.l ∧ Fr.FrB x2.P.Sign x2.P.Digits.l x2.Q.Sign x2.Q.Digits.l then Fr.cmpQ (Fr.fq x1.P.Sign x1.P.Digits.l x1.Q.Digits.l) (Fr.fq x2.P.Sign x2.P.Digits.l x2.Q.Digits.l) else 0 : Int) fun n1 hn1 => ?_
          have hx1m := getD_mem (l := shares) (k := i.toNat) (by omega) hx1; have hx1r := hP.rt _ hx1m; have hx1l := hP.wb.2 _ hx1m; have hx11 := hx1l.1; have hx12 := hx1l.2
          have hx2m := getD_mem (l := shares) (k := k.toNat) (by omega) hx2; have hx2r := hP.rt _ hx2m; have hx2l := hP.wb.2 _ hx2m; have hx21 := hx2l.1; have hx22 := hx2l.2
          have hcc : n1 = Fr.cmpQ (Fr.qv x1) (Fr.qv x2) := by rw [hn1, if_pos ⟨hx1r, hx2r⟩]; rfl
          have hff := hP.f i.toNat k.toNat (by omega) (by omega)
          rw [← hx1, ← hx2] at hff
          have hcp : 0 < n1 ↔ Fr.qv x2 < Fr.qv x1 := by rw [hcc]; exact Fr.cmpQ_pos
          have hcz : n1 = 0 ↔ Fr.qv x1 = Fr.qv x2 := by rw [hcc]; exact Fr.cmpQ_zero
          refine V.reg [.k (sharess.v),
            .k (iv i),
            .ix g0 (kf false (.f 1) shares (fun _ => sharess)) i (fun _ => ⟨by omega, by omega⟩),
            .le g0 (kf false (.f 1) shares (fun _ => sharess)) i none true x1 hx1 (fun _ => ⟨by omega, by omega⟩) true (fun _ => Dat.cells x1),
            .k (sharess.v),
            .k (iv k),
            .ix g0 (kf false (.f 1) shares (fun _ => sharess)) k (fun _ => ⟨by omega, by omega⟩),
            .le g0 (kf false (.f 1) shares (fun _ => sharess)) k none true x2 hx2 (fun _ => ⟨by omega, by omega⟩) true (fun _ => Dat.cells x2),
            .cp g0 8 49 [(kx false (.g 3 0) x1 x1.P.Digits.l (fun _ => x1.P.Digits.s) (fun _ H (h : Dat.good H (x1 : DFrac)) => h.1)).a, (kx false (.g 3 0) x1 x1.Q.Digits.l (fun _ => x1.Q.Digits.s) (fun _ H (h : Dat.good H (x1 : DFrac)) => h.2)).a, (kx false (.g 7 0) x2 x2.P.Digits.l (fun _ => x2.P.Digits.s) (fun _ H (h : Dat.good H (x2 : DFrac)) => h.1)).a, (kx false (.g 7 0) x2 x2.Q.Digits.l (fun _ => x2.Q.Digits.s) (fun _ H (h : Dat.good H (x2 : DFrac)) => h.2)).a] (fun _ G => fcmp_ctv x1.P.Sign x1.P.Digits.l x1.P.Digits.s x1.Q.Sign x1.Q.Digits.l x1.Q.Digits.s x2.P.Sign x2.P.Digits.l x2.P.Digits.s x2.Q.Sign x2.Q.Digits.l x2.Q.Digits.s (by omega) (by omega) (by omega) (by omega) n1 hn1),
            .k (iv n1)] (fun _ _ => by kernel_rfl) fun _ _ G6 kw8 => ?_
          intro S6 t6
          obtain ⟨⟨⟨kl3, -⟩, ⟨kl4, -⟩⟩, ⟨⟨kl5, -⟩, ⟨kl6, -⟩⟩, -⟩ : (Lq x1.P.Digits.l x1.P.Digits.s.v ∧ Lq x1.Q.Digits.l x1.Q.Digits.s.v) ∧ (Lq x2.P.Digits.l x2.P.Digits.s.v ∧ Lq x2.Q.Digits.l x2.Q.Digits.s.v) ∧ True := kn kw8 (by kernel_rfl)
          clear kw8
          refine nm (n.getD i.toNat default : Int) fun v1 hv1 => ?_
          refine nm (n.getD k.toNat default : Int) fun v2 hv2 => ?_
          refine nm ((decide (1 < v1 - v2)) || ((decide (i < k)) && (decide (v1 < v2))) : Bool) fun p3 hp3 => ?_
          refine nm (((decide (0 < n1)) && (decide (v1 < v2))) || ((decide (n1 = 0)) && p3) : Bool) fun p4 hp4 => ?_
          rw [← hv1, ← hv2] at hff
          have hb1 := hP.b _ (getD_mem (by omega) hv1); have hb2 := hP.b _ (getD_mem (by omega) hv2)
          refine V.go [.k (iv n1),
            .k (bv (decide (0 < n1))),
            .k (bv (decide (0 < n1))),
            .k (ns.v),
            .k (iv i),
            .ix (gT (b := decide (0 < n1)) iDT) (kf false (.f 0) n (fun _ => ns)) i (fun hg => ⟨by omega, by omega⟩),
            .le (gT (b := decide (0 < n1)) iDT) (kf false (.f 0) n (fun _ => ns)) i none false v1 hv1 (fun hg => ⟨by omega, by omega⟩) false (fun _ => [iv v1]),
            .k (ns.v),
            .k (iv k),
            .ix (gT (b := decide (0 < n1)) iDT) (kf false (.f 0) n (fun _ => ns)) k (fun hg => ⟨by omega, by omega⟩),
            .le (gT (b := decide (0 < n1)) iDT) (kf false (.f 0) n (fun _ => ns)) k none false v2 hv2 (fun hg => ⟨by omega, by omega⟩) false (fun _ => [iv v2]),
            .k (bv (decide (v1 < v2))),
            .and g0 false (decide (0 < n1)) (decide (v1 < v2)),
            .k (bv ((decide (0 < n1)) && (decide (v1 < v2)))),
            .k (iv n1),
            .k (bv (decide (n1 = 0))),
            .k (bv (decide (n1 = 0))),
            .k (ns.v),
            .k (iv i),
            .ix ((gF (b := (decide (0 < n1)) && (decide (v1 < v2))) (iAF iDF iDF)).T (b := decide (n1 = 0)) iDT) (kf false (.f 0) n (fun _ => ns)) i (fun hg => ⟨by omega, by omega⟩),
            .le ((gF (b := (decide (0 < n1)) && (decide (v1 < v2))) (iAF iDF iDF)).T (b := decide (n1 = 0)) iDT) (kf false (.f 0) n (fun _ => ns)) i none false v1 hv1 (fun hg => ⟨by omega, by omega⟩) false (fun _ => [iv v1]),
            .k (ns.v),
            .k (iv k),
            .ix ((gF (b := (decide (0 < n1)) && (decide (v1 < v2))) (iAF iDF iDF)).T (b := decide (n1 = 0)) iDT) (kf false (.f 0) n (fun _ => ns)) k (fun hg => ⟨by omega, by omega⟩),
            .le ((gF (b := (decide (0 < n1)) && (decide (v1 < v2))) (iAF iDF iDF)).T (b := decide (n1 = 0)) iDT) (kf false (.f 0) n (fun _ => ns)) k none false v2 hv2 (fun hg => ⟨by omega, by omega⟩) false (fun _ => [iv v2]),
            .arg ((gF (b := (decide (0 < n1)) && (decide (v1 < v2))) (iAF iDF iDF)).T (b := decide (n1 = 0)) iDT) (v1 - v2) (v1 - v2) rfl (fun hg => by omega),
            .k (bv (decide (1 < v1 - v2))),
            .k (bv (decide (1 < v1 - v2))),
            .k (iv i),
            .k (iv k),
            .k (bv (decide (i < k))),
            .k (bv (decide (i < k))),
            .k (ns.v),
            .k (iv i),
            .ix ((((gF (b := (decide (0 < n1)) && (decide (v1 < v2))) (iAF iDF iDF)).T (b := decide (n1 = 0)) iDT).F (b := decide (1 < v1 - v2)) iDF).T (b := decide (i < k)) iDT) (kf false (.f 0) n (fun _ => ns)) i (fun hg => ⟨by omega, by omega⟩),
            .le ((((gF (b := (decide (0 < n1)) && (decide (v1 < v2))) (iAF iDF iDF)).T (b := decide (n1 = 0)) iDT).F (b := decide (1 < v1 - v2)) iDF).T (b := decide (i < k)) iDT) (kf false (.f 0) n (fun _ => ns)) i none false v1 hv1 (fun hg => ⟨by omega, by omega⟩) false (fun _ => [iv v1]),
            .k (ns.v),
            .k (iv k),
            .ix ((((gF (b := (decide (0 < n1)) && (decide (v1 < v2))) (iAF iDF iDF)).T (b := decide (n1 = 0)) iDT).F (b := decide (1 < v1 - v2)) iDF).T (b := decide (i < k)) iDT) (kf false (.f 0) n (fun _ => ns)) k (fun hg => ⟨by omega, by omega⟩),
            .le ((((gF (b := (decide (0 < n1)) && (decide (v1 < v2))) (iAF iDF iDF)).T (b := decide (n1 = 0)) iDT).F (b := decide (1 < v1 - v2)) iDF).T (b := decide (i < k)) iDT) (kf false (.f 0) n (fun _ => ns)) k none false v2 hv2 (fun hg => ⟨by omega, by omega⟩) false (fun _ => [iv v2]),
            .k (bv (decide (v1 < v2))),
            .and (((gF (b := (decide (0 < n1)) && (decide (v1 < v2))) (iAF iDF iDF)).T (b := decide (n1 = 0)) iDT).F (b := decide (1 < v1 - v2)) iDF) false (decide (i < k)) (decide (v1 < v2)),
            .orn ((gF (b := (decide (0 < n1)) && (decide (v1 < v2))) (iAF iDF iDF)).T (b := decide (n1 = 0)) iDT) false (decide (1 < v1 - v2)) ((decide (i < k)) && (decide (v1 < v2))) p3 hp3,
            .and (gF (b := (decide (0 < n1)) && (decide (v1 < v2))) (iAF iDF iDF)) false (decide (n1 = 0)) p3,
            .orn g0 false ((decide (0 < n1)) && (decide (v1 < v2))) ((decide (n1 = 0)) && p3) p4 hp4] (fun _ _ => by kernel_rfl) fun _ _ G7 => ?_
          intro S7 t7
          refine V.cond (b := p4) (iN hp4 (iOT (iAT iDT iDT) (iAT iDT (iN hp3 (iOT iDT (iAT iDT iDT)))))) (iN hp4 (iOF (iAF iDF iDF) (iAF iDF (iN hp3 (iOF iDF (iAF iDF iDF)))))) (by kernel_rfl) (fun q5 => ?_) (fun q6 => ?_)
          · skip
            exfalso; have hqq := q5; rcases hqq with ⟨h1, h2⟩ | ⟨h1, h2⟩
            · have := hff.1 (hcp.1 h1); omega
            · have := hff.2 (hcz.1 h1); rcases h2 with h2 | ⟨h2, h3⟩
              · omega
              · have := this.2 (by omega); omega
          · skip
            refine V.go [.k (iv k),
              .a (k + 1) (by omega) (by omega),
              .k (iv (k + 1))] (fun _ _ => by kernel_rfl) fun _ _ G8 => ?_
            intro S8 t8
            refine V.rnd hZ2 (k + 1) [0, 1] (by kernel_rfl) ?_ ?_
            · skip
              refine ⟨?_, ?_⟩
              · show 0 ≤ (k + 1)
                first | omega | rfl | (simp; done) | (subst_vars; simp; done)
              · show (k + 1) ≤ (n.length : Int)
                first | omega | rfl | (simp; done) | (subst_vars; simp; done)
            · show ((n.length : Int) - (k + 1)).toNat < ((n.length : Int) - k).toNat
              omega
        · skip
          refine V.go [.k (iv i),
            .a (i + 1) (by omega) (by omega),
            .k (iv (i + 1))] (fun _ _ => by kernel_rfl) fun _ _ G9 => ?_
          intro S9 t9
          refine V.rnd hZ1 (i + 1) [0, 1] (by kernel_rfl) ?_ ?_
          · skip
            refine ⟨?_, ?_⟩
            · show 0 ≤ (i + 1)
              first | omega | rfl | (simp; done) | (subst_vars; simp; done)
            · show (i + 1) ≤ (n.length : Int)
              first | omega | rfl | (simp; done) | (subst_vars; simp; done)
          · show ((n.length : Int) - (i + 1)).toNat < ((n.length : Int) - i).toNat
            omega
    · skip
      refine V.go [.kb true] (fun _ _ => by kernel_rfl) fun _ _ G10 => ?_
      intro S10 t10
      exact V.ret [0] [] [] [] [] [] (bv true) (fun _ _ => by kernel_rfl) (fun _ _ => by kernel_rfl) (fun _ _ => trivial)

end Kb
set_option linter.unusedVariables false
set_option linter.unusedSectionVars false
set_option linter.unusedSimpArgs false
namespace Kb
open Go Go.Proofs
set_option maxRecDepth 10000 in
theorem sane30_ct :
    Cp Try.prog 8 #[] [] (bv true) := by
  refine V.fn mo Try.func8 117 0 (by kernel_rfl) fun w H ε k0 => ?_
  clear k0
  refine V.go [.kb false] (fun _ _ => by kernel_rfl) fun _ _ G1 => ?_
  intro S1 t1
  refine nm (Fr.rS ((1 : Int) ≠ 0) (Rat.divInt (1 : Int) (1 : Int)) : Int) fun n1 hn1 => ?_
  refine nm (Fr.rD ((1 : Int) ≠ 0) (Rat.divInt (1 : Int) (1 : Int)) : List Int) fun l1 hl1 => ?_
  have hl1n := congrArg List.length hl1
  refine nm (Fr.rT ((1 : Int) ≠ 0) : Int) fun n2 hn2 => ?_
  refine nm (Fr.rE ((1 : Int) ≠ 0) (Rat.divInt (1 : Int) (1 : Int)) : List Int) fun l2 hl2 => ?_
  have hl2n := congrArg List.length hl2
  refine nm (Fr.rS ((1 : Int) ≠ 0) (Rat.divInt (2 : Int) (1 : Int)) : Int) fun n3 hn3 => ?_
  refine nm (Fr.rD ((1 : Int) ≠ 0) (Rat.divInt (2 : Int) (1 : Int)) : List Int) fun l3 hl3 => ?_
  have hl3n := congrArg List.length hl3
  refine nm (Fr.rE ((1 : Int) ≠ 0) (Rat.divInt (2 : Int) (1 : Int)) : List Int) fun l4 hl4 => ?_
  have hl4n := congrArg List.length hl4
  refine nm (Fr.rS ((1 : Int) ≠ 0) (Rat.divInt (0 : Int) (1 : Int)) : Int) fun n4 hn4 => ?_
  refine nm (Fr.rD ((1 : Int) ≠ 0) (Rat.divInt (0 : Int) (1 : Int)) : List Int) fun l5 hl5 => ?_
  have hl5n := congrArg List.length hl5
  refine nm (Fr.rE ((1 : Int) ≠ 0) (Rat.divInt (0 : Int) (1 : Int)) : List Int) fun l6 hl6 => ?_
  have hl6n := congrArg List.length hl6
  refine nm (Fr.rS ((2 : Int) ≠ 0) (Rat.divInt (3 : Int) (2 : Int)) : Int) fun n5 hn5 => ?_
  refine nm (Fr.rD ((2 : Int) ≠ 0) (Rat.divInt (3 : Int) (2 : Int)) : List Int) fun l7 hl7 => ?_
  have hl7n := congrArg List.length hl7
  refine nm (Fr.rT ((2 : Int) ≠ 0) : Int) fun n6 hn6 => ?_
  refine nm (Fr.rE ((2 : Int) ≠ 0) (Rat.divInt (3 : Int) (2 : Int)) : List Int) fun l8 hl8 => ?_
  have hl8n := congrArg List.length hl8
  have z1_0 : Fr.Fz n1 l1 n2 l2 (Rat.divInt (1 : Int) (1 : Int)) := Fr.Fz.of (by decide : (1 : Int) ≠ 0) hn1 hl1 hn2 hl2
  have z1_1 : Fr.Fz n3 l3 n2 l4 (Rat.divInt (2 : Int) (1 : Int)) := Fr.Fz.of (by decide : (1 : Int) ≠ 0) hn3 hl3 hn2 hl4
  have z1_2 : Fr.Fz n4 l5 n2 l6 (Rat.divInt (0 : Int) (1 : Int)) := Fr.Fz.of (by decide : (1 : Int) ≠ 0) hn4 hl5 hn2 hl6
  have z1_3 : Fr.Fz n5 l7 n6 l8 (Rat.divInt (3 : Int) (2 : Int)) := Fr.Fz.of (by decide : (2 : Int) ≠ 0) hn5 hl7 hn6 hl8
  refine V.reg [.ct g0 0 12 false [] [] [] (fun _ G => lof_ctv (1 : Int) (1 : Int) (by omega) (by omega) n1 hn1 l1 hl1 n2 hn2 l2 hl2),
    .ct g0 1 12 false [] [] [] (fun _ G => lof_ctv (2 : Int) (1 : Int) (by omega) (by omega) n3 hn3 l3 hl3 n2 hn2 l4 hl4),
    .ct g0 2 12 false [] [] [] (fun _ G => lof_ctv (0 : Int) (1 : Int) (by omega) (by omega) n4 hn4 l5 hl5 n2 hn2 l6 hl6),
    .ct g0 3 12 false [] [] [] (fun _ G => lof_ctv (3 : Int) (2 : Int) (by omega) (by omega) n5 hn5 l7 hl7 n6 hn6 l8 hl8),
    .nrG 4 true 33 (fun G => ([DFrac.mk (DBig.mk n1 ⟨l1, (G 0).ss 0⟩) (DBig.mk n2 ⟨l2, (G 0).ss 1⟩), DFrac.mk (DBig.mk n3 ⟨l3, (G 1).ss 0⟩) (DBig.mk n2 ⟨l4, (G 1).ss 1⟩), DFrac.mk (DBig.mk n4 ⟨l5, (G 2).ss 0⟩) (DBig.mk n2 ⟨l6, (G 2).ss 1⟩), DFrac.mk (DBig.mk n5 ⟨l7, (G 3).ss 0⟩) (DBig.mk n6 ⟨l8, (G 3).ss 1⟩)] : List DFrac)) 4 (fun _ => rfl) [(kf true (.g 0 0) l1 (fun G => (G 0).ss 0)).a, (kf true (.g 0 1) l2 (fun G => (G 0).ss 1)).a, (kf true (.g 1 0) l3 (fun G => (G 1).ss 0)).a, (kf true (.g 1 1) l4 (fun G => (G 1).ss 1)).a, (kf true (.g 2 0) l5 (fun G => (G 2).ss 0)).a, (kf true (.g 2 1) l6 (fun G => (G 2).ss 1)).a, (kf true (.g 3 0) l7 (fun G => (G 3).ss 0)).a, (kf true (.g 3 1) l8 (fun G => (G 3).ss 1)).a] (fun _ _ h => (List.forall_mem_cons.2 ⟨(And.intro h.1 h.2.1), (List.forall_mem_cons.2 ⟨(And.intro h.2.2.1 h.2.2.2.1), (List.forall_mem_cons.2 ⟨(And.intro h.2.2.2.2.1 h.2.2.2.2.2.1), (List.forall_mem_cons.2 ⟨(And.intro h.2.2.2.2.2.2.1 h.2.2.2.2.2.2.2.1), (List.forall_mem_nil _)⟩)⟩)⟩)⟩)) (fun G => #[iv n1, ((G 0).ss 0).v, iv n2, ((G 0).ss 1).v, iv n3, ((G 1).ss 0).v, iv n2, ((G 1).ss 1).v, iv n4, ((G 2).ss 0).v, iv n2, ((G 2).ss 1).v, iv n5, ((G 3).ss 0).v, iv n6, ((G 3).ss 1).v]),
    .ct g0 5 10 false [] [] [(kg true (.g 4 0) (fun G => ([DFrac.mk (DBig.mk n1 ⟨l1, (G 0).ss 0⟩) (DBig.mk n2 ⟨l2, (G 0).ss 1⟩), DFrac.mk (DBig.mk n3 ⟨l3, (G 1).ss 0⟩) (DBig.mk n2 ⟨l4, (G 1).ss 1⟩), DFrac.mk (DBig.mk n4 ⟨l5, (G 2).ss 0⟩) (DBig.mk n2 ⟨l6, (G 2).ss 1⟩), DFrac.mk (DBig.mk n5 ⟨l7, (G 3).ss 0⟩) (DBig.mk n6 ⟨l8, (G 3).ss 1⟩)] : List DFrac)) (fun G => ⟨atB (G 4).b, 4, 4⟩))] (fun _ G => shares_ctv ([DFrac.mk (DBig.mk n1 ⟨l1, (G 0).ss 0⟩) (DBig.mk n2 ⟨l2, (G 0).ss 1⟩), DFrac.mk (DBig.mk n3 ⟨l3, (G 1).ss 0⟩) (DBig.mk n2 ⟨l4, (G 1).ss 1⟩), DFrac.mk (DBig.mk n4 ⟨l5, (G 2).ss 0⟩) (DBig.mk n2 ⟨l6, (G 2).ss 1⟩), DFrac.mk (DBig.mk n5 ⟨l7, (G 3).ss 0⟩) (DBig.mk n6 ⟨l8, (G 3).ss 1⟩)] : List DFrac) ⟨atB (G 4).b, 4, 4⟩ (Fr.Frs.wb (Fr.Frs.cons z1_0.rt z1_0.v (Fr.Frs.cons z1_1.rt z1_1.v (Fr.Frs.cons z1_2.rt z1_2.v (Fr.Frs.cons z1_3.rt z1_3.v Fr.Frs.nil)))) (by decide) (by decide +kernel)) (Fr.shE ([DFrac.mk (DBig.mk n1 ⟨l1, (G 0).ss 0⟩) (DBig.mk n2 ⟨l2, (G 0).ss 1⟩), DFrac.mk (DBig.mk n3 ⟨l3, (G 1).ss 0⟩) (DBig.mk n2 ⟨l4, (G 1).ss 1⟩), DFrac.mk (DBig.mk n4 ⟨l5, (G 2).ss 0⟩) (DBig.mk n2 ⟨l6, (G 2).ss 1⟩), DFrac.mk (DBig.mk n5 ⟨l7, (G 3).ss 0⟩) (DBig.mk n6 ⟨l8, (G 3).ss 1⟩)] : List DFrac)) rfl),
    .v fun G => .tuple #[((G 5).ss 0).v, iv (Fr.shE ([DFrac.mk (DBig.mk n1 ⟨l1, (G 0).ss 0⟩) (DBig.mk n2 ⟨l2, (G 0).ss 1⟩), DFrac.mk (DBig.mk n3 ⟨l3, (G 1).ss 0⟩) (DBig.mk n2 ⟨l4, (G 1).ss 1⟩), DFrac.mk (DBig.mk n4 ⟨l5, (G 2).ss 0⟩) (DBig.mk n2 ⟨l6, (G 2).ss 1⟩), DFrac.mk (DBig.mk n5 ⟨l7, (G 3).ss 0⟩) (DBig.mk n6 ⟨l8, (G 3).ss 1⟩)] : List DFrac))],
    .v fun G => ((G 5).ss 0).v,
    .v fun G => iv (Fr.shE ([DFrac.mk (DBig.mk n1 ⟨l1, (G 0).ss 0⟩) (DBig.mk n2 ⟨l2, (G 0).ss 1⟩), DFrac.mk (DBig.mk n3 ⟨l3, (G 1).ss 0⟩) (DBig.mk n2 ⟨l4, (G 1).ss 1⟩), DFrac.mk (DBig.mk n4 ⟨l5, (G 2).ss 0⟩) (DBig.mk n2 ⟨l6, (G 2).ss 1⟩), DFrac.mk (DBig.mk n5 ⟨l7, (G 3).ss 0⟩) (DBig.mk n6 ⟨l8, (G 3).ss 1⟩)] : List DFrac)),
    .v fun G => ((G 5).ss 0).v,
    .v fun G => iv (Fr.shE ([DFrac.mk (DBig.mk n1 ⟨l1, (G 0).ss 0⟩) (DBig.mk n2 ⟨l2, (G 0).ss 1⟩), DFrac.mk (DBig.mk n3 ⟨l3, (G 1).ss 0⟩) (DBig.mk n2 ⟨l4, (G 1).ss 1⟩), DFrac.mk (DBig.mk n4 ⟨l5, (G 2).ss 0⟩) (DBig.mk n2 ⟨l6, (G 2).ss 1⟩), DFrac.mk (DBig.mk n5 ⟨l7, (G 3).ss 0⟩) (DBig.mk n6 ⟨l8, (G 3).ss 1⟩)] : List DFrac))] (fun _ _ => by kernel_rfl) fun _ _ G2 kw2 => ?_
  intro S2 t2
  obtain ⟨⟨kl1, -⟩, ⟨kl2, -⟩, ⟨kl3, -⟩, ⟨kl4, -⟩, ⟨kl5, -⟩, ⟨kl6, -⟩, ⟨kl7, -⟩, ⟨kl8, -⟩, ⟨kl9, -⟩, ⟨kl10, -⟩, -⟩ : Lq l1 (((G2 0).ss 0).v) ∧ Lq l2 (((G2 0).ss 1).v) ∧ Lq l3 (((G2 1).ss 0).v) ∧ Lq l4 (((G2 1).ss 1).v) ∧ Lq l5 (((G2 2).ss 0).v) ∧ Lq l6 (((G2 2).ss 1).v) ∧ Lq l7 (((G2 3).ss 0).v) ∧ Lq l8 (((G2 3).ss 1).v) ∧ Lq ([DFrac.mk (DBig.mk n1 ⟨l1, (G2 0).ss 0⟩) (DBig.mk n2 ⟨l2, (G2 0).ss 1⟩), DFrac.mk (DBig.mk n3 ⟨l3, (G2 1).ss 0⟩) (DBig.mk n2 ⟨l4, (G2 1).ss 1⟩), DFrac.mk (DBig.mk n4 ⟨l5, (G2 2).ss 0⟩) (DBig.mk n2 ⟨l6, (G2 2).ss 1⟩), DFrac.mk (DBig.mk n5 ⟨l7, (G2 3).ss 0⟩) (DBig.mk n6 ⟨l8, (G2 3).ss 1⟩)] : List DFrac) (SV.v ⟨atB (G2 4).b, 4, 4⟩) ∧ Lq (Fr.frs (Fr.shQ ([DFrac.mk (DBig.mk n1 ⟨l1, (G2 0).ss 0⟩) (DBig.mk n2 ⟨l2, (G2 0).ss 1⟩), DFrac.mk (DBig.mk n3 ⟨l3, (G2 1).ss 0⟩) (DBig.mk n2 ⟨l4, (G2 1).ss 1⟩), DFrac.mk (DBig.mk n4 ⟨l5, (G2 2).ss 0⟩) (DBig.mk n2 ⟨l6, (G2 2).ss 1⟩), DFrac.mk (DBig.mk n5 ⟨l7, (G2 3).ss 0⟩) (DBig.mk n6 ⟨l8, (G2 3).ss 1⟩)] : List DFrac)) ((G2 5).sl 0)) (((G2 5).ss 0).v) ∧ True := kn kw2 (by kernel_rfl)
  clear kw2
  have hF1 : Fr.Frs ([DFrac.mk (DBig.mk n1 ⟨l1, (G2 0).ss 0⟩) (DBig.mk n2 ⟨l2, (G2 0).ss 1⟩), DFrac.mk (DBig.mk n3 ⟨l3, (G2 1).ss 0⟩) (DBig.mk n2 ⟨l4, (G2 1).ss 1⟩), DFrac.mk (DBig.mk n4 ⟨l5, (G2 2).ss 0⟩) (DBig.mk n2 ⟨l6, (G2 2).ss 1⟩), DFrac.mk (DBig.mk n5 ⟨l7, (G2 3).ss 0⟩) (DBig.mk n6 ⟨l8, (G2 3).ss 1⟩)] : List DFrac) ([Rat.divInt (1 : Int) (1 : Int), Rat.divInt (2 : Int) (1 : Int), Rat.divInt (0 : Int) (1 : Int), Rat.divInt (3 : Int) (2 : Int)] : List Rat) := (Fr.Frs.cons z1_0.rt z1_0.v (Fr.Frs.cons z1_1.rt z1_1.v (Fr.Frs.cons z1_2.rt z1_2.v (Fr.Frs.cons z1_3.rt z1_3.v Fr.Frs.nil))))
  have hE1 : Fr.shE ([DFrac.mk (DBig.mk n1 ⟨l1, (G2 0).ss 0⟩) (DBig.mk n2 ⟨l2, (G2 0).ss 1⟩), DFrac.mk (DBig.mk n3 ⟨l3, (G2 1).ss 0⟩) (DBig.mk n2 ⟨l4, (G2 1).ss 1⟩), DFrac.mk (DBig.mk n4 ⟨l5, (G2 2).ss 0⟩) (DBig.mk n2 ⟨l6, (G2 2).ss 1⟩), DFrac.mk (DBig.mk n5 ⟨l7, (G2 3).ss 0⟩) (DBig.mk n6 ⟨l8, (G2 3).ss 1⟩)] : List DFrac) = 0 := (Fr.shE_q hF1).trans (by decide +kernel)
  have z2_0 : Fr.Fz n4 l5 n2 l6 (Rat.divInt (0 : Int) (1 : Int)) := Fr.Fz.of (by decide : (1 : Int) ≠ 0) hn4 hl5 hn2 hl6
  have z2_1 : Fr.Fz n4 l5 n2 l6 (Rat.divInt (0 : Int) (1 : Int)) := Fr.Fz.of (by decide : (1 : Int) ≠ 0) hn4 hl5 hn2 hl6
  refine V.reg [.ct g0 0 12 false [] [] [] (fun _ G => lof_ctv (0 : Int) (1 : Int) (by omega) (by omega) n4 hn4 l5 hl5 n2 hn2 l6 hl6),
    .ct g0 1 12 false [] [] [] (fun _ G => lof_ctv (0 : Int) (1 : Int) (by omega) (by omega) n4 hn4 l5 hl5 n2 hn2 l6 hl6),
    .nrG 2 true 33 (fun G => ([DFrac.mk (DBig.mk n4 ⟨l5, (G 0).ss 0⟩) (DBig.mk n2 ⟨l6, (G 0).ss 1⟩), DFrac.mk (DBig.mk n4 ⟨l5, (G 1).ss 0⟩) (DBig.mk n2 ⟨l6, (G 1).ss 1⟩)] : List DFrac)) 2 (fun _ => rfl) [(kf true (.g 0 0) l5 (fun G => (G 0).ss 0)).a, (kf true (.g 0 1) l6 (fun G => (G 0).ss 1)).a, (kf true (.g 1 0) l5 (fun G => (G 1).ss 0)).a, (kf true (.g 1 1) l6 (fun G => (G 1).ss 1)).a] (fun _ _ h => (List.forall_mem_cons.2 ⟨(And.intro h.1 h.2.1), (List.forall_mem_cons.2 ⟨(And.intro h.2.2.1 h.2.2.2.1), (List.forall_mem_nil _)⟩)⟩)) (fun G => #[iv n4, ((G 0).ss 0).v, iv n2, ((G 0).ss 1).v, iv n4, ((G 1).ss 0).v, iv n2, ((G 1).ss 1).v]),
    .ct g0 3 10 false [] [] [(kg true (.g 2 0) (fun G => ([DFrac.mk (DBig.mk n4 ⟨l5, (G 0).ss 0⟩) (DBig.mk n2 ⟨l6, (G 0).ss 1⟩), DFrac.mk (DBig.mk n4 ⟨l5, (G 1).ss 0⟩) (DBig.mk n2 ⟨l6, (G 1).ss 1⟩)] : List DFrac)) (fun G => ⟨atB (G 2).b, 2, 2⟩))] (fun _ G => shares_ctv ([DFrac.mk (DBig.mk n4 ⟨l5, (G 0).ss 0⟩) (DBig.mk n2 ⟨l6, (G 0).ss 1⟩), DFrac.mk (DBig.mk n4 ⟨l5, (G 1).ss 0⟩) (DBig.mk n2 ⟨l6, (G 1).ss 1⟩)] : List DFrac) ⟨atB (G 2).b, 2, 2⟩ (Fr.Frs.wb (Fr.Frs.cons z2_0.rt z2_0.v (Fr.Frs.cons z2_1.rt z2_1.v Fr.Frs.nil)) (by decide) (by decide +kernel)) (Fr.shE ([DFrac.mk (DBig.mk n4 ⟨l5, (G 0).ss 0⟩) (DBig.mk n2 ⟨l6, (G 0).ss 1⟩), DFrac.mk (DBig.mk n4 ⟨l5, (G 1).ss 0⟩) (DBig.mk n2 ⟨l6, (G 1).ss 1⟩)] : List DFrac)) rfl),
    .v fun G => .tuple #[((G 3).ss 0).v, iv (Fr.shE ([DFrac.mk (DBig.mk n4 ⟨l5, (G 0).ss 0⟩) (DBig.mk n2 ⟨l6, (G 0).ss 1⟩), DFrac.mk (DBig.mk n4 ⟨l5, (G 1).ss 0⟩) (DBig.mk n2 ⟨l6, (G 1).ss 1⟩)] : List DFrac))],
    .v fun G => ((G 3).ss 0).v,
    .v fun G => iv (Fr.shE ([DFrac.mk (DBig.mk n4 ⟨l5, (G 0).ss 0⟩) (DBig.mk n2 ⟨l6, (G 0).ss 1⟩), DFrac.mk (DBig.mk n4 ⟨l5, (G 1).ss 0⟩) (DBig.mk n2 ⟨l6, (G 1).ss 1⟩)] : List DFrac)),
    .v fun G => ((G 3).ss 0).v,
    .v fun G => iv (Fr.shE ([DFrac.mk (DBig.mk n4 ⟨l5, (G 0).ss 0⟩) (DBig.mk n2 ⟨l6, (G 0).ss 1⟩), DFrac.mk (DBig.mk n4 ⟨l5, (G 1).ss 0⟩) (DBig.mk n2 ⟨l6, (G 1).ss 1⟩)] : List DFrac))] (fun _ _ => by kernel_rfl) fun _ _ G3 kw3 => ?_
  intro S3 t3
  obtain ⟨⟨kl11, -⟩, ⟨kl12, -⟩, ⟨kl13, -⟩, ⟨kl14, -⟩, ⟨kl15, -⟩, ⟨kl16, -⟩, -⟩ : Lq l5 (((G3 0).ss 0).v) ∧ Lq l6 (((G3 0).ss 1).v) ∧ Lq l5 (((G3 1).ss 0).v) ∧ Lq l6 (((G3 1).ss 1).v) ∧ Lq ([DFrac.mk (DBig.mk n4 ⟨l5, (G3 0).ss 0⟩) (DBig.mk n2 ⟨l6, (G3 0).ss 1⟩), DFrac.mk (DBig.mk n4 ⟨l5, (G3 1).ss 0⟩) (DBig.mk n2 ⟨l6, (G3 1).ss 1⟩)] : List DFrac) (SV.v ⟨atB (G3 2).b, 2, 2⟩) ∧ Lq (Fr.frs (Fr.shQ ([DFrac.mk (DBig.mk n4 ⟨l5, (G3 0).ss 0⟩) (DBig.mk n2 ⟨l6, (G3 0).ss 1⟩), DFrac.mk (DBig.mk n4 ⟨l5, (G3 1).ss 0⟩) (DBig.mk n2 ⟨l6, (G3 1).ss 1⟩)] : List DFrac)) ((G3 3).sl 0)) (((G3 3).ss 0).v) ∧ True := kn kw3 (by kernel_rfl)
  clear kw3
  have hF2 : Fr.Frs ([DFrac.mk (DBig.mk n4 ⟨l5, (G3 0).ss 0⟩) (DBig.mk n2 ⟨l6, (G3 0).ss 1⟩), DFrac.mk (DBig.mk n4 ⟨l5, (G3 1).ss 0⟩) (DBig.mk n2 ⟨l6, (G3 1).ss 1⟩)] : List DFrac) ([Rat.divInt (0 : Int) (1 : Int), Rat.divInt (0 : Int) (1 : Int)] : List Rat) := (Fr.Frs.cons z2_0.rt z2_0.v (Fr.Frs.cons z2_1.rt z2_1.v Fr.Frs.nil))
  have hE2 : Fr.shE ([DFrac.mk (DBig.mk n4 ⟨l5, (G3 0).ss 0⟩) (DBig.mk n2 ⟨l6, (G3 0).ss 1⟩), DFrac.mk (DBig.mk n4 ⟨l5, (G3 1).ss 0⟩) (DBig.mk n2 ⟨l6, (G3 1).ss 1⟩)] : List DFrac) = 15 := (Fr.shE_q hF2).trans (by decide +kernel)
  refine nm (Fr.rS ((1 : Int) ≠ 0) (Rat.divInt (-1 : Int) (1 : Int)) : Int) fun n7 hn7 => ?_
  refine nm (Fr.rD ((1 : Int) ≠ 0) (Rat.divInt (-1 : Int) (1 : Int)) : List Int) fun l9 hl9 => ?_
  have hl9n := congrArg List.length hl9
  refine nm (Fr.rE ((1 : Int) ≠ 0) (Rat.divInt (-1 : Int) (1 : Int)) : List Int) fun l10 hl10 => ?_
  have hl10n := congrArg List.length hl10
  have z3_0 : Fr.Fz n1 l1 n2 l2 (Rat.divInt (1 : Int) (1 : Int)) := Fr.Fz.of (by decide : (1 : Int) ≠ 0) hn1 hl1 hn2 hl2
  have z3_1 : Fr.Fz n7 l9 n2 l10 (Rat.divInt (-1 : Int) (1 : Int)) := Fr.Fz.of (by decide : (1 : Int) ≠ 0) hn7 hl9 hn2 hl10
  refine V.reg [.ct g0 0 12 false [] [] [] (fun _ G => lof_ctv (1 : Int) (1 : Int) (by omega) (by omega) n1 hn1 l1 hl1 n2 hn2 l2 hl2),
    .ct g0 1 12 false [] [] [] (fun _ G => lof_ctv (-1 : Int) (1 : Int) (by omega) (by omega) n7 hn7 l9 hl9 n2 hn2 l10 hl10),
    .nrG 2 true 33 (fun G => ([DFrac.mk (DBig.mk n1 ⟨l1, (G 0).ss 0⟩) (DBig.mk n2 ⟨l2, (G 0).ss 1⟩), DFrac.mk (DBig.mk n7 ⟨l9, (G 1).ss 0⟩) (DBig.mk n2 ⟨l10, (G 1).ss 1⟩)] : List DFrac)) 2 (fun _ => rfl) [(kf true (.g 0 0) l1 (fun G => (G 0).ss 0)).a, (kf true (.g 0 1) l2 (fun G => (G 0).ss 1)).a, (kf true (.g 1 0) l9 (fun G => (G 1).ss 0)).a, (kf true (.g 1 1) l10 (fun G => (G 1).ss 1)).a] (fun _ _ h => (List.forall_mem_cons.2 ⟨(And.intro h.1 h.2.1), (List.forall_mem_cons.2 ⟨(And.intro h.2.2.1 h.2.2.2.1), (List.forall_mem_nil _)⟩)⟩)) (fun G => #[iv n1, ((G 0).ss 0).v, iv n2, ((G 0).ss 1).v, iv n7, ((G 1).ss 0).v, iv n2, ((G 1).ss 1).v]),
    .ct g0 3 10 false [] [] [(kg true (.g 2 0) (fun G => ([DFrac.mk (DBig.mk n1 ⟨l1, (G 0).ss 0⟩) (DBig.mk n2 ⟨l2, (G 0).ss 1⟩), DFrac.mk (DBig.mk n7 ⟨l9, (G 1).ss 0⟩) (DBig.mk n2 ⟨l10, (G 1).ss 1⟩)] : List DFrac)) (fun G => ⟨atB (G 2).b, 2, 2⟩))] (fun _ G => shares_ctv ([DFrac.mk (DBig.mk n1 ⟨l1, (G 0).ss 0⟩) (DBig.mk n2 ⟨l2, (G 0).ss 1⟩), DFrac.mk (DBig.mk n7 ⟨l9, (G 1).ss 0⟩) (DBig.mk n2 ⟨l10, (G 1).ss 1⟩)] : List DFrac) ⟨atB (G 2).b, 2, 2⟩ (Fr.Frs.wb (Fr.Frs.cons z3_0.rt z3_0.v (Fr.Frs.cons z3_1.rt z3_1.v Fr.Frs.nil)) (by decide) (by decide +kernel)) (Fr.shE ([DFrac.mk (DBig.mk n1 ⟨l1, (G 0).ss 0⟩) (DBig.mk n2 ⟨l2, (G 0).ss 1⟩), DFrac.mk (DBig.mk n7 ⟨l9, (G 1).ss 0⟩) (DBig.mk n2 ⟨l10, (G 1).ss 1⟩)] : List DFrac)) rfl),
    .v fun G => .tuple #[((G 3).ss 0).v, iv (Fr.shE ([DFrac.mk (DBig.mk n1 ⟨l1, (G 0).ss 0⟩) (DBig.mk n2 ⟨l2, (G 0).ss 1⟩), DFrac.mk (DBig.mk n7 ⟨l9, (G 1).ss 0⟩) (DBig.mk n2 ⟨l10, (G 1).ss 1⟩)] : List DFrac))],
    .v fun G => ((G 3).ss 0).v,
    .v fun G => iv (Fr.shE ([DFrac.mk (DBig.mk n1 ⟨l1, (G 0).ss 0⟩) (DBig.mk n2 ⟨l2, (G 0).ss 1⟩), DFrac.mk (DBig.mk n7 ⟨l9, (G 1).ss 0⟩) (DBig.mk n2 ⟨l10, (G 1).ss 1⟩)] : List DFrac)),
    .v fun G => ((G 3).ss 0).v,
    .v fun G => iv (Fr.shE ([DFrac.mk (DBig.mk n1 ⟨l1, (G 0).ss 0⟩) (DBig.mk n2 ⟨l2, (G 0).ss 1⟩), DFrac.mk (DBig.mk n7 ⟨l9, (G 1).ss 0⟩) (DBig.mk n2 ⟨l10, (G 1).ss 1⟩)] : List DFrac))] (fun _ _ => by kernel_rfl) fun _ _ G4 kw4 => ?_
  intro S4 t4
  obtain ⟨⟨kl17, -⟩, ⟨kl18, -⟩, ⟨kl19, -⟩, ⟨kl20, -⟩, ⟨kl21, -⟩, ⟨kl22, -⟩, -⟩ : Lq l1 (((G4 0).ss 0).v) ∧ Lq l2 (((G4 0).ss 1).v) ∧ Lq l9 (((G4 1).ss 0).v) ∧ Lq l10 (((G4 1).ss 1).v) ∧ Lq ([DFrac.mk (DBig.mk n1 ⟨l1, (G4 0).ss 0⟩) (DBig.mk n2 ⟨l2, (G4 0).ss 1⟩), DFrac.mk (DBig.mk n7 ⟨l9, (G4 1).ss 0⟩) (DBig.mk n2 ⟨l10, (G4 1).ss 1⟩)] : List DFrac) (SV.v ⟨atB (G4 2).b, 2, 2⟩) ∧ Lq (Fr.frs (Fr.shQ ([DFrac.mk (DBig.mk n1 ⟨l1, (G4 0).ss 0⟩) (DBig.mk n2 ⟨l2, (G4 0).ss 1⟩), DFrac.mk (DBig.mk n7 ⟨l9, (G4 1).ss 0⟩) (DBig.mk n2 ⟨l10, (G4 1).ss 1⟩)] : List DFrac)) ((G4 3).sl 0)) (((G4 3).ss 0).v) ∧ True := kn kw4 (by kernel_rfl)
  clear kw4
  have hF3 : Fr.Frs ([DFrac.mk (DBig.mk n1 ⟨l1, (G4 0).ss 0⟩) (DBig.mk n2 ⟨l2, (G4 0).ss 1⟩), DFrac.mk (DBig.mk n7 ⟨l9, (G4 1).ss 0⟩) (DBig.mk n2 ⟨l10, (G4 1).ss 1⟩)] : List DFrac) ([Rat.divInt (1 : Int) (1 : Int), Rat.divInt (-1 : Int) (1 : Int)] : List Rat) := (Fr.Frs.cons z3_0.rt z3_0.v (Fr.Frs.cons z3_1.rt z3_1.v Fr.Frs.nil))
  have hE3 : Fr.shE ([DFrac.mk (DBig.mk n1 ⟨l1, (G4 0).ss 0⟩) (DBig.mk n2 ⟨l2, (G4 0).ss 1⟩), DFrac.mk (DBig.mk n7 ⟨l9, (G4 1).ss 0⟩) (DBig.mk n2 ⟨l10, (G4 1).ss 1⟩)] : List DFrac) = 3 := (Fr.shE_q hF3).trans (by decide +kernel)
  refine nm (Fr.rS ((3 : Int) ≠ 0) (Rat.divInt (1 : Int) (3 : Int)) : Int) fun n8 hn8 => ?_
  refine nm (Fr.rD ((3 : Int) ≠ 0) (Rat.divInt (1 : Int) (3 : Int)) : List Int) fun l11 hl11 => ?_
  have hl11n := congrArg List.length hl11
  refine nm (Fr.rT ((3 : Int) ≠ 0) : Int) fun n9 hn9 => ?_
  refine nm (Fr.rE ((3 : Int) ≠ 0) (Rat.divInt (1 : Int) (3 : Int)) : List Int) fun l12 hl12 => ?_
  have hl12n := congrArg List.length hl12
  have z4_0 : Fr.Fz n8 l11 n9 l12 (Rat.divInt (1 : Int) (3 : Int)) := Fr.Fz.of (by decide : (3 : Int) ≠ 0) hn8 hl11 hn9 hl12
  have z4_1 : Fr.Fz n8 l11 n9 l12 (Rat.divInt (1 : Int) (3 : Int)) := Fr.Fz.of (by decide : (3 : Int) ≠ 0) hn8 hl11 hn9 hl12
  have z4_2 : Fr.Fz n8 l11 n9 l12 (Rat.divInt (1 : Int) (3 : Int)) := Fr.Fz.of (by decide : (3 : Int) ≠ 0) hn8 hl11 hn9 hl12
  refine V.reg [.ct g0 0 12 false [] [] [] (fun _ G => lof_ctv (1 : Int) (3 : Int) (by omega) (by omega) n8 hn8 l11 hl11 n9 hn9 l12 hl12),
    .ct g0 1 12 false [] [] [] (fun _ G => lof_ctv (1 : Int) (3 : Int) (by omega) (by omega) n8 hn8 l11 hl11 n9 hn9 l12 hl12),
    .ct g0 2 12 false [] [] [] (fun _ G => lof_ctv (1 : Int) (3 : Int) (by omega) (by omega) n8 hn8 l11 hl11 n9 hn9 l12 hl12),
    .nrG 3 true 33 (fun G => ([DFrac.mk (DBig.mk n8 ⟨l11, (G 0).ss 0⟩) (DBig.mk n9 ⟨l12, (G 0).ss 1⟩), DFrac.mk (DBig.mk n8 ⟨l11, (G 1).ss 0⟩) (DBig.mk n9 ⟨l12, (G 1).ss 1⟩), DFrac.mk (DBig.mk n8 ⟨l11, (G 2).ss 0⟩) (DBig.mk n9 ⟨l12, (G 2).ss 1⟩)] : List DFrac)) 3 (fun _ => rfl) [(kf true (.g 0 0) l11 (fun G => (G 0).ss 0)).a, (kf true (.g 0 1) l12 (fun G => (G 0).ss 1)).a, (kf true (.g 1 0) l11 (fun G => (G 1).ss 0)).a, (kf true (.g 1 1) l12 (fun G => (G 1).ss 1)).a, (kf true (.g 2 0) l11 (fun G => (G 2).ss 0)).a, (kf true (.g 2 1) l12 (fun G => (G 2).ss 1)).a] (fun _ _ h => (List.forall_mem_cons.2 ⟨(And.intro h.1 h.2.1), (List.forall_mem_cons.2 ⟨(And.intro h.2.2.1 h.2.2.2.1), (List.forall_mem_cons.2 ⟨(And.intro h.2.2.2.2.1 h.2.2.2.2.2.1), (List.forall_mem_nil _)⟩)⟩)⟩)) (fun G => #[iv n8, ((G 0).ss 0).v, iv n9, ((G 0).ss 1).v, iv n8, ((G 1).ss 0).v, iv n9, ((G 1).ss 1).v, iv n8, ((G 2).ss 0).v, iv n9, ((G 2).ss 1).v]),
    .ct g0 4 15 false [] [] [(kg true (.g 3 0) (fun G => ([DFrac.mk (DBig.mk n8 ⟨l11, (G 0).ss 0⟩) (DBig.mk n9 ⟨l12, (G 0).ss 1⟩), DFrac.mk (DBig.mk n8 ⟨l11, (G 1).ss 0⟩) (DBig.mk n9 ⟨l12, (G 1).ss 1⟩), DFrac.mk (DBig.mk n8 ⟨l11, (G 2).ss 0⟩) (DBig.mk n9 ⟨l12, (G 2).ss 1⟩)] : List DFrac)) (fun G => ⟨atB (G 3).b, 3, 3⟩))] (fun _ G => round_ctv (10 : Int) ([DFrac.mk (DBig.mk n8 ⟨l11, (G 0).ss 0⟩) (DBig.mk n9 ⟨l12, (G 0).ss 1⟩), DFrac.mk (DBig.mk n8 ⟨l11, (G 1).ss 0⟩) (DBig.mk n9 ⟨l12, (G 1).ss 1⟩), DFrac.mk (DBig.mk n8 ⟨l11, (G 2).ss 0⟩) (DBig.mk n9 ⟨l12, (G 2).ss 1⟩)] : List DFrac) ⟨atB (G 3).b, 3, 3⟩ (Fr.Frs.wb (Fr.Frs.cons z4_0.rt z4_0.v (Fr.Frs.cons z4_1.rt z4_1.v (Fr.Frs.cons z4_2.rt z4_2.v Fr.Frs.nil))) (by decide) (by decide +kernel)) (by simp) (Fr.rndL (10 : Int) ([DFrac.mk (DBig.mk n8 ⟨l11, (G 0).ss 0⟩) (DBig.mk n9 ⟨l12, (G 0).ss 1⟩), DFrac.mk (DBig.mk n8 ⟨l11, (G 1).ss 0⟩) (DBig.mk n9 ⟨l12, (G 1).ss 1⟩), DFrac.mk (DBig.mk n8 ⟨l11, (G 2).ss 0⟩) (DBig.mk n9 ⟨l12, (G 2).ss 1⟩)] : List DFrac)) rfl (if Fr.rndOk (10 : Int) ([DFrac.mk (DBig.mk n8 ⟨l11, (G 0).ss 0⟩) (DBig.mk n9 ⟨l12, (G 0).ss 1⟩), DFrac.mk (DBig.mk n8 ⟨l11, (G 1).ss 0⟩) (DBig.mk n9 ⟨l12, (G 1).ss 1⟩), DFrac.mk (DBig.mk n8 ⟨l11, (G 2).ss 0⟩) (DBig.mk n9 ⟨l12, (G 2).ss 1⟩)] : List DFrac) then (0 : Int) else 1) rfl),
    .v fun G => .tuple #[((G 4).ss 0).v, iv (if Fr.rndOk (10 : Int) ([DFrac.mk (DBig.mk n8 ⟨l11, (G 0).ss 0⟩) (DBig.mk n9 ⟨l12, (G 0).ss 1⟩), DFrac.mk (DBig.mk n8 ⟨l11, (G 1).ss 0⟩) (DBig.mk n9 ⟨l12, (G 1).ss 1⟩), DFrac.mk (DBig.mk n8 ⟨l11, (G 2).ss 0⟩) (DBig.mk n9 ⟨l12, (G 2).ss 1⟩)] : List DFrac) then (0 : Int) else 1)],
    .v fun G => ((G 4).ss 0).v,
    .v fun G => iv (if Fr.rndOk (10 : Int) ([DFrac.mk (DBig.mk n8 ⟨l11, (G 0).ss 0⟩) (DBig.mk n9 ⟨l12, (G 0).ss 1⟩), DFrac.mk (DBig.mk n8 ⟨l11, (G 1).ss 0⟩) (DBig.mk n9 ⟨l12, (G 1).ss 1⟩), DFrac.mk (DBig.mk n8 ⟨l11, (G 2).ss 0⟩) (DBig.mk n9 ⟨l12, (G 2).ss 1⟩)] : List DFrac) then (0 : Int) else 1),
    .v fun G => ((G 4).ss 0).v,
    .v fun G => iv (if Fr.rndOk (10 : Int) ([DFrac.mk (DBig.mk n8 ⟨l11, (G 0).ss 0⟩) (DBig.mk n9 ⟨l12, (G 0).ss 1⟩), DFrac.mk (DBig.mk n8 ⟨l11, (G 1).ss 0⟩) (DBig.mk n9 ⟨l12, (G 1).ss 1⟩), DFrac.mk (DBig.mk n8 ⟨l11, (G 2).ss 0⟩) (DBig.mk n9 ⟨l12, (G 2).ss 1⟩)] : List DFrac) then (0 : Int) else 1)] (fun _ _ => by kernel_rfl) fun _ _ G5 kw5 => ?_
  intro S5 t5
  obtain ⟨⟨kl23, -⟩, ⟨kl24, -⟩, ⟨kl25, -⟩, ⟨kl26, -⟩, ⟨kl27, -⟩, ⟨kl28, -⟩, ⟨kl29, -⟩, ⟨kl30, -⟩, -⟩ : Lq l11 (((G5 0).ss 0).v) ∧ Lq l12 (((G5 0).ss 1).v) ∧ Lq l11 (((G5 1).ss 0).v) ∧ Lq l12 (((G5 1).ss 1).v) ∧ Lq l11 (((G5 2).ss 0).v) ∧ Lq l12 (((G5 2).ss 1).v) ∧ Lq ([DFrac.mk (DBig.mk n8 ⟨l11, (G5 0).ss 0⟩) (DBig.mk n9 ⟨l12, (G5 0).ss 1⟩), DFrac.mk (DBig.mk n8 ⟨l11, (G5 1).ss 0⟩) (DBig.mk n9 ⟨l12, (G5 1).ss 1⟩), DFrac.mk (DBig.mk n8 ⟨l11, (G5 2).ss 0⟩) (DBig.mk n9 ⟨l12, (G5 2).ss 1⟩)] : List DFrac) (SV.v ⟨atB (G5 3).b, 3, 3⟩) ∧ Lq (Fr.rndL (10 : Int) ([DFrac.mk (DBig.mk n8 ⟨l11, (G5 0).ss 0⟩) (DBig.mk n9 ⟨l12, (G5 0).ss 1⟩), DFrac.mk (DBig.mk n8 ⟨l11, (G5 1).ss 0⟩) (DBig.mk n9 ⟨l12, (G5 1).ss 1⟩), DFrac.mk (DBig.mk n8 ⟨l11, (G5 2).ss 0⟩) (DBig.mk n9 ⟨l12, (G5 2).ss 1⟩)] : List DFrac)) (((G5 4).ss 0).v) ∧ True := kn kw5 (by kernel_rfl)
  clear kw5
  have hF4 : Fr.Frs ([DFrac.mk (DBig.mk n8 ⟨l11, (G5 0).ss 0⟩) (DBig.mk n9 ⟨l12, (G5 0).ss 1⟩), DFrac.mk (DBig.mk n8 ⟨l11, (G5 1).ss 0⟩) (DBig.mk n9 ⟨l12, (G5 1).ss 1⟩), DFrac.mk (DBig.mk n8 ⟨l11, (G5 2).ss 0⟩) (DBig.mk n9 ⟨l12, (G5 2).ss 1⟩)] : List DFrac) ([Rat.divInt (1 : Int) (3 : Int), Rat.divInt (1 : Int) (3 : Int), Rat.divInt (1 : Int) (3 : Int)] : List Rat) := (Fr.Frs.cons z4_0.rt z4_0.v (Fr.Frs.cons z4_1.rt z4_1.v (Fr.Frs.cons z4_2.rt z4_2.v Fr.Frs.nil)))
  have hR4 : Fr.rndL 10 ([DFrac.mk (DBig.mk n8 ⟨l11, (G5 0).ss 0⟩) (DBig.mk n9 ⟨l12, (G5 0).ss 1⟩), DFrac.mk (DBig.mk n8 ⟨l11, (G5 1).ss 0⟩) (DBig.mk n9 ⟨l12, (G5 1).ss 1⟩), DFrac.mk (DBig.mk n8 ⟨l11, (G5 2).ss 0⟩) (DBig.mk n9 ⟨l12, (G5 2).ss 1⟩)] : List DFrac) = [4, 3, 3] := (Fr.rndL_q hF4).trans (by decide +kernel)
  have hO4 : Fr.rndOk 10 ([DFrac.mk (DBig.mk n8 ⟨l11, (G5 0).ss 0⟩) (DBig.mk n9 ⟨l12, (G5 0).ss 1⟩), DFrac.mk (DBig.mk n8 ⟨l11, (G5 1).ss 0⟩) (DBig.mk n9 ⟨l12, (G5 1).ss 1⟩), DFrac.mk (DBig.mk n8 ⟨l11, (G5 2).ss 0⟩) (DBig.mk n9 ⟨l12, (G5 2).ss 1⟩)] : List DFrac) := (Fr.rndOk_q hF4).2 (by decide +kernel)
  refine nm (Fr.rS ((2 : Int) ≠ 0) (Rat.divInt (1 : Int) (2 : Int)) : Int) fun n10 hn10 => ?_
  refine nm (Fr.rD ((2 : Int) ≠ 0) (Rat.divInt (1 : Int) (2 : Int)) : List Int) fun l13 hl13 => ?_
  have hl13n := congrArg List.length hl13
  refine nm (Fr.rE ((2 : Int) ≠ 0) (Rat.divInt (1 : Int) (2 : Int)) : List Int) fun l14 hl14 => ?_
  have hl14n := congrArg List.length hl14
  refine nm (Fr.rS ((4 : Int) ≠ 0) (Rat.divInt (1 : Int) (4 : Int)) : Int) fun n11 hn11 => ?_
  refine nm (Fr.rD ((4 : Int) ≠ 0) (Rat.divInt (1 : Int) (4 : Int)) : List Int) fun l15 hl15 => ?_
  have hl15n := congrArg List.length hl15
  refine nm (Fr.rT ((4 : Int) ≠ 0) : Int) fun n12 hn12 => ?_
  refine nm (Fr.rE ((4 : Int) ≠ 0) (Rat.divInt (1 : Int) (4 : Int)) : List Int) fun l16 hl16 => ?_
  have hl16n := congrArg List.length hl16
  have z5_0 : Fr.Fz n10 l13 n6 l14 (Rat.divInt (1 : Int) (2 : Int)) := Fr.Fz.of (by decide : (2 : Int) ≠ 0) hn10 hl13 hn6 hl14
  have z5_1 : Fr.Fz n11 l15 n12 l16 (Rat.divInt (1 : Int) (4 : Int)) := Fr.Fz.of (by decide : (4 : Int) ≠ 0) hn11 hl15 hn12 hl16
  have z5_2 : Fr.Fz n11 l15 n12 l16 (Rat.divInt (1 : Int) (4 : Int)) := Fr.Fz.of (by decide : (4 : Int) ≠ 0) hn11 hl15 hn12 hl16
  refine V.reg [.ct g0 0 12 false [] [] [] (fun _ G => lof_ctv (1 : Int) (2 : Int) (by omega) (by omega) n10 hn10 l13 hl13 n6 hn6 l14 hl14),
    .ct g0 1 12 false [] [] [] (fun _ G => lof_ctv (1 : Int) (4 : Int) (by omega) (by omega) n11 hn11 l15 hl15 n12 hn12 l16 hl16),
    .ct g0 2 12 false [] [] [] (fun _ G => lof_ctv (1 : Int) (4 : Int) (by omega) (by omega) n11 hn11 l15 hl15 n12 hn12 l16 hl16),
    .nrG 3 true 33 (fun G => ([DFrac.mk (DBig.mk n10 ⟨l13, (G 0).ss 0⟩) (DBig.mk n6 ⟨l14, (G 0).ss 1⟩), DFrac.mk (DBig.mk n11 ⟨l15, (G 1).ss 0⟩) (DBig.mk n12 ⟨l16, (G 1).ss 1⟩), DFrac.mk (DBig.mk n11 ⟨l15, (G 2).ss 0⟩) (DBig.mk n12 ⟨l16, (G 2).ss 1⟩)] : List DFrac)) 3 (fun _ => rfl) [(kf true (.g 0 0) l13 (fun G => (G 0).ss 0)).a, (kf true (.g 0 1) l14 (fun G => (G 0).ss 1)).a, (kf true (.g 1 0) l15 (fun G => (G 1).ss 0)).a, (kf true (.g 1 1) l16 (fun G => (G 1).ss 1)).a, (kf true (.g 2 0) l15 (fun G => (G 2).ss 0)).a, (kf true (.g 2 1) l16 (fun G => (G 2).ss 1)).a] (fun _ _ h => (List.forall_mem_cons.2 ⟨(And.intro h.1 h.2.1), (List.forall_mem_cons.2 ⟨(And.intro h.2.2.1 h.2.2.2.1), (List.forall_mem_cons.2 ⟨(And.intro h.2.2.2.2.1 h.2.2.2.2.2.1), (List.forall_mem_nil _)⟩)⟩)⟩)) (fun G => #[iv n10, ((G 0).ss 0).v, iv n6, ((G 0).ss 1).v, iv n11, ((G 1).ss 0).v, iv n12, ((G 1).ss 1).v, iv n11, ((G 2).ss 0).v, iv n12, ((G 2).ss 1).v]),
    .ct g0 4 15 false [] [] [(kg true (.g 3 0) (fun G => ([DFrac.mk (DBig.mk n10 ⟨l13, (G 0).ss 0⟩) (DBig.mk n6 ⟨l14, (G 0).ss 1⟩), DFrac.mk (DBig.mk n11 ⟨l15, (G 1).ss 0⟩) (DBig.mk n12 ⟨l16, (G 1).ss 1⟩), DFrac.mk (DBig.mk n11 ⟨l15, (G 2).ss 0⟩) (DBig.mk n12 ⟨l16, (G 2).ss 1⟩)] : List DFrac)) (fun G => ⟨atB (G 3).b, 3, 3⟩))] (fun _ G => round_ctv (7 : Int) ([DFrac.mk (DBig.mk n10 ⟨l13, (G 0).ss 0⟩) (DBig.mk n6 ⟨l14, (G 0).ss 1⟩), DFrac.mk (DBig.mk n11 ⟨l15, (G 1).ss 0⟩) (DBig.mk n12 ⟨l16, (G 1).ss 1⟩), DFrac.mk (DBig.mk n11 ⟨l15, (G 2).ss 0⟩) (DBig.mk n12 ⟨l16, (G 2).ss 1⟩)] : List DFrac) ⟨atB (G 3).b, 3, 3⟩ (Fr.Frs.wb (Fr.Frs.cons z5_0.rt z5_0.v (Fr.Frs.cons z5_1.rt z5_1.v (Fr.Frs.cons z5_2.rt z5_2.v Fr.Frs.nil))) (by decide) (by decide +kernel)) (by simp) (Fr.rndL (7 : Int) ([DFrac.mk (DBig.mk n10 ⟨l13, (G 0).ss 0⟩) (DBig.mk n6 ⟨l14, (G 0).ss 1⟩), DFrac.mk (DBig.mk n11 ⟨l15, (G 1).ss 0⟩) (DBig.mk n12 ⟨l16, (G 1).ss 1⟩), DFrac.mk (DBig.mk n11 ⟨l15, (G 2).ss 0⟩) (DBig.mk n12 ⟨l16, (G 2).ss 1⟩)] : List DFrac)) rfl (if Fr.rndOk (7 : Int) ([DFrac.mk (DBig.mk n10 ⟨l13, (G 0).ss 0⟩) (DBig.mk n6 ⟨l14, (G 0).ss 1⟩), DFrac.mk (DBig.mk n11 ⟨l15, (G 1).ss 0⟩) (DBig.mk n12 ⟨l16, (G 1).ss 1⟩), DFrac.mk (DBig.mk n11 ⟨l15, (G 2).ss 0⟩) (DBig.mk n12 ⟨l16, (G 2).ss 1⟩)] : List DFrac) then (0 : Int) else 1) rfl),
    .v fun G => .tuple #[((G 4).ss 0).v, iv (if Fr.rndOk (7 : Int) ([DFrac.mk (DBig.mk n10 ⟨l13, (G 0).ss 0⟩) (DBig.mk n6 ⟨l14, (G 0).ss 1⟩), DFrac.mk (DBig.mk n11 ⟨l15, (G 1).ss 0⟩) (DBig.mk n12 ⟨l16, (G 1).ss 1⟩), DFrac.mk (DBig.mk n11 ⟨l15, (G 2).ss 0⟩) (DBig.mk n12 ⟨l16, (G 2).ss 1⟩)] : List DFrac) then (0 : Int) else 1)],
    .v fun G => ((G 4).ss 0).v,
    .v fun G => iv (if Fr.rndOk (7 : Int) ([DFrac.mk (DBig.mk n10 ⟨l13, (G 0).ss 0⟩) (DBig.mk n6 ⟨l14, (G 0).ss 1⟩), DFrac.mk (DBig.mk n11 ⟨l15, (G 1).ss 0⟩) (DBig.mk n12 ⟨l16, (G 1).ss 1⟩), DFrac.mk (DBig.mk n11 ⟨l15, (G 2).ss 0⟩) (DBig.mk n12 ⟨l16, (G 2).ss 1⟩)] : List DFrac) then (0 : Int) else 1),
    .v fun G => ((G 4).ss 0).v,
    .v fun G => iv (if Fr.rndOk (7 : Int) ([DFrac.mk (DBig.mk n10 ⟨l13, (G 0).ss 0⟩) (DBig.mk n6 ⟨l14, (G 0).ss 1⟩), DFrac.mk (DBig.mk n11 ⟨l15, (G 1).ss 0⟩) (DBig.mk n12 ⟨l16, (G 1).ss 1⟩), DFrac.mk (DBig.mk n11 ⟨l15, (G 2).ss 0⟩) (DBig.mk n12 ⟨l16, (G 2).ss 1⟩)] : List DFrac) then (0 : Int) else 1)] (fun _ _ => by kernel_rfl) fun _ _ G6 kw6 => ?_
  intro S6 t6
  obtain ⟨⟨kl31, -⟩, ⟨kl32, -⟩, ⟨kl33, -⟩, ⟨kl34, -⟩, ⟨kl35, -⟩, ⟨kl36, -⟩, ⟨kl37, -⟩, ⟨kl38, -⟩, -⟩ : Lq l13 (((G6 0).ss 0).v) ∧ Lq l14 (((G6 0).ss 1).v) ∧ Lq l15 (((G6 1).ss 0).v) ∧ Lq l16 (((G6 1).ss 1).v) ∧ Lq l15 (((G6 2).ss 0).v) ∧ Lq l16 (((G6 2).ss 1).v) ∧ Lq ([DFrac.mk (DBig.mk n10 ⟨l13, (G6 0).ss 0⟩) (DBig.mk n6 ⟨l14, (G6 0).ss 1⟩), DFrac.mk (DBig.mk n11 ⟨l15, (G6 1).ss 0⟩) (DBig.mk n12 ⟨l16, (G6 1).ss 1⟩), DFrac.mk (DBig.mk n11 ⟨l15, (G6 2).ss 0⟩) (DBig.mk n12 ⟨l16, (G6 2).ss 1⟩)] : List DFrac) (SV.v ⟨atB (G6 3).b, 3, 3⟩) ∧ Lq (Fr.rndL (7 : Int) ([DFrac.mk (DBig.mk n10 ⟨l13, (G6 0).ss 0⟩) (DBig.mk n6 ⟨l14, (G6 0).ss 1⟩), DFrac.mk (DBig.mk n11 ⟨l15, (G6 1).ss 0⟩) (DBig.mk n12 ⟨l16, (G6 1).ss 1⟩), DFrac.mk (DBig.mk n11 ⟨l15, (G6 2).ss 0⟩) (DBig.mk n12 ⟨l16, (G6 2).ss 1⟩)] : List DFrac)) (((G6 4).ss 0).v) ∧ True := kn kw6 (by kernel_rfl)
  clear kw6
  have hF5 : Fr.Frs ([DFrac.mk (DBig.mk n10 ⟨l13, (G6 0).ss 0⟩) (DBig.mk n6 ⟨l14, (G6 0).ss 1⟩), DFrac.mk (DBig.mk n11 ⟨l15, (G6 1).ss 0⟩) (DBig.mk n12 ⟨l16, (G6 1).ss 1⟩), DFrac.mk (DBig.mk n11 ⟨l15, (G6 2).ss 0⟩) (DBig.mk n12 ⟨l16, (G6 2).ss 1⟩)] : List DFrac) ([Rat.divInt (1 : Int) (2 : Int), Rat.divInt (1 : Int) (4 : Int), Rat.divInt (1 : Int) (4 : Int)] : List Rat) := (Fr.Frs.cons z5_0.rt z5_0.v (Fr.Frs.cons z5_1.rt z5_1.v (Fr.Frs.cons z5_2.rt z5_2.v Fr.Frs.nil)))
  have hR5 : Fr.rndL 7 ([DFrac.mk (DBig.mk n10 ⟨l13, (G6 0).ss 0⟩) (DBig.mk n6 ⟨l14, (G6 0).ss 1⟩), DFrac.mk (DBig.mk n11 ⟨l15, (G6 1).ss 0⟩) (DBig.mk n12 ⟨l16, (G6 1).ss 1⟩), DFrac.mk (DBig.mk n11 ⟨l15, (G6 2).ss 0⟩) (DBig.mk n12 ⟨l16, (G6 2).ss 1⟩)] : List DFrac) = [3, 2, 2] := (Fr.rndL_q hF5).trans (by decide +kernel)
  have hO5 : Fr.rndOk 7 ([DFrac.mk (DBig.mk n10 ⟨l13, (G6 0).ss 0⟩) (DBig.mk n6 ⟨l14, (G6 0).ss 1⟩), DFrac.mk (DBig.mk n11 ⟨l15, (G6 1).ss 0⟩) (DBig.mk n12 ⟨l16, (G6 1).ss 1⟩), DFrac.mk (DBig.mk n11 ⟨l15, (G6 2).ss 0⟩) (DBig.mk n12 ⟨l16, (G6 2).ss 1⟩)] : List DFrac) := (Fr.rndOk_q hF5).2 (by decide +kernel)
  have z6_0 : Fr.Fz n1 l1 n2 l2 (Rat.divInt (1 : Int) (1 : Int)) := Fr.Fz.of (by decide : (1 : Int) ≠ 0) hn1 hl1 hn2 hl2
  refine V.reg [.ct g0 0 12 false [] [] [] (fun _ G => lof_ctv (1 : Int) (1 : Int) (by omega) (by omega) n1 hn1 l1 hl1 n2 hn2 l2 hl2),
    .nrG 1 true 33 (fun G => ([DFrac.mk (DBig.mk n1 ⟨l1, (G 0).ss 0⟩) (DBig.mk n2 ⟨l2, (G 0).ss 1⟩)] : List DFrac)) 1 (fun _ => rfl) [(kf true (.g 0 0) l1 (fun G => (G 0).ss 0)).a, (kf true (.g 0 1) l2 (fun G => (G 0).ss 1)).a] (fun _ _ h => (List.forall_mem_cons.2 ⟨(And.intro h.1 h.2.1), (List.forall_mem_nil _)⟩)) (fun G => #[iv n1, ((G 0).ss 0).v, iv n2, ((G 0).ss 1).v]),
    .ct g0 2 15 false [] [] [(kg true (.g 1 0) (fun G => ([DFrac.mk (DBig.mk n1 ⟨l1, (G 0).ss 0⟩) (DBig.mk n2 ⟨l2, (G 0).ss 1⟩)] : List DFrac)) (fun G => ⟨atB (G 1).b, 1, 1⟩))] (fun _ G => round_ctv (0 : Int) ([DFrac.mk (DBig.mk n1 ⟨l1, (G 0).ss 0⟩) (DBig.mk n2 ⟨l2, (G 0).ss 1⟩)] : List DFrac) ⟨atB (G 1).b, 1, 1⟩ (Fr.Frs.wb (Fr.Frs.cons z6_0.rt z6_0.v Fr.Frs.nil) (by decide) (by decide +kernel)) (by simp) (Fr.rndL (0 : Int) ([DFrac.mk (DBig.mk n1 ⟨l1, (G 0).ss 0⟩) (DBig.mk n2 ⟨l2, (G 0).ss 1⟩)] : List DFrac)) rfl (if Fr.rndOk (0 : Int) ([DFrac.mk (DBig.mk n1 ⟨l1, (G 0).ss 0⟩) (DBig.mk n2 ⟨l2, (G 0).ss 1⟩)] : List DFrac) then (0 : Int) else 1) rfl),
    .v fun G => .tuple #[((G 2).ss 0).v, iv (if Fr.rndOk (0 : Int) ([DFrac.mk (DBig.mk n1 ⟨l1, (G 0).ss 0⟩) (DBig.mk n2 ⟨l2, (G 0).ss 1⟩)] : List DFrac) then (0 : Int) else 1)],
    .v fun G => ((G 2).ss 0).v,
    .v fun G => iv (if Fr.rndOk (0 : Int) ([DFrac.mk (DBig.mk n1 ⟨l1, (G 0).ss 0⟩) (DBig.mk n2 ⟨l2, (G 0).ss 1⟩)] : List DFrac) then (0 : Int) else 1),
    .v fun G => ((G 2).ss 0).v,
    .v fun G => iv (if Fr.rndOk (0 : Int) ([DFrac.mk (DBig.mk n1 ⟨l1, (G 0).ss 0⟩) (DBig.mk n2 ⟨l2, (G 0).ss 1⟩)] : List DFrac) then (0 : Int) else 1)] (fun _ _ => by kernel_rfl) fun _ _ G7 kw7 => ?_
  intro S7 t7
  obtain ⟨⟨kl39, -⟩, ⟨kl40, -⟩, ⟨kl41, -⟩, ⟨kl42, -⟩, -⟩ : Lq l1 (((G7 0).ss 0).v) ∧ Lq l2 (((G7 0).ss 1).v) ∧ Lq ([DFrac.mk (DBig.mk n1 ⟨l1, (G7 0).ss 0⟩) (DBig.mk n2 ⟨l2, (G7 0).ss 1⟩)] : List DFrac) (SV.v ⟨atB (G7 1).b, 1, 1⟩) ∧ Lq (Fr.rndL (0 : Int) ([DFrac.mk (DBig.mk n1 ⟨l1, (G7 0).ss 0⟩) (DBig.mk n2 ⟨l2, (G7 0).ss 1⟩)] : List DFrac)) (((G7 2).ss 0).v) ∧ True := kn kw7 (by kernel_rfl)
  clear kw7
  have hF6 : Fr.Frs ([DFrac.mk (DBig.mk n1 ⟨l1, (G7 0).ss 0⟩) (DBig.mk n2 ⟨l2, (G7 0).ss 1⟩)] : List DFrac) ([Rat.divInt (1 : Int) (1 : Int)] : List Rat) := (Fr.Frs.cons z6_0.rt z6_0.v Fr.Frs.nil)
  have hR6 : Fr.rndL 0 ([DFrac.mk (DBig.mk n1 ⟨l1, (G7 0).ss 0⟩) (DBig.mk n2 ⟨l2, (G7 0).ss 1⟩)] : List DFrac) = [0] := (Fr.rndL_q hF6).trans (by decide +kernel)
  have hO6 : Fr.rndOk 0 ([DFrac.mk (DBig.mk n1 ⟨l1, (G7 0).ss 0⟩) (DBig.mk n2 ⟨l2, (G7 0).ss 1⟩)] : List DFrac) := (Fr.rndOk_q hF6).2 (by decide +kernel)
  have z7_0 : Fr.Fz n10 l13 n6 l14 (Rat.divInt (1 : Int) (2 : Int)) := Fr.Fz.of (by decide : (2 : Int) ≠ 0) hn10 hl13 hn6 hl14
  have z7_1 : Fr.Fz n8 l11 n9 l12 (Rat.divInt (1 : Int) (3 : Int)) := Fr.Fz.of (by decide : (3 : Int) ≠ 0) hn8 hl11 hn9 hl12
  refine V.reg [.ct g0 0 12 false [] [] [] (fun _ G => lof_ctv (1 : Int) (2 : Int) (by omega) (by omega) n10 hn10 l13 hl13 n6 hn6 l14 hl14),
    .ct g0 1 12 false [] [] [] (fun _ G => lof_ctv (1 : Int) (3 : Int) (by omega) (by omega) n8 hn8 l11 hl11 n9 hn9 l12 hl12),
    .nrG 2 true 33 (fun G => ([DFrac.mk (DBig.mk n10 ⟨l13, (G 0).ss 0⟩) (DBig.mk n6 ⟨l14, (G 0).ss 1⟩), DFrac.mk (DBig.mk n8 ⟨l11, (G 1).ss 0⟩) (DBig.mk n9 ⟨l12, (G 1).ss 1⟩)] : List DFrac)) 2 (fun _ => rfl) [(kf true (.g 0 0) l13 (fun G => (G 0).ss 0)).a, (kf true (.g 0 1) l14 (fun G => (G 0).ss 1)).a, (kf true (.g 1 0) l11 (fun G => (G 1).ss 0)).a, (kf true (.g 1 1) l12 (fun G => (G 1).ss 1)).a] (fun _ _ h => (List.forall_mem_cons.2 ⟨(And.intro h.1 h.2.1), (List.forall_mem_cons.2 ⟨(And.intro h.2.2.1 h.2.2.2.1), (List.forall_mem_nil _)⟩)⟩)) (fun G => #[iv n10, ((G 0).ss 0).v, iv n6, ((G 0).ss 1).v, iv n8, ((G 1).ss 0).v, iv n9, ((G 1).ss 1).v]),
    .ct g0 3 15 false [] [] [(kg true (.g 2 0) (fun G => ([DFrac.mk (DBig.mk n10 ⟨l13, (G 0).ss 0⟩) (DBig.mk n6 ⟨l14, (G 0).ss 1⟩), DFrac.mk (DBig.mk n8 ⟨l11, (G 1).ss 0⟩) (DBig.mk n9 ⟨l12, (G 1).ss 1⟩)] : List DFrac)) (fun G => ⟨atB (G 2).b, 2, 2⟩))] (fun _ G => round_ctv (5 : Int) ([DFrac.mk (DBig.mk n10 ⟨l13, (G 0).ss 0⟩) (DBig.mk n6 ⟨l14, (G 0).ss 1⟩), DFrac.mk (DBig.mk n8 ⟨l11, (G 1).ss 0⟩) (DBig.mk n9 ⟨l12, (G 1).ss 1⟩)] : List DFrac) ⟨atB (G 2).b, 2, 2⟩ (Fr.Frs.wb (Fr.Frs.cons z7_0.rt z7_0.v (Fr.Frs.cons z7_1.rt z7_1.v Fr.Frs.nil)) (by decide) (by decide +kernel)) (by simp) (Fr.rndL (5 : Int) ([DFrac.mk (DBig.mk n10 ⟨l13, (G 0).ss 0⟩) (DBig.mk n6 ⟨l14, (G 0).ss 1⟩), DFrac.mk (DBig.mk n8 ⟨l11, (G 1).ss 0⟩) (DBig.mk n9 ⟨l12, (G 1).ss 1⟩)] : List DFrac)) rfl (if Fr.rndOk (5 : Int) ([DFrac.mk (DBig.mk n10 ⟨l13, (G 0).ss 0⟩) (DBig.mk n6 ⟨l14, (G 0).ss 1⟩), DFrac.mk (DBig.mk n8 ⟨l11, (G 1).ss 0⟩) (DBig.mk n9 ⟨l12, (G 1).ss 1⟩)] : List DFrac) then (0 : Int) else 1) rfl),
    .v fun G => .tuple #[((G 3).ss 0).v, iv (if Fr.rndOk (5 : Int) ([DFrac.mk (DBig.mk n10 ⟨l13, (G 0).ss 0⟩) (DBig.mk n6 ⟨l14, (G 0).ss 1⟩), DFrac.mk (DBig.mk n8 ⟨l11, (G 1).ss 0⟩) (DBig.mk n9 ⟨l12, (G 1).ss 1⟩)] : List DFrac) then (0 : Int) else 1)],
    .v fun G => ((G 3).ss 0).v,
    .v fun G => iv (if Fr.rndOk (5 : Int) ([DFrac.mk (DBig.mk n10 ⟨l13, (G 0).ss 0⟩) (DBig.mk n6 ⟨l14, (G 0).ss 1⟩), DFrac.mk (DBig.mk n8 ⟨l11, (G 1).ss 0⟩) (DBig.mk n9 ⟨l12, (G 1).ss 1⟩)] : List DFrac) then (0 : Int) else 1),
    .v fun G => ((G 3).ss 0).v,
    .v fun G => iv (if Fr.rndOk (5 : Int) ([DFrac.mk (DBig.mk n10 ⟨l13, (G 0).ss 0⟩) (DBig.mk n6 ⟨l14, (G 0).ss 1⟩), DFrac.mk (DBig.mk n8 ⟨l11, (G 1).ss 0⟩) (DBig.mk n9 ⟨l12, (G 1).ss 1⟩)] : List DFrac) then (0 : Int) else 1)] (fun _ _ => by kernel_rfl) fun _ _ G8 kw8 => ?_
  intro S8 t8
  obtain ⟨⟨kl43, -⟩, ⟨kl44, -⟩, ⟨kl45, -⟩, ⟨kl46, -⟩, ⟨kl47, -⟩, ⟨kl48, -⟩, -⟩ : Lq l13 (((G8 0).ss 0).v) ∧ Lq l14 (((G8 0).ss 1).v) ∧ Lq l11 (((G8 1).ss 0).v) ∧ Lq l12 (((G8 1).ss 1).v) ∧ Lq ([DFrac.mk (DBig.mk n10 ⟨l13, (G8 0).ss 0⟩) (DBig.mk n6 ⟨l14, (G8 0).ss 1⟩), DFrac.mk (DBig.mk n8 ⟨l11, (G8 1).ss 0⟩) (DBig.mk n9 ⟨l12, (G8 1).ss 1⟩)] : List DFrac) (SV.v ⟨atB (G8 2).b, 2, 2⟩) ∧ Lq (Fr.rndL (5 : Int) ([DFrac.mk (DBig.mk n10 ⟨l13, (G8 0).ss 0⟩) (DBig.mk n6 ⟨l14, (G8 0).ss 1⟩), DFrac.mk (DBig.mk n8 ⟨l11, (G8 1).ss 0⟩) (DBig.mk n9 ⟨l12, (G8 1).ss 1⟩)] : List DFrac)) (((G8 3).ss 0).v) ∧ True := kn kw8 (by kernel_rfl)
  clear kw8
  have hF7 : Fr.Frs ([DFrac.mk (DBig.mk n10 ⟨l13, (G8 0).ss 0⟩) (DBig.mk n6 ⟨l14, (G8 0).ss 1⟩), DFrac.mk (DBig.mk n8 ⟨l11, (G8 1).ss 0⟩) (DBig.mk n9 ⟨l12, (G8 1).ss 1⟩)] : List DFrac) ([Rat.divInt (1 : Int) (2 : Int), Rat.divInt (1 : Int) (3 : Int)] : List Rat) := (Fr.Frs.cons z7_0.rt z7_0.v (Fr.Frs.cons z7_1.rt z7_1.v Fr.Frs.nil))
  have hO7 : ¬ Fr.rndOk 5 ([DFrac.mk (DBig.mk n10 ⟨l13, (G8 0).ss 0⟩) (DBig.mk n6 ⟨l14, (G8 0).ss 1⟩), DFrac.mk (DBig.mk n8 ⟨l11, (G8 1).ss 0⟩) (DBig.mk n9 ⟨l12, (G8 1).ss 1⟩)] : List DFrac) := fun h => absurd ((Fr.rndOk_q hF7).1 h) (by decide +kernel)
  refine nm ((!(decide (Fr.shE ([DFrac.mk (DBig.mk n1 ⟨l1, (G2 0).ss 0⟩) (DBig.mk n2 ⟨l2, (G2 0).ss 1⟩), DFrac.mk (DBig.mk n3 ⟨l3, (G2 1).ss 0⟩) (DBig.mk n2 ⟨l4, (G2 1).ss 1⟩), DFrac.mk (DBig.mk n4 ⟨l5, (G2 2).ss 0⟩) (DBig.mk n2 ⟨l6, (G2 2).ss 1⟩), DFrac.mk (DBig.mk n5 ⟨l7, (G2 3).ss 0⟩) (DBig.mk n6 ⟨l8, (G2 3).ss 1⟩)] : List DFrac) = 0))) || (!(decide (Fr.shE ([DFrac.mk (DBig.mk n4 ⟨l5, (G3 0).ss 0⟩) (DBig.mk n2 ⟨l6, (G3 0).ss 1⟩), DFrac.mk (DBig.mk n4 ⟨l5, (G3 1).ss 0⟩) (DBig.mk n2 ⟨l6, (G3 1).ss 1⟩)] : List DFrac) = 15))) : Bool) fun p1 hp1 => ?_
  refine nm (p1 || (!(decide (Fr.shE ([DFrac.mk (DBig.mk n1 ⟨l1, (G4 0).ss 0⟩) (DBig.mk n2 ⟨l2, (G4 0).ss 1⟩), DFrac.mk (DBig.mk n7 ⟨l9, (G4 1).ss 0⟩) (DBig.mk n2 ⟨l10, (G4 1).ss 1⟩)] : List DFrac) = 3))) : Bool) fun p2 hp2 => ?_
  refine nm (p2 || (!(decide ((if Fr.rndOk (10 : Int) ([DFrac.mk (DBig.mk n8 ⟨l11, (G5 0).ss 0⟩) (DBig.mk n9 ⟨l12, (G5 0).ss 1⟩), DFrac.mk (DBig.mk n8 ⟨l11, (G5 1).ss 0⟩) (DBig.mk n9 ⟨l12, (G5 1).ss 1⟩), DFrac.mk (DBig.mk n8 ⟨l11, (G5 2).ss 0⟩) (DBig.mk n9 ⟨l12, (G5 2).ss 1⟩)] : List DFrac) then (0 : Int) else 1) = 0))) : Bool) fun p3 hp3 => ?_
  refine nm (p3 || (!(decide ((if Fr.rndOk (7 : Int) ([DFrac.mk (DBig.mk n10 ⟨l13, (G6 0).ss 0⟩) (DBig.mk n6 ⟨l14, (G6 0).ss 1⟩), DFrac.mk (DBig.mk n11 ⟨l15, (G6 1).ss 0⟩) (DBig.mk n12 ⟨l16, (G6 1).ss 1⟩), DFrac.mk (DBig.mk n11 ⟨l15, (G6 2).ss 0⟩) (DBig.mk n12 ⟨l16, (G6 2).ss 1⟩)] : List DFrac) then (0 : Int) else 1) = 0))) : Bool) fun p4 hp4 => ?_
  refine nm (p4 || (!(decide ((if Fr.rndOk (0 : Int) ([DFrac.mk (DBig.mk n1 ⟨l1, (G7 0).ss 0⟩) (DBig.mk n2 ⟨l2, (G7 0).ss 1⟩)] : List DFrac) then (0 : Int) else 1) = 0))) : Bool) fun p5 hp5 => ?_
  refine nm (p5 || (!(decide ((if Fr.rndOk (5 : Int) ([DFrac.mk (DBig.mk n10 ⟨l13, (G8 0).ss 0⟩) (DBig.mk n6 ⟨l14, (G8 0).ss 1⟩), DFrac.mk (DBig.mk n8 ⟨l11, (G8 1).ss 0⟩) (DBig.mk n9 ⟨l12, (G8 1).ss 1⟩)] : List DFrac) then (0 : Int) else 1) = 1))) : Bool) fun p6 hp6 => ?_
  refine V.go [.k (iv (Fr.shE ([DFrac.mk (DBig.mk n1 ⟨l1, (G2 0).ss 0⟩) (DBig.mk n2 ⟨l2, (G2 0).ss 1⟩), DFrac.mk (DBig.mk n3 ⟨l3, (G2 1).ss 0⟩) (DBig.mk n2 ⟨l4, (G2 1).ss 1⟩), DFrac.mk (DBig.mk n4 ⟨l5, (G2 2).ss 0⟩) (DBig.mk n2 ⟨l6, (G2 2).ss 1⟩), DFrac.mk (DBig.mk n5 ⟨l7, (G2 3).ss 0⟩) (DBig.mk n6 ⟨l8, (G2 3).ss 1⟩)] : List DFrac))),
    .k (bv (!(decide (Fr.shE ([DFrac.mk (DBig.mk n1 ⟨l1, (G2 0).ss 0⟩) (DBig.mk n2 ⟨l2, (G2 0).ss 1⟩), DFrac.mk (DBig.mk n3 ⟨l3, (G2 1).ss 0⟩) (DBig.mk n2 ⟨l4, (G2 1).ss 1⟩), DFrac.mk (DBig.mk n4 ⟨l5, (G2 2).ss 0⟩) (DBig.mk n2 ⟨l6, (G2 2).ss 1⟩), DFrac.mk (DBig.mk n5 ⟨l7, (G2 3).ss 0⟩) (DBig.mk n6 ⟨l8, (G2 3).ss 1⟩)] : List DFrac) = 0)))),
    .k (bv (!(decide (Fr.shE ([DFrac.mk (DBig.mk n1 ⟨l1, (G2 0).ss 0⟩) (DBig.mk n2 ⟨l2, (G2 0).ss 1⟩), DFrac.mk (DBig.mk n3 ⟨l3, (G2 1).ss 0⟩) (DBig.mk n2 ⟨l4, (G2 1).ss 1⟩), DFrac.mk (DBig.mk n4 ⟨l5, (G2 2).ss 0⟩) (DBig.mk n2 ⟨l6, (G2 2).ss 1⟩), DFrac.mk (DBig.mk n5 ⟨l7, (G2 3).ss 0⟩) (DBig.mk n6 ⟨l8, (G2 3).ss 1⟩)] : List DFrac) = 0)))),
    .k (iv (Fr.shE ([DFrac.mk (DBig.mk n4 ⟨l5, (G3 0).ss 0⟩) (DBig.mk n2 ⟨l6, (G3 0).ss 1⟩), DFrac.mk (DBig.mk n4 ⟨l5, (G3 1).ss 0⟩) (DBig.mk n2 ⟨l6, (G3 1).ss 1⟩)] : List DFrac))),
    .k (bv (!(decide (Fr.shE ([DFrac.mk (DBig.mk n4 ⟨l5, (G3 0).ss 0⟩) (DBig.mk n2 ⟨l6, (G3 0).ss 1⟩), DFrac.mk (DBig.mk n4 ⟨l5, (G3 1).ss 0⟩) (DBig.mk n2 ⟨l6, (G3 1).ss 1⟩)] : List DFrac) = 15)))),
    .orn g0 false (!(decide (Fr.shE ([DFrac.mk (DBig.mk n1 ⟨l1, (G2 0).ss 0⟩) (DBig.mk n2 ⟨l2, (G2 0).ss 1⟩), DFrac.mk (DBig.mk n3 ⟨l3, (G2 1).ss 0⟩) (DBig.mk n2 ⟨l4, (G2 1).ss 1⟩), DFrac.mk (DBig.mk n4 ⟨l5, (G2 2).ss 0⟩) (DBig.mk n2 ⟨l6, (G2 2).ss 1⟩), DFrac.mk (DBig.mk n5 ⟨l7, (G2 3).ss 0⟩) (DBig.mk n6 ⟨l8, (G2 3).ss 1⟩)] : List DFrac) = 0))) (!(decide (Fr.shE ([DFrac.mk (DBig.mk n4 ⟨l5, (G3 0).ss 0⟩) (DBig.mk n2 ⟨l6, (G3 0).ss 1⟩), DFrac.mk (DBig.mk n4 ⟨l5, (G3 1).ss 0⟩) (DBig.mk n2 ⟨l6, (G3 1).ss 1⟩)] : List DFrac) = 15))) p1 hp1,
    .k (bv p1),
    .k (iv (Fr.shE ([DFrac.mk (DBig.mk n1 ⟨l1, (G4 0).ss 0⟩) (DBig.mk n2 ⟨l2, (G4 0).ss 1⟩), DFrac.mk (DBig.mk n7 ⟨l9, (G4 1).ss 0⟩) (DBig.mk n2 ⟨l10, (G4 1).ss 1⟩)] : List DFrac))),
    .k (bv (!(decide (Fr.shE ([DFrac.mk (DBig.mk n1 ⟨l1, (G4 0).ss 0⟩) (DBig.mk n2 ⟨l2, (G4 0).ss 1⟩), DFrac.mk (DBig.mk n7 ⟨l9, (G4 1).ss 0⟩) (DBig.mk n2 ⟨l10, (G4 1).ss 1⟩)] : List DFrac) = 3)))),
    .orn g0 false p1 (!(decide (Fr.shE ([DFrac.mk (DBig.mk n1 ⟨l1, (G4 0).ss 0⟩) (DBig.mk n2 ⟨l2, (G4 0).ss 1⟩), DFrac.mk (DBig.mk n7 ⟨l9, (G4 1).ss 0⟩) (DBig.mk n2 ⟨l10, (G4 1).ss 1⟩)] : List DFrac) = 3))) p2 hp2,
    .k (bv p2),
    .k (iv (if Fr.rndOk (10 : Int) ([DFrac.mk (DBig.mk n8 ⟨l11, (G5 0).ss 0⟩) (DBig.mk n9 ⟨l12, (G5 0).ss 1⟩), DFrac.mk (DBig.mk n8 ⟨l11, (G5 1).ss 0⟩) (DBig.mk n9 ⟨l12, (G5 1).ss 1⟩), DFrac.mk (DBig.mk n8 ⟨l11, (G5 2).ss 0⟩) (DBig.mk n9 ⟨l12, (G5 2).ss 1⟩)] : List DFrac) then (0 : Int) else 1)),
    .k (bv (!(decide ((if Fr.rndOk (10 : Int) ([DFrac.mk (DBig.mk n8 ⟨l11, (G5 0).ss 0⟩) (DBig.mk n9 ⟨l12, (G5 0).ss 1⟩), DFrac.mk (DBig.mk n8 ⟨l11, (G5 1).ss 0⟩) (DBig.mk n9 ⟨l12, (G5 1).ss 1⟩), DFrac.mk (DBig.mk n8 ⟨l11, (G5 2).ss 0⟩) (DBig.mk n9 ⟨l12, (G5 2).ss 1⟩)] : List DFrac) then (0 : Int) else 1) = 0)))),
    .orn g0 false p2 (!(decide ((if Fr.rndOk (10 : Int) ([DFrac.mk (DBig.mk n8 ⟨l11, (G5 0).ss 0⟩) (DBig.mk n9 ⟨l12, (G5 0).ss 1⟩), DFrac.mk (DBig.mk n8 ⟨l11, (G5 1).ss 0⟩) (DBig.mk n9 ⟨l12, (G5 1).ss 1⟩), DFrac.mk (DBig.mk n8 ⟨l11, (G5 2).ss 0⟩) (DBig.mk n9 ⟨l12, (G5 2).ss 1⟩)] : List DFrac) then (0 : Int) else 1) = 0))) p3 hp3,
    .k (bv p3),
    .k (iv (if Fr.rndOk (7 : Int) ([DFrac.mk (DBig.mk n10 ⟨l13, (G6 0).ss 0⟩) (DBig.mk n6 ⟨l14, (G6 0).ss 1⟩), DFrac.mk (DBig.mk n11 ⟨l15, (G6 1).ss 0⟩) (DBig.mk n12 ⟨l16, (G6 1).ss 1⟩), DFrac.mk (DBig.mk n11 ⟨l15, (G6 2).ss 0⟩) (DBig.mk n12 ⟨l16, (G6 2).ss 1⟩)] : List DFrac) then (0 : Int) else 1)),
    .k (bv (!(decide ((if Fr.rndOk (7 : Int) ([DFrac.mk (DBig.mk n10 ⟨l13, (G6 0).ss 0⟩) (DBig.mk n6 ⟨l14, (G6 0).ss 1⟩), DFrac.mk (DBig.mk n11 ⟨l15, (G6 1).ss 0⟩) (DBig.mk n12 ⟨l16, (G6 1).ss 1⟩), DFrac.mk (DBig.mk n11 ⟨l15, (G6 2).ss 0⟩) (DBig.mk n12 ⟨l16, (G6 2).ss 1⟩)] : List DFrac) then (0 : Int) else 1) = 0)))),
    .orn g0 false p3 (!(decide ((if Fr.rndOk (7 : Int) ([DFrac.mk (DBig.mk n10 ⟨l13, (G6 0).ss 0⟩) (DBig.mk n6 ⟨l14, (G6 0).ss 1⟩), DFrac.mk (DBig.mk n11 ⟨l15, (G6 1).ss 0⟩) (DBig.mk n12 ⟨l16, (G6 1).ss 1⟩), DFrac.mk (DBig.mk n11 ⟨l15, (G6 2).ss 0⟩) (DBig.mk n12 ⟨l16, (G6 2).ss 1⟩)] : List DFrac) then (0 : Int) else 1) = 0))) p4 hp4,
    .k (bv p4),
    .k (iv (if Fr.rndOk (0 : Int) ([DFrac.mk (DBig.mk n1 ⟨l1, (G7 0).ss 0⟩) (DBig.mk n2 ⟨l2, (G7 0).ss 1⟩)] : List DFrac) then (0 : Int) else 1)),
    .k (bv (!(decide ((if Fr.rndOk (0 : Int) ([DFrac.mk (DBig.mk n1 ⟨l1, (G7 0).ss 0⟩) (DBig.mk n2 ⟨l2, (G7 0).ss 1⟩)] : List DFrac) then (0 : Int) else 1) = 0)))),
    .orn g0 false p4 (!(decide ((if Fr.rndOk (0 : Int) ([DFrac.mk (DBig.mk n1 ⟨l1, (G7 0).ss 0⟩) (DBig.mk n2 ⟨l2, (G7 0).ss 1⟩)] : List DFrac) then (0 : Int) else 1) = 0))) p5 hp5,
    .k (bv p5),
    .k (iv (if Fr.rndOk (5 : Int) ([DFrac.mk (DBig.mk n10 ⟨l13, (G8 0).ss 0⟩) (DBig.mk n6 ⟨l14, (G8 0).ss 1⟩), DFrac.mk (DBig.mk n8 ⟨l11, (G8 1).ss 0⟩) (DBig.mk n9 ⟨l12, (G8 1).ss 1⟩)] : List DFrac) then (0 : Int) else 1)),
    .k (bv (!(decide ((if Fr.rndOk (5 : Int) ([DFrac.mk (DBig.mk n10 ⟨l13, (G8 0).ss 0⟩) (DBig.mk n6 ⟨l14, (G8 0).ss 1⟩), DFrac.mk (DBig.mk n8 ⟨l11, (G8 1).ss 0⟩) (DBig.mk n9 ⟨l12, (G8 1).ss 1⟩)] : List DFrac) then (0 : Int) else 1) = 1)))),
    .orn g0 false p5 (!(decide ((if Fr.rndOk (5 : Int) ([DFrac.mk (DBig.mk n10 ⟨l13, (G8 0).ss 0⟩) (DBig.mk n6 ⟨l14, (G8 0).ss 1⟩), DFrac.mk (DBig.mk n8 ⟨l11, (G8 1).ss 0⟩) (DBig.mk n9 ⟨l12, (G8 1).ss 1⟩)] : List DFrac) then (0 : Int) else 1) = 1))) p6 hp6] (fun _ _ => by kernel_rfl) fun _ _ G9 => ?_
  intro S9 t9
  refine V.cond (b := p6) (iN hp6 (iOT (iN hp5 (iOT (iN hp4 (iOT (iN hp3 (iOT (iN hp2 (iOT (iN hp1 (iOT (iNT iDF) (iNT iDF))) (iNT iDF))) (iNT iDF))) (iNT iDF))) (iNT iDF))) (iNT iDF))) (iN hp6 (iOF (iN hp5 (iOF (iN hp4 (iOF (iN hp3 (iOF (iN hp2 (iOF (iN hp1 (iOF (iNF iDT) (iNF iDT))) (iNF iDT))) (iNF iDT))) (iNF iDT))) (iNF iDT))) (iNF iDT))) (by kernel_rfl) (fun q1 => ?_) (fun q2 => ?_)
  · skip
    exfalso
    have hqq := q1
    rw [if_pos hO4, if_pos hO5, if_pos hO6, if_neg hO7] at hqq
    omega
  · skip
    refine nm (Fr.rS ((9 : Int) ≠ 0) (Rat.divInt (2 : Int) (9 : Int)) : Int) fun n13 hn13 => ?_
    refine nm (Fr.rD ((9 : Int) ≠ 0) (Rat.divInt (2 : Int) (9 : Int)) : List Int) fun l17 hl17 => ?_
    have hl17n := congrArg List.length hl17
    refine nm (Fr.rT ((9 : Int) ≠ 0) : Int) fun n14 hn14 => ?_
    refine nm (Fr.rE ((9 : Int) ≠ 0) (Rat.divInt (2 : Int) (9 : Int)) : List Int) fun l18 hl18 => ?_
    have hl18n := congrArg List.length hl18
    refine nm (Fr.rS ((9 : Int) ≠ 0) (Rat.divInt (4 : Int) (9 : Int)) : Int) fun n15 hn15 => ?_
    refine nm (Fr.rD ((9 : Int) ≠ 0) (Rat.divInt (4 : Int) (9 : Int)) : List Int) fun l19 hl19 => ?_
    have hl19n := congrArg List.length hl19
    refine nm (Fr.rE ((9 : Int) ≠ 0) (Rat.divInt (4 : Int) (9 : Int)) : List Int) fun l20 hl20 => ?_
    have hl20n := congrArg List.length hl20
    have z10_1 : Fr.Fz n13 l17 n14 l18 (Rat.divInt (2 : Int) (9 : Int)) := Fr.Fz.of (by decide : (9 : Int) ≠ 0) hn13 hl17 hn14 hl18
    have z10_2 : Fr.Fz n15 l19 n14 l20 (Rat.divInt (4 : Int) (9 : Int)) := Fr.Fz.of (by decide : (9 : Int) ≠ 0) hn15 hl19 hn14 hl20
    have z10_3 : Fr.Fz n4 l5 n2 l6 (Rat.divInt (0 : Int) (1 : Int)) := Fr.Fz.of (by decide : (1 : Int) ≠ 0) hn4 hl5 hn2 hl6
    have z10_4 : Fr.Fz n8 l11 n9 l12 (Rat.divInt (1 : Int) (3 : Int)) := Fr.Fz.of (by decide : (3 : Int) ≠ 0) hn8 hl11 hn9 hl12
    refine V.reg [.k (((G2 5).ss 0).v),
      .ct g0 1 12 false [] [] [] (fun _ G => lof_ctv (2 : Int) (9 : Int) (by omega) (by omega) n13 hn13 l17 hl17 n14 hn14 l18 hl18),
      .ct g0 2 12 false [] [] [] (fun _ G => lof_ctv (4 : Int) (9 : Int) (by omega) (by omega) n15 hn15 l19 hl19 n14 hn14 l20 hl20),
      .ct g0 3 12 false [] [] [] (fun _ G => lof_ctv (0 : Int) (1 : Int) (by omega) (by omega) n4 hn4 l5 hl5 n2 hn2 l6 hl6),
      .ct g0 4 12 false [] [] [] (fun _ G => lof_ctv (1 : Int) (3 : Int) (by omega) (by omega) n8 hn8 l11 hl11 n9 hn9 l12 hl12),
      .nrG 5 true 33 (fun G => ([DFrac.mk (DBig.mk n13 ⟨l17, (G 1).ss 0⟩) (DBig.mk n14 ⟨l18, (G 1).ss 1⟩), DFrac.mk (DBig.mk n15 ⟨l19, (G 2).ss 0⟩) (DBig.mk n14 ⟨l20, (G 2).ss 1⟩), DFrac.mk (DBig.mk n4 ⟨l5, (G 3).ss 0⟩) (DBig.mk n2 ⟨l6, (G 3).ss 1⟩), DFrac.mk (DBig.mk n8 ⟨l11, (G 4).ss 0⟩) (DBig.mk n9 ⟨l12, (G 4).ss 1⟩)] : List DFrac)) 4 (fun _ => rfl) [(kf true (.g 1 0) l17 (fun G => (G 1).ss 0)).a, (kf true (.g 1 1) l18 (fun G => (G 1).ss 1)).a, (kf true (.g 2 0) l19 (fun G => (G 2).ss 0)).a, (kf true (.g 2 1) l20 (fun G => (G 2).ss 1)).a, (kf true (.g 3 0) l5 (fun G => (G 3).ss 0)).a, (kf true (.g 3 1) l6 (fun G => (G 3).ss 1)).a, (kf true (.g 4 0) l11 (fun G => (G 4).ss 0)).a, (kf true (.g 4 1) l12 (fun G => (G 4).ss 1)).a] (fun _ _ h => (List.forall_mem_cons.2 ⟨(And.intro h.1 h.2.1), (List.forall_mem_cons.2 ⟨(And.intro h.2.2.1 h.2.2.2.1), (List.forall_mem_cons.2 ⟨(And.intro h.2.2.2.2.1 h.2.2.2.2.2.1), (List.forall_mem_cons.2 ⟨(And.intro h.2.2.2.2.2.2.1 h.2.2.2.2.2.2.2.1), (List.forall_mem_nil _)⟩)⟩)⟩)⟩)) (fun G => #[iv n13, ((G 1).ss 0).v, iv n14, ((G 1).ss 1).v, iv n15, ((G 2).ss 0).v, iv n14, ((G 2).ss 1).v, iv n4, ((G 3).ss 0).v, iv n2, ((G 3).ss 1).v, iv n8, ((G 4).ss 0).v, iv n9, ((G 4).ss 1).v]),
      .cp g0 6 13 [(kf true (.f 9) (Fr.frs (Fr.shQ ([DFrac.mk (DBig.mk n1 ⟨l1, (G2 0).ss 0⟩) (DBig.mk n2 ⟨l2, (G2 0).ss 1⟩), DFrac.mk (DBig.mk n3 ⟨l3, (G2 1).ss 0⟩) (DBig.mk n2 ⟨l4, (G2 1).ss 1⟩), DFrac.mk (DBig.mk n4 ⟨l5, (G2 2).ss 0⟩) (DBig.mk n2 ⟨l6, (G2 2).ss 1⟩), DFrac.mk (DBig.mk n5 ⟨l7, (G2 3).ss 0⟩) (DBig.mk n6 ⟨l8, (G2 3).ss 1⟩)] : List DFrac)) ((G2 5).sl 0)) (fun _ => (G2 5).ss 0)).a, (kg true (.g 5 0) (fun G => ([DFrac.mk (DBig.mk n13 ⟨l17, (G 1).ss 0⟩) (DBig.mk n14 ⟨l18, (G 1).ss 1⟩), DFrac.mk (DBig.mk n15 ⟨l19, (G 2).ss 0⟩) (DBig.mk n14 ⟨l20, (G 2).ss 1⟩), DFrac.mk (DBig.mk n4 ⟨l5, (G 3).ss 0⟩) (DBig.mk n2 ⟨l6, (G 3).ss 1⟩), DFrac.mk (DBig.mk n8 ⟨l11, (G 4).ss 0⟩) (DBig.mk n9 ⟨l12, (G 4).ss 1⟩)] : List DFrac)) (fun G => ⟨atB (G 5).b, 4, 4⟩))] (fun _ G => same30t_ct (Fr.frs (Fr.shQ ([DFrac.mk (DBig.mk n1 ⟨l1, (G2 0).ss 0⟩) (DBig.mk n2 ⟨l2, (G2 0).ss 1⟩), DFrac.mk (DBig.mk n3 ⟨l3, (G2 1).ss 0⟩) (DBig.mk n2 ⟨l4, (G2 1).ss 1⟩), DFrac.mk (DBig.mk n4 ⟨l5, (G2 2).ss 0⟩) (DBig.mk n2 ⟨l6, (G2 2).ss 1⟩), DFrac.mk (DBig.mk n5 ⟨l7, (G2 3).ss 0⟩) (DBig.mk n6 ⟨l8, (G2 3).ss 1⟩)] : List DFrac)) ((G2 5).sl 0)) ((G2 5).ss 0) ([DFrac.mk (DBig.mk n13 ⟨l17, (G 1).ss 0⟩) (DBig.mk n14 ⟨l18, (G 1).ss 1⟩), DFrac.mk (DBig.mk n15 ⟨l19, (G 2).ss 0⟩) (DBig.mk n14 ⟨l20, (G 2).ss 1⟩), DFrac.mk (DBig.mk n4 ⟨l5, (G 3).ss 0⟩) (DBig.mk n2 ⟨l6, (G 3).ss 1⟩), DFrac.mk (DBig.mk n8 ⟨l11, (G 4).ss 0⟩) (DBig.mk n9 ⟨l12, (G 4).ss 1⟩)] : List DFrac) ⟨atB (G 5).b, 4, 4⟩ ((Fr.Frs.of _ _).sm (Fr.Frs.cons z10_1.rt z10_1.v (Fr.Frs.cons z10_2.rt z10_2.v (Fr.Frs.cons z10_3.rt z10_3.v (Fr.Frs.cons z10_4.rt z10_4.v Fr.Frs.nil)))) ((Fr.shQ_q hF1).trans (by decide +kernel)))),
      .kb true,
      .k (((G5 4).ss 0).v),
      .nr 9 true 3 ([4, 3, 3] : List Int) [] (fun _ _ _ _ _ => trivial) (fun _ => #[iv 4, iv 3, iv 3]),
      .cp g0 10 31 [(kf true (.f 29) (Fr.rndL (10 : Int) ([DFrac.mk (DBig.mk n8 ⟨l11, (G5 0).ss 0⟩) (DBig.mk n9 ⟨l12, (G5 0).ss 1⟩), DFrac.mk (DBig.mk n8 ⟨l11, (G5 1).ss 0⟩) (DBig.mk n9 ⟨l12, (G5 1).ss 1⟩), DFrac.mk (DBig.mk n8 ⟨l11, (G5 2).ss 0⟩) (DBig.mk n9 ⟨l12, (G5 2).ss 1⟩)] : List DFrac)) (fun _ => (G5 4).ss 0)).a, (kf true (.g 9 0) ([4, 3, 3] : List Int) (fun G => ⟨atB (G 9).b, 3, 3⟩)).a] (fun _ G => sameintst_ct (Fr.rndL (10 : Int) ([DFrac.mk (DBig.mk n8 ⟨l11, (G5 0).ss 0⟩) (DBig.mk n9 ⟨l12, (G5 0).ss 1⟩), DFrac.mk (DBig.mk n8 ⟨l11, (G5 1).ss 0⟩) (DBig.mk n9 ⟨l12, (G5 1).ss 1⟩), DFrac.mk (DBig.mk n8 ⟨l11, (G5 2).ss 0⟩) (DBig.mk n9 ⟨l12, (G5 2).ss 1⟩)] : List DFrac)) ((G5 4).ss 0) ([4, 3, 3] : List Int) ⟨atB (G 9).b, 3, 3⟩ hR4),
      .kb true,
      .kb true] (fun _ _ => by kernel_rfl) fun _ _ G10 kw10 => ?_
    intro S10 t10
    obtain ⟨⟨kl49, -⟩, ⟨kl50, -⟩, ⟨kl51, -⟩, ⟨kl52, -⟩, ⟨kl53, -⟩, ⟨kl54, -⟩, ⟨kl55, -⟩, ⟨kl56, -⟩, ⟨kl57, -⟩, -⟩ : Lq l17 (((G10 1).ss 0).v) ∧ Lq l18 (((G10 1).ss 1).v) ∧ Lq l19 (((G10 2).ss 0).v) ∧ Lq l20 (((G10 2).ss 1).v) ∧ Lq l5 (((G10 3).ss 0).v) ∧ Lq l6 (((G10 3).ss 1).v) ∧ Lq l11 (((G10 4).ss 0).v) ∧ Lq l12 (((G10 4).ss 1).v) ∧ Lq ([DFrac.mk (DBig.mk n13 ⟨l17, (G10 1).ss 0⟩) (DBig.mk n14 ⟨l18, (G10 1).ss 1⟩), DFrac.mk (DBig.mk n15 ⟨l19, (G10 2).ss 0⟩) (DBig.mk n14 ⟨l20, (G10 2).ss 1⟩), DFrac.mk (DBig.mk n4 ⟨l5, (G10 3).ss 0⟩) (DBig.mk n2 ⟨l6, (G10 3).ss 1⟩), DFrac.mk (DBig.mk n8 ⟨l11, (G10 4).ss 0⟩) (DBig.mk n9 ⟨l12, (G10 4).ss 1⟩)] : List DFrac) (SV.v ⟨atB (G10 5).b, 4, 4⟩) ∧ True := kn kw10 (by kernel_rfl)
    clear kw10
    have hF10 : Fr.Frs ([DFrac.mk (DBig.mk n13 ⟨l17, (G10 1).ss 0⟩) (DBig.mk n14 ⟨l18, (G10 1).ss 1⟩), DFrac.mk (DBig.mk n15 ⟨l19, (G10 2).ss 0⟩) (DBig.mk n14 ⟨l20, (G10 2).ss 1⟩), DFrac.mk (DBig.mk n4 ⟨l5, (G10 3).ss 0⟩) (DBig.mk n2 ⟨l6, (G10 3).ss 1⟩), DFrac.mk (DBig.mk n8 ⟨l11, (G10 4).ss 0⟩) (DBig.mk n9 ⟨l12, (G10 4).ss 1⟩)] : List DFrac) ([Rat.divInt (2 : Int) (9 : Int), Rat.divInt (4 : Int) (9 : Int), Rat.divInt (0 : Int) (1 : Int), Rat.divInt (1 : Int) (3 : Int)] : List Rat) := (Fr.Frs.cons z10_1.rt z10_1.v (Fr.Frs.cons z10_2.rt z10_2.v (Fr.Frs.cons z10_3.rt z10_3.v (Fr.Frs.cons z10_4.rt z10_4.v Fr.Frs.nil))))
    refine V.go [.kb true,
      .kb true,
      .k (((G6 4).ss 0).v),
      .nr 3 true 3 ([3, 2, 2] : List Int) [] (fun _ _ _ _ _ => trivial) (fun _ => #[iv 3, iv 2, iv 2]),
      .cp g0 4 31 [(kf true (.f 37) (Fr.rndL (7 : Int) ([DFrac.mk (DBig.mk n10 ⟨l13, (G6 0).ss 0⟩) (DBig.mk n6 ⟨l14, (G6 0).ss 1⟩), DFrac.mk (DBig.mk n11 ⟨l15, (G6 1).ss 0⟩) (DBig.mk n12 ⟨l16, (G6 1).ss 1⟩), DFrac.mk (DBig.mk n11 ⟨l15, (G6 2).ss 0⟩) (DBig.mk n12 ⟨l16, (G6 2).ss 1⟩)] : List DFrac)) (fun _ => (G6 4).ss 0)).a, (kf true (.g 3 0) ([3, 2, 2] : List Int) (fun G => ⟨atB (G 3).b, 3, 3⟩)).a] (fun _ G => sameintst_ct (Fr.rndL (7 : Int) ([DFrac.mk (DBig.mk n10 ⟨l13, (G6 0).ss 0⟩) (DBig.mk n6 ⟨l14, (G6 0).ss 1⟩), DFrac.mk (DBig.mk n11 ⟨l15, (G6 1).ss 0⟩) (DBig.mk n12 ⟨l16, (G6 1).ss 1⟩), DFrac.mk (DBig.mk n11 ⟨l15, (G6 2).ss 0⟩) (DBig.mk n12 ⟨l16, (G6 2).ss 1⟩)] : List DFrac)) ((G6 4).ss 0) ([3, 2, 2] : List Int) ⟨atB (G 3).b, 3, 3⟩ hR5),
      .kb true,
      .kb true,
      .k (((G7 2).ss 0).v),
      .nr 8 true 3 ([0] : List Int) [] (fun _ _ _ _ _ => trivial) (fun _ => #[iv 0]),
      .cp g0 9 31 [(kf true (.f 41) (Fr.rndL (0 : Int) ([DFrac.mk (DBig.mk n1 ⟨l1, (G7 0).ss 0⟩) (DBig.mk n2 ⟨l2, (G7 0).ss 1⟩)] : List DFrac)) (fun _ => (G7 2).ss 0)).a, (kf true (.g 8 0) ([0] : List Int) (fun G => ⟨atB (G 8).b, 1, 1⟩)).a] (fun _ G => sameintst_ct (Fr.rndL (0 : Int) ([DFrac.mk (DBig.mk n1 ⟨l1, (G7 0).ss 0⟩) (DBig.mk n2 ⟨l2, (G7 0).ss 1⟩)] : List DFrac)) ((G7 2).ss 0) ([0] : List Int) ⟨atB (G 8).b, 1, 1⟩ hR6),
      .kb true,
      .kb true] (fun _ _ => by kernel_rfl) fun _ _ G11 => ?_
    intro S11 t11
    exact V.ret [0] [] [] [] [] [] (bv true) (fun _ _ => by kernel_rfl) (fun _ _ => by kernel_rfl) (fun _ _ => trivial)

end Kb
set_option linter.unusedVariables false
set_option linter.unusedSectionVars false
set_option linter.unusedSimpArgs false
namespace Kb
namespace Fr
open Bg
/-- y is r times x, if x is right -/
structure Scl (r : Rat) (x y : DFrac) : Prop where
  ok : rt y ↔ rt x
  v : rt x → qv y = qv x * r
  ln : ln 100 y
def SclL (r : Rat) : List DFrac → List DFrac → Prop
  | [], [] => True
  | x :: a, y :: b => Scl r x y ∧ SclL r a b
  | _, _ => False
theorem SclL.snoc {r : Rat} {x y : DFrac} (h : Scl r x y) : ∀ {a b : List DFrac}, SclL r a b → SclL r (a ++ [x]) (b ++ [y])
  | [], [], _ => ⟨h, trivial⟩
  | u :: a, v :: b, k => ⟨k.1, SclL.snoc h k.2⟩
  | [], _ :: _, k => k.elim
  | _ :: _, [], k => k.elim
theorem SclL.len {r : Rat} : ∀ {a b : List DFrac}, SclL r a b → b.length = a.length
  | [], [], _ => rfl
  | u :: a, v :: b, k => by rw [List.length_cons, List.length_cons, SclL.len k.2]
  | [], _ :: _, k => k.elim
  | _ :: _, [], k => k.elim
theorem SclL.lns {r : Rat} : ∀ {a b : List DFrac}, SclL r a b → ∀ y ∈ b, ln 100 y
  | [], [], _, y, hy => by cases hy
  | u :: a, v :: b, k, y, hy => by
    rcases List.mem_cons.1 hy with rfl | hy
    · exact k.1.ln
    · exact SclL.lns k.2 y hy
  | [], _ :: _, k, _, _ => k.elim
  | _ :: _, [], k, _, _ => k.elim
theorem SclL.wb {r : Rat} {a b : List DFrac} (h : SclL r a b) (hl : a.length ≤ 1000) : Wb b := ⟨by rw [h.len]; exact hl, fun y hy => by have := h.lns y hy; unfold Fr.ln at this ⊢; omega⟩
theorem SclL.wrong {r : Rat} : ∀ {a b : List DFrac}, SclL r a b → b.any wrongB = a.any wrongB
  | [], [], _ => rfl
  | u :: a, v :: b, k => by
    rw [List.any_cons, List.any_cons, SclL.wrong k.2]
    congr 1
    unfold wrongB
    rw [decide_eq_decide.2 k.1.ok]
  | [], _ :: _, k => k.elim
  | _ :: _, [], k => k.elim
theorem mul_neg_iff {a r : Rat} (hr : 0 < r) : a * r < 0 ↔ a < 0 := Rat.mul_neg_iff_of_pos_right hr
theorem SclL.neg {r : Rat} (hr : 0 < r) : ∀ {a b : List DFrac}, SclL r a b → (∀ x ∈ a, rt x) → b.any negB = a.any negB
  | [], [], _, _ => rfl
  | u :: a, v :: b, k, h => by
    have hu := h u List.mem_cons_self
    rw [List.any_cons, List.any_cons, SclL.neg hr k.2 fun x hx => h x (List.mem_cons_of_mem _ hx), negB_is hu, negB_is (k.1.ok.2 hu), k.1.v hu, decide_eq_decide.2 (mul_neg_iff hr)]
  | [], _ :: _, k, _ => k.elim
  | _ :: _, [], k, _ => k.elim
theorem SclL.map {r : Rat} : ∀ {a b : List DFrac}, SclL r a b → (∀ x ∈ a, rt x) → b.map qv = (a.map qv).map (· * r)
  | [], [], _, _ => rfl
  | u :: a, v :: b, k, h => by
    rw [List.map_cons, List.map_cons, List.map_cons, SclL.map k.2 fun x hx => h x (List.mem_cons_of_mem _ hx), k.1.v (h u List.mem_cons_self)]
  | [], _ :: _, k, _ => k.elim
  | _ :: _, [], k, _ => k.elim
theorem sumQ_mul (r : Rat) : ∀ l : List Rat, sumQ (l.map (· * r)) = sumQ l * r
  | [] => (Rat.zero_mul r).symm
  | x :: l => by rw [List.map_cons, sumQ_cons, sumQ_cons, sumQ_mul r l, Rat.add_mul]
theorem not_any_wrong {w : List DFrac} (h : ¬ w.any wrongB = true) : ∀ x ∈ w, rt x := anyW.1 (by simpa using h)
theorem scl_E {r : Rat} (hr : 0 < r) {w b : List DFrac} (h : SclL r w b) : shE b = shE w ∧ shQ b = shQ w := by
  have hr0 : r ≠ 0 := fun e => Rat.lt_irrefl (e ▸ hr)
  have hn : b = [] ↔ w = [] := by rw [← List.length_eq_zero_iff, ← List.length_eq_zero_iff, h.len]
  by_cases h1 : w = [] ∨ w.any wrongB = true
  · have h2 : b = [] ∨ b.any wrongB = true := by rw [hn, h.wrong]; exact h1
    have e1 := shE_1 h1; have e2 := shE_1 h2
    refine ⟨by rw [e1, e2], by rw [shQ_n (l := b) (by rw [e2]; decide), shQ_n (l := w) (by rw [e1]; decide)]⟩
  · have h2 : ¬ (b = [] ∨ b.any wrongB = true) := by rw [hn, h.wrong]; exact h1
    have hrt := not_any_wrong fun k => h1 (.inr k)
    have hs : sumW b = sumW w * r := by unfold sumW; rw [h.map hrt, sumQ_mul]
    have hz : sumW b = 0 ↔ sumW w = 0 := by rw [hs, Rat.mul_eq_zero]; exact ⟨fun k => k.resolve_right hr0, .inl⟩
    have hE : shE b = shE w := by
      unfold shE
      rw [if_neg h1, if_neg h2, h.neg hr hrt]
      by_cases h3 : w.any negB = true
      · rw [if_pos h3, if_pos h3]
      · rw [if_neg h3, if_neg h3]
        by_cases h4 : sumW w = 0
        · rw [if_pos h4, if_pos (hz.2 h4)]
        · rw [if_neg h4, if_neg fun k => h4 (hz.1 k)]
    refine ⟨hE, ?_⟩
    by_cases h5 : shE w = 0
    · rw [shQ_y h5, shQ_y (hE.trans h5), hs]
      have e1 : b.map (fun x => qv x / (sumW w * r)) = (b.map qv).map fun q => q / (sumW w * r) := by rw [List.map_map]; rfl
      have e2 : w.map (fun x => qv x / sumW w) = (w.map qv).map fun q => q / sumW w := by rw [List.map_map]; rfl
      rw [e1, e2, h.map hrt, List.map_map]
      refine List.map_congr_left fun q _ => ?_
      show q * r / (sumW w * r) = q / sumW w
      have h0 := (shE_is h5).2.2.2
      rw [Rat.div_def, Rat.div_def, Rat.inv_mul_rev]
      have := Rat.mul_inv_cancel r hr0
      generalize r⁻¹ = s at *
      generalize (sumW w)⁻¹ = t at *
      grind
    · rw [shQ_n h5, shQ_n (by rw [hE]; exact h5)]
/-- turned -/
theorem rot_E {w a b : List DFrac} (e : w = a ++ b) : shE (b ++ a) = shE w ∧ (shE w = 0 → shQ (b ++ a) = b.map (fun x => qv x / sumW w) ++ a.map fun x => qv x / sumW w) := by
  have hs : sumW (b ++ a) = sumW w := by unfold sumW; rw [e]; exact sumQ_perm ((List.perm_append_comm).map qv)
  have hE : shE (b ++ a) = shE w := by
    unfold shE
    rw [hs, e]
    have h1 : (b ++ a = [] ∨ (b ++ a).any wrongB = true) ↔ (a ++ b = [] ∨ (a ++ b).any wrongB = true) := by
      rw [List.any_append, List.any_append, Bool.or_comm, List.append_eq_nil_iff, List.append_eq_nil_iff, And.comm (a := b = [])]
    have h2 : (b ++ a).any negB = (a ++ b).any negB := by rw [List.any_append, List.any_append, Bool.or_comm]
    rw [h2]
    by_cases h : a ++ b = [] ∨ (a ++ b).any wrongB = true
    · rw [if_pos h, if_pos (h1.2 h)]
    · rw [if_neg h, if_neg fun k => h (h1.1 k)]
  refine ⟨hE, fun h => ?_⟩
  rw [shQ_y (hE.trans h), hs, List.map_append]
theorem Frs.take {l : List DFrac} {m : List Rat} (h : Frs l m) (k : Nat) : Frs (l.take k) (m.take k) := ⟨fun x hx => h.1 x (List.mem_of_mem_take hx), by rw [List.map_take, h.2]⟩
theorem Frs.drop {l : List DFrac} {m : List Rat} (h : Frs l m) (k : Nat) : Frs (l.drop k) (m.drop k) := ⟨fun x hx => h.1 x (List.mem_of_mem_drop hx), by rw [List.map_drop, h.2]⟩
theorem Frs.app {l l' : List DFrac} {m m' : List Rat} (h : Frs l m) (k : Frs l' m') : Frs (l ++ l') (m ++ m') := ⟨fun x hx => by rcases List.mem_append.1 hx with hx | hx; exact h.1 x hx; exact k.1 x hx, by rw [List.map_append, h.2, k.2]⟩
theorem rot_same {w : List DFrac} (he : shE w = 0) (k : Nat) (σ τ : Nat → SV) : (frs (shQ (w.drop k ++ w.take k)) σ).map sh4 = ((frs (shQ w) τ).drop k ++ (frs (shQ w) τ).take k).map sh4 := by
  refine (Frs.of _ σ).sm (((Frs.of _ τ).drop k).app ((Frs.of _ τ).take k)) ?_
  rw [(rot_E (List.take_append_drop k w).symm).2 he, shQ_y he, List.map_drop, List.map_take]
/-- the last two put together -/
theorem pair_E {w : List DFrac} (he : shE w = 0) {n : Nat} (hn : w.length = n + 2) {z : DFrac} (hz : rt z) (hv : qv z = qv (w.getD n default) + qv (w.getD (n + 1) default)) :
    shE (w.take n ++ [z]) = 0 ∧ shQ (w.take n ++ [z]) = (shQ w).take n ++ [(shQ w).getD n 0 + (shQ w).getD (n + 1) 0] := by
  obtain ⟨_, hr, h1, h0⟩ := shE_is he
  have hx := getD_mem (l := w) (k := n) (by omega) rfl
  have hy := getD_mem (l := w) (k := n + 1) (by omega) rfl
  have e : w = w.take n ++ [w.getD n default, w.getD (n + 1) default] := by
    have a1 := take_step (l := w) (k := n + 1) (by omega)
    rw [List.take_of_length_le (by omega), take_step (l := w) (k := n) (by omega)] at a1
    rw [List.append_assoc] at a1; exact a1
  have hs : sumW (w.take n ++ [z]) = sumW w := by
    unfold sumW
    conv => rhs; rw [e]
    rw [List.map_append, List.map_append, sumQ_app, sumQ_app, List.map_singleton, hv]
    congr 1
    simp only [List.map_cons, List.map_nil, sumQ_cons]
    show qv (w.getD n default) + qv (w.getD (n + 1) default) + 0 = qv (w.getD n default) + (qv (w.getD (n + 1) default) + 0)
    rw [Rat.add_zero, Rat.add_zero]
  have hrt : ∀ x ∈ w.take n ++ [z], rt x := fun x hx => by
    rcases List.mem_append.1 hx with hx | hx
    · exact hr x (List.mem_of_mem_take hx)
    · rw [List.mem_singleton.1 hx]; exact hz
  have hz0 : 0 ≤ qv z := by rw [hv]; exact Rat.add_nonneg (h1 _ hx) (h1 _ hy)
  have hE : shE (w.take n ++ [z]) = 0 := by
    refine shE_0 (fun k => ?_) (fun k => ?_) (by rw [hs]; exact h0)
    · rcases k with k | k
      · simp at k
      · rw [anyW.2 hrt] at k; cases k
    · rw [(anyN hrt).2 fun x hx => by
        rcases List.mem_append.1 hx with hx | hx
        · exact h1 x (List.mem_of_mem_take hx)
        · rw [List.mem_singleton.1 hx]; exact hz0] at k
      cases k
  refine ⟨hE, ?_⟩
  have g : ∀ j, j < w.length → (shQ w).getD j 0 = qv (w.getD j default) / sumW w := fun j hj => by
    rw [shQ_y he, List.getD_eq_getElem?_getD, List.getElem?_map, List.getElem?_eq_getElem hj, List.getD_eq_getElem?_getD, List.getElem?_eq_getElem hj]; rfl
  rw [g n (by omega), g (n + 1) (by omega), shQ_y hE, hs, List.map_append, shQ_y he, List.map_take, List.map_singleton, hv, Rat.div_def, Rat.div_def, Rat.div_def, Rat.add_mul]
theorem pair_same {w : List DFrac} (he : shE w = 0) {n : Nat} (hn : w.length = n + 2) {z y : DFrac} (hz : rt z) (hv : qv z = qv (w.getD n default) + qv (w.getD (n + 1) default)) (σ τ : Nat → SV)
    (hy : rt y) (hyv : qv y = qv ((frs (shQ w) τ).getD n default) + qv ((frs (shQ w) τ).getD (n + 1) default)) : (frs (shQ (w.take n ++ [z])) σ).map sh4 = ((frs (shQ w) τ).take n ++ [y]).map sh4 := by
  refine (Frs.of _ σ).sm (((Frs.of _ τ).take n).snoc hy hyv) ?_
  have hl : (frs (shQ w) τ).length = w.length := by rw [frs_len, shQ_len he]
  rw [(pair_E he hn hz hv).2, ← getD_qv (by omega), ← getD_qv (by omega), frs_qv]
theorem pair_wb {w : List DFrac} (h : few30 w) {n : Nat} {z : DFrac} (hz : ln 100 z) : Wb (w.take n ++ [z]) := by
  refine ⟨by have := h.1; simp; omega, fun x hx => ?_⟩
  rcases List.mem_append.1 hx with hx | hx
  · exact (few30_wb h).2 x (List.mem_of_mem_take hx)
  · rw [List.mem_singleton.1 hx]; unfold ln at hz ⊢; omega
theorem rot_wb {w : List DFrac} (h : few30 w) (k : Nat) : Wb (w.drop k ++ w.take k) := by
  refine ⟨by have := h.1; simp; omega, fun x hx => ?_⟩
  rcases List.mem_append.1 hx with hx | hx
  · exact (few30_wb h).2 x (List.mem_of_mem_drop hx)
  · exact (few30_wb h).2 x (List.mem_of_mem_take hx)
theorem divInt_pos {p q : Int} (hp : 0 < p) (hq : 0 < q) : 0 < Rat.divInt p q := by
  rw [Rat.divInt_eq_div, Rat.div_def]
  exact Rat.mul_pos (Rat.intCast_pos.2 hp) (Rat.inv_pos.2 (Rat.intCast_pos.2 hq))
theorem divI_hb {p q : Int} (hp : 0 ≤ p ∧ p ≤ 65535) (hq : 0 ≤ q ∧ q ≤ 65535) : Hb (Rat.divInt p q) 1 := by
  refine Hb.divI (by omega) ?_ ?_
  · show _ < (1048576 : Nat); omega
  · show _ < (1048576 : Nat); omega
/-- what multiplying leaves -/
theorem scl_of {x y : DFrac} {r : Rat} {ps qs n1 n2 : Int} {pd qd l1 l2 : List Int} (z : Fz ps pd qs qd r) (hl : ln 6 x) (hb : Hb r 1) (e1 : y.P.Sign = n1) (e2 : y.P.Digits.l = l1) (e3 : y.Q.Sign = n2) (e4 : y.Q.Digits.l = l2)
    (h1 : n1 = rS (FrB x.P.Sign x.P.Digits.l x.Q.Sign x.Q.Digits.l ∧ FrB ps pd qs qd) (fq x.P.Sign x.P.Digits.l x.Q.Digits.l * fq ps pd qd)) (h2 : l1 = rD (FrB x.P.Sign x.P.Digits.l x.Q.Sign x.Q.Digits.l ∧ FrB ps pd qs qd) (fq x.P.Sign x.P.Digits.l x.Q.Digits.l * fq ps pd qd))
    (h3 : n2 = rT (FrB x.P.Sign x.P.Digits.l x.Q.Sign x.Q.Digits.l ∧ FrB ps pd qs qd)) (h4 : l2 = rE (FrB x.P.Sign x.P.Digits.l x.Q.Sign x.Q.Digits.l ∧ FrB ps pd qs qd) (fq x.P.Sign x.P.Digits.l x.Q.Digits.l * fq ps pd qd)) : Scl r x y := by
  by_cases hx : rt x
  · have hy := Fz.of (p := FrB x.P.Sign x.P.Digits.l x.Q.Sign x.Q.Digits.l ∧ FrB ps pd qs qd) ⟨hx, z.rt⟩ h1 h2 h3 h4
    rw [← e1, ← e2, ← e3, ← e4] at hy
    have hv : qv y = qv x * r := by rw [show qv y = fq y.P.Sign y.P.Digits.l y.Q.Digits.l from rfl, hy.v, z.v]; rfl
    refine ⟨⟨fun _ => hx, fun _ => hy.rt⟩, fun _ => hv, ?_⟩
    have h6 := (hx.z.hb hl.1 hl.2).mul hb
    rw [← hv] at h6
    have h7 : Fz y.P.Sign y.P.Digits.l y.Q.Sign y.Q.Digits.l (qv y) := ⟨hy.rt, rfl⟩
    exact h7.len (h6.mono (by omega))
  · have hn : ¬ (FrB x.P.Sign x.P.Digits.l x.Q.Sign x.Q.Digits.l ∧ FrB ps pd qs qd) := fun k => hx k.1
    rw [rS_n hn] at h1; rw [rD_n hn] at h2; rw [rT_n hn] at h3; rw [rE_n hn] at h4
    refine ⟨⟨fun k => ?_, fun k => (hx k).elim⟩, fun k => (hx k).elim, ?_⟩
    · have k2 : FrB y.P.Sign y.P.Digits.l y.Q.Sign y.Q.Digits.l := k
      have := k2.2.2.1; rw [e3, h3] at this; omega
    · unfold ln; rw [e2, e4, h2, h4]; simp
theorem zero_ln : ln 100 (default : DFrac) := by unfold ln; decide
end Fr
end Kb
