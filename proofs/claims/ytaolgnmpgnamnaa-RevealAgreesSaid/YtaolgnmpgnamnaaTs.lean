/- Plain laws: what a built tree is. -/
import Derived.Test.YtaolgnmpgnamnaaTr
set_option linter.unusedVariables false
set_option linter.unusedSimpArgs false
namespace Kb
namespace Tm
theorem Down.append {l t : List DThing} {r a : Int} (h : Down l r a) : Down (l ++ t) r a := by
  induction h with
  | refl h => exact .refl (has_append h)
  | step hr hc hx hd ih => exact .step (has_append hr) (has_append hc) (by rw [el_append_more hr]; exact hx) ih
theorem Down.trans {l : List DThing} {r c a : Int} (h : Down l r c) (k : Down l c a) : Down l r a := by
  induction h with
  | refl _ => exact k
  | step hr hc hx hd ih => exact .step hr hc hx (ih k)
theorem near_of {l : List DThing} (hS : Sound l) {r a : Int} (h : Down l r a) : near l a r = true := by
  induction h with
  | refl h => exact near_self h.1 h.2
  | @step r c a hr hc hx hd ih =>
    have h1 := half hS hr hc hx
    have h2 := near_ge hc.1 hc.2 ih
    have ha := hd.has2
    rw [near_up hS ha.1 (by omega) hr.2]
    rcases hx with e | e <;> rw [e] <;> rw [e] at h1 <;> simp [ih] <;> omega
theorem pairUp_inv {S B : Int} (hSc : S ≤ 1125899906842624) (hBc : B ≤ 1125899906842624) : ∀ (n : Nat) (th : List DThing) (l pre : List Int), l.length ≤ n → Lev th (pre ++ l) S B → Sound th → th.length + l.length ≤ 2001 →
    Lev (pairUp th l).1 (pre ++ (pairUp th l).2) S B ∧ Sound (pairUp th l).1 ∧ (∃ t, (pairUp th l).1 = th ++ t) ∧ (pairUp th l).1.length + (pairUp th l).2.length = th.length + l.length ∧ ∀ a ∈ l, ∃ r ∈ (pairUp th l).2, Down (pairUp th l).1 r a
  | _, th, [], pre, _, hL, hS, _ => ⟨hL, hS, ⟨[], by simp [pairUp]⟩, rfl, fun a h => by cases h⟩
  | _, th, [x], pre, _, hL, hS, _ => ⟨hL, hS, ⟨[], by simp [pairUp]⟩, rfl, fun a h => ⟨x, by simp [pairUp], by
      have : a = x := by simpa using h
      subst this
      exact .refl (hL.has a (by simp)).1⟩⟩
  | 0, th, x :: y :: rest, pre, h, _, _, _ => by simp at h
  | n + 1, th, x :: y :: rest, pre, h, hL, hS, hlen => by
    simp only [List.length_cons] at h hlen
    have hx := (hL.has x (by simp)).1
    have hy := (hL.has y (by simp)).1
    have h2 := hL.two_le rfl
    have hS1 : Sound (th ++ [pairX th x y]) := sound_append hS (by omega) (okT_pair ⟨hx, hy⟩ (by simp only [pairX]; omega))
    have hL1 := hL.pair
    rw [show pre ++ (th.length : Int) :: rest = (pre ++ [(th.length : Int)]) ++ rest by simp] at hL1
    obtain ⟨a1, a2, ⟨t, a3⟩, a4, a5⟩ := pairUp_inv hSc hBc n (th ++ [pairX th x y]) rest _ (by omega) hL1 hS1 (by simp; omega)
    have e1 : (pairUp th (x :: y :: rest)).1 = (pairUp (th ++ [pairX th x y]) rest).1 := by rw [pairUp]
    have e2 : (pairUp th (x :: y :: rest)).2 = (th.length : Int) :: (pairUp (th ++ [pairX th x y]) rest).2 := by rw [pairUp]
    rw [e1, e2]
    have hT : has (th ++ [pairX th x y]) (th.length : Int) := by unfold has; simp; omega
    refine ⟨by simpa using a1, a2, ⟨pairX th x y :: t, by rw [a3]; simp⟩, ?_, fun a ha => ?_⟩
    · simp only [List.length_cons, List.length_append, List.length_nil] at a4 ⊢; omega
    · simp only [List.mem_cons] at ha
      rcases ha with rfl | rfl | ha
      · refine ⟨_, List.mem_cons_self .., ?_⟩
        rw [a3]; exact (Down.step hT (has_append hx) (.inl (by rw [el_last]; rfl)) (.refl (has_append hx))).append
      · refine ⟨_, List.mem_cons_self .., ?_⟩
        rw [a3]; exact (Down.step hT (has_append hy) (.inr (by rw [el_last]; rfl)) (.refl (has_append hy))).append
      · obtain ⟨r, hr, hd⟩ := a5 a ha
        exact ⟨r, List.mem_cons_of_mem _ hr, hd⟩
theorem up_inv {S B : Int} (hSc : S ≤ 1125899906842624) (hBc : B ≤ 1125899906842624) : ∀ (n : Nat) (th : List DThing) (l : List Int), 1 ≤ l.length → l.length ≤ n + 1 → Lev th l S B → Sound th → th.length + l.length ≤ 2001 →
    ∃ r, (up n th l).2 = [r] ∧ Lev (up n th l).1 [r] S B ∧ Sound (up n th l).1 ∧ (∃ t, (up n th l).1 = th ++ t) ∧ (up n th l).1.length + 1 = th.length + l.length ∧ ∀ a ∈ l, Down (up n th l).1 r a := by
  have one : ∀ (th : List DThing) (l : List Int), l.length = 1 → Lev th l S B → Sound th → ∃ r, l = [r] ∧ Lev th [r] S B ∧ Sound th ∧ (∃ t, th = th ++ t) ∧ th.length + 1 = th.length + l.length ∧ ∀ a ∈ l, Down th r a := by
    intro th l hl hL hS
    obtain ⟨r, rfl⟩ := List.length_eq_one_iff.1 hl
    refine ⟨r, rfl, hL, hS, ⟨[], by simp⟩, rfl, fun a ha => ?_⟩
    have : a = r := by simpa using ha
    subst this
    exact .refl (hL.has a (by simp)).1
  intro n
  induction n with
  | zero => intro th l h1 h2 hL hS _; exact one th l (by omega) hL hS
  | succ n ih =>
    intro th l h1 h2 hL hS hlen
    rw [up]
    split
    · rename_i hlt
      obtain ⟨a1, a2, ⟨t, a3⟩, a4, a5⟩ := pairUp_inv hSc hBc _ th l [] (Nat.le_refl _) hL hS hlen
      have hpl := pairUp_length th l
      obtain ⟨r, b1, b2, b3, ⟨t', b4⟩, b5, b6⟩ := ih (pairUp th l).1 (pairUp th l).2 (by omega) (by omega) a1 a2 (by omega)
      refine ⟨r, b1, b2, b3, ⟨t ++ t', by rw [b4, a3]; simp⟩, by omega, fun a ha => ?_⟩
      obtain ⟨c, hc, hd⟩ := a5 a ha
      refine (b6 c hc).trans ?_
      rw [b4]; exact hd.append
    · exact one th l (by omega) hL hS
theorem sound_leaves {v : List DThing} {texts : List ByteArray} {values blinds : List Int} (h : argsOK v texts values blinds) (hl : v.length + texts.length ≤ 2000) : ∀ n, n ≤ texts.length → Sound (v ++ leavesN texts values blinds n)
  | 0, _ => by simpa [leavesN] using h.1
  | n + 1, hn => by
    have ih := sound_leaves h hl n (by omega)
    have : v ++ leavesN texts values blinds (n + 1) = (v ++ leavesN texts values blinds n) ++ [leafAt texts values blinds n] := by simp [leavesN, List.range_succ]
    rw [this]
    exact sound_append ih (by simp [leavesN]; omega) (okT_leaf (h.2.2.2.2 n (by omega)))
/-- what Build has built -/
theorem built_is {v : List DThing} {texts : List ByteArray} {values blinds : List Int} (he : buildE v texts values blinds = 0) :
    argsOK v texts values blinds ∧ texts.length ≤ 64 ∧ Sound (buildT v texts values blinds) ∧ (buildT v texts values blinds).length + 1 = v.length + 2 * texts.length ∧ (buildT v texts values blinds).take v.length = v ∧
    has (buildT v texts values blinds) (buildR v texts values blinds) ∧ (el (buildT v texts values blinds) (buildR v texts values blinds)).Value = totV values texts.length ∧ (el (buildT v texts values blinds) (buildR v texts values blinds)).Blind = totV blinds texts.length ∧
    buildL v texts values blinds = idsN v.length texts.length ∧
    ∀ i, i < texts.length → Down (buildT v texts values blinds) (buildR v texts values blinds) ((v.length + i : Nat) : Int) ∧ el (buildT v texts values blinds) ((v.length + i : Nat) : Int) = leafAt texts values blinds i := by
  have hOK : argsOK v texts values blinds := by
    refine Decidable.by_contra fun h => ?_
    rw [(build_arg h).1] at he; omega
  have hlim : ¬ (64 < texts.length ∨ 2000 < (v.length : Int) + 2 * texts.length - 1) := fun h => by
    unfold buildE at he; rw [if_neg (fun h => h hOK), if_pos h] at he; omega
  have eT : buildT v texts values blinds = (built v texts values blinds).1 := by unfold buildT; rw [if_pos he]
  have eR : buildR v texts values blinds = (built v texts values blinds).2.getD 0 default := by unfold buildR; rw [if_pos he]
  have eL : buildL v texts values blinds = idsN v.length texts.length := by unfold buildL; rw [if_pos he]
  have hTB := tot_bound hOK
  have hn := hOK.2.1
  have hll : (leavesN texts values blinds texts.length).length = texts.length := by simp [leavesN]
  have hil : (idsN v.length texts.length).length = texts.length := by simp [idsN]
  obtain ⟨r, b1, b2, b3, ⟨t, b4⟩, b5, b6⟩ := up_inv (S := totV values texts.length) (B := totV blinds texts.length) (by omega) (by omega) texts.length (v ++ leavesN texts values blinds texts.length) (idsN v.length texts.length) (by omega) (by omega) (lev_start hOK) (sound_leaves hOK (by omega) _ (Nat.le_refl _)) (by rw [List.length_append]; omega)
  have eR2 : buildR v texts values blinds = r := by rw [eR]; unfold built; rw [b1]; rfl
  have eT2 : buildT v texts values blinds = (v ++ leavesN texts values blinds texts.length) ++ t := by rw [eT]; exact b4
  have eT3 : (up texts.length (v ++ leavesN texts values blinds texts.length) (idsN v.length texts.length)).1 = buildT v texts values blinds := by rw [eT]; rfl
  rw [eT3] at b2 b3 b5 b6
  refine ⟨hOK, by omega, b3, ?_, ?_, ?_, ?_, ?_, eL, fun i hi => ⟨?_, ?_⟩⟩
  · rw [List.length_append] at b5; omega
  · rw [eT2, List.append_assoc, List.take_left']; rfl
  · rw [eR2]; exact (b2.has r (by simp)).1
  · rw [eR2]; have := b2.v; simpa [sumV] using this
  · rw [eR2]; have := b2.b; simpa [sumB] using this
  · rw [eR2]; exact b6 _ (by simp [idsN]; exact ⟨i, hi, rfl⟩)
  · rw [eT2, el_append_more (by unfold has; rw [List.length_append]; omega)]
    exact el_leaf hi
/-- Check on the path to a leaf -/
theorem whole_check {v : List DThing} {texts : List ByteArray} {values blinds : List Int} (he : buildE v texts values blinds = 0) {i : Nat} (hi : i < texts.length) {p : List Int} (hp : p = pathF (buildT v texts values blinds) (buildR v texts values blinds) ((v.length + i : Nat) : Int)) {total blind value own : Int} {text : ByteArray} :
    checkP (buildT v texts values blinds) p total blind text value own ↔ total = totV values texts.length ∧ blind = totV blinds texts.length ∧ text = texts.getD i default ∧ value = values.getD i default ∧ own = blinds.getD i default := by
  obtain ⟨hOK, _, hS, hl, _, hr, h1, h2, _, hd⟩ := built_is he
  obtain ⟨d1, d2⟩ := hd i hi
  have hn := near_of hS d1
  have hlen : p.length ≠ 0 := by
    rw [hp, pathF_yes hS hr d1.has2 hn]
    have := (rest_len (buildT v texts values blinds) ((v.length + i : Nat) : Int) (buildR v texts values blinds).toNat (buildR v texts values blinds)).1
    unfold rest; omega
  obtain ⟨hW, e0, e1, _⟩ := path_is hp hlen
  unfold checkP opensP
  rw [e0, e1, h1, h2, d2]
  refine ⟨fun ⟨_, a, b, _, _, _, c, d, e⟩ => ⟨a.symm, b.symm, c.symm, d.symm, e.symm⟩, fun ⟨a, b, c, d, e⟩ => ⟨hW, a.symm, b.symm, rfl, hS, d1.has2, c.symm, d.symm, e.symm⟩⟩
theorem build_no {v : List DThing} {texts : List ByteArray} {values blinds : List Int} (he : ¬ buildE v texts values blinds = 0) : buildT v texts values blinds = [] ∧ buildR v texts values blinds = -1 ∧ buildL v texts values blinds = [] := by
  unfold buildT buildR buildL; rw [if_neg he, if_neg he, if_neg he]; exact ⟨rfl, rfl, rfl⟩
theorem totV_succ (values : List Int) (n : Nat) : totV values (n + 1) = totV values n + values.getD n default := by
  unfold totV; rw [List.range_succ, List.map_append, List.sum_append]; simp
theorem tot_step {values : List Int} {n : Nat} (hn : n ≤ 64) (h : ∀ i, i < n → 0 ≤ values.getD i default ∧ values.getD i default ≤ 1099511627776) {i s x : Int} (h0 : 0 ≤ i) (hi : i < n) (hs : s = totV values i.toNat) (hx : x = values.getD i.toNat default) :
    0 ≤ s ∧ s ≤ 70368744177664 ∧ 0 ≤ x ∧ x ≤ 1099511627776 ∧ s + x = totV values (i + 1).toNat := by
  have h1 := sum_bound (f := fun i => values.getD i default) (c := 1099511627776) i.toNat fun j hj => h j (by omega)
  have h2 := h i.toNat (by omega)
  rw [← hx] at h2
  have h3 : s = ((List.range i.toNat).map fun i => values.getD i default).sum := hs
  rw [← h3] at h1
  refine ⟨h1.1, by omega, h2.1, h2.2, ?_⟩
  rw [show (i + 1).toNat = i.toNat + 1 by omega, totV_succ, ← hs, ← hx]
theorem leaf_vals {v : List DThing} {texts : List ByteArray} {values blinds : List Int} (h : argsOK v texts values blinds) : (∀ i, i < texts.length → 0 ≤ values.getD i default ∧ values.getD i default ≤ 1099511627776) ∧ ∀ i, i < texts.length → 0 ≤ blinds.getD i default ∧ blinds.getD i default ≤ 1099511627776 := by
  constructor <;> intro i hi <;> have := h.2.2.2.2 i hi <;> unfold isLeaf leafAt leafT at this <;> simp only at this <;> omega
theorem ids_get {l : List Int} {a n : Nat} {i x : Int} (hl : l = idsN a n) (h0 : 0 ≤ i) (hi : i < n) (hx : x = l.getD i.toNat default) : x = ((a + i.toNat : Nat) : Int) := by
  subst hl hx
  have : i.toNat < n := by omega
  simp [idsN, this]
end Tm
end Kb
