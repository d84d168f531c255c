/- What the programs of layer 49 compute, said of lists. No program in sight. -/
import Derived.Test.YtaolgnmpgnamnaaTn
import Derived.Test.YtaolgnmpgnamnaaHj
set_option linter.unusedSimpArgs false
set_option linter.unusedVariables false
namespace Kb
open Go
namespace Rv
open Tm
/-! ### lists -/
def idx (v : Int) : List Int → Int
  | [] => -1
  | x :: l => if x = v then 0 else if idx v l < 0 then -1 else idx v l + 1
theorem idx_no {v : Int} : ∀ {l : List Int}, (∀ i, i < l.length → l.getD i default ≠ v) → idx v l = -1
  | [], _ => rfl
  | x :: l, h => by
    unfold idx
    have ih := idx_no (v := v) (l := l) fun i hi => by have := h (i + 1) (by simp; omega); simpa using this
    have h0 : ¬ x = v := by have := h 0 (by simp); simpa using this
    rw [if_neg h0, ih]; rfl
theorem idx_at {v : Int} : ∀ {l : List Int} {k : Nat}, k < l.length → (∀ i, i < k → l.getD i default ≠ v) → l.getD k default = v → idx v l = k
  | x :: l, 0, _, _, e => by unfold idx; rw [if_pos (by simpa using e)]; rfl
  | x :: l, k + 1, hk, h, e => by
    unfold idx
    have ih := idx_at (l := l) (k := k) (by simpa using hk) (fun i hi => by have := h (i + 1) (by omega); simpa using this) (by simpa using e)
    rw [if_neg (by have := h 0 (by omega); simpa using this), ih, if_neg (by omega)]; omega
theorem idx_mem {v : Int} : ∀ {l : List Int}, 0 ≤ idx v l ↔ v ∈ l
  | [] => by unfold idx; simp
  | x :: l => by
    have ih := idx_mem (v := v) (l := l)
    unfold idx
    by_cases e : x = v
    · rw [if_pos e]; simp [e]
    · rw [if_neg e, List.mem_cons]
      by_cases h : idx v l < 0
      · rw [if_pos h]
        constructor
        · intro h; omega
        · rintro (h2 | h2)
          · exact absurd h2.symm e
          · have := ih.2 h2; omega
      · rw [if_neg h]
        constructor
        · intro _; exact .inr (ih.1 (by omega))
        · intro _; omega
theorem eq_of_getD {α : Type} [Inhabited α] {l m : List α} (hl : l.length = m.length) (h : ∀ i, i < l.length → l.getD i default = m.getD i default) : l = m := by
  refine List.ext_getElem hl fun i h1 h2 => ?_
  have := h i h1
  simpa [List.getD_eq_getElem?_getD, h1, h2] using this
def ls {α : Type} (l : List (Fat α)) : List (List α) := l.map (·.l)
/-! ### a disclosure's form -/
def hid (x : DThing) : Prop := x.Value = -1 ∧ x.Blind = -1
instance (x : DThing) : Decidable (hid x) := by unfold hid; infer_instance
instance (x : DThing) : Decidable (Bd x) := by unfold Bd; infer_instance
def te (s : List DThing) (i : Nat) : DThing := s.getD i default
def mid (p : List Int) (s : List DThing) (i : Nat) : Prop := (te s i).Text = ByteArray.empty ∧ ((te s i).Left = pe p (i + 1) ∨ (te s i).Right = pe p (i + 1)) ∧ (0 < i → hid (te s i))
instance (p : List Int) (s : List DThing) (i : Nat) : Decidable (mid p s i) := by unfold mid; infer_instance
def lst (s : List DThing) : DThing := te s (s.length - 1)
def endT (x : DThing) : Prop := Bd x ∧ x.Left = -1 ∧ x.Right = -1 ∧ x.Text.size ≤ 8000
instance (x : DThing) : Decidable (endT x) := by unfold endT; infer_instance
def walk (p : List Int) (s : List DThing) : Prop := p.length ≠ 0 ∧ s.length = p.length ∧ (∀ i, i < p.length - 1 → mid p s i) ∧ Bd (te s 0) ∧ endT (te s (p.length - 1))
instance (p : List Int) (s : List DThing) : Decidable (walk p s) := by unfold walk; infer_instance
def pl (P : List (List Int)) (i : Nat) : List Int := P.getD i []
def sl (S : List (List DThing)) (i : Nat) : List DThing := S.getD i []
def row (P : List (List Int)) (S : List (List DThing)) (i : Nat) : Prop := walk (pl P i) (sl S i) ∧ pe (pl P i) 0 = pe (pl P 0) 0 ∧ (te (sl S i) 0).Value = (te (sl S 0) 0).Value ∧ (te (sl S i) 0).Blind = (te (sl S 0) 0).Blind
instance (P : List (List Int)) (S : List (List DThing)) (i : Nat) : Decidable (row P S i) := by unfold row; infer_instance
def Form (P : List (List Int)) (S : List (List DThing)) : Prop := P.length ≠ 0 ∧ P.length ≤ 64 ∧ S.length = P.length ∧ (∀ i, i < P.length → row P S i) ∧ (P.map lastI).Nodup
instance (P : List (List Int)) (S : List (List DThing)) : Decidable (Form P S) := by unfold Form; infer_instance
theorem mid_iff {p : List Int} {s l : List DThing} {n k v : Int} {x : DThing} (h0 : 0 ≤ k) (hk : k < l.length) (hl : l = s.take n.toNat) (hx : x = l.getD k.toNat default) (hv : v = p.getD (k + 1).toNat default) :
    mid p s k.toNat ↔ (x.Text = ByteArray.empty ∧ (x.Left = v ∨ x.Right = v)) ∧ (¬ 0 < k ∨ x.Value = -1 ∧ x.Blind = -1) := by
  have e1 : te s k.toNat = x := by
    rw [hx, hl]
    unfold te
    have hk' : k.toNat < n.toNat := by rw [hl] at hk; simp at hk; omega
    simp [List.getD_eq_getElem?_getD, List.getElem?_take, hk']
  have e2 : pe p (k.toNat + 1) = v := by rw [hv]; unfold pe; rw [show (k + 1).toNat = k.toNat + 1 by omega]; rfl
  unfold mid hid
  rw [e1, e2]
  constructor
  · rintro ⟨a, b, c⟩
    refine ⟨⟨a, b⟩, ?_⟩
    by_cases h : 0 < k
    · exact .inr (c (by omega))
    · exact .inl h
  · rintro ⟨⟨a, b⟩, c⟩
    refine ⟨a, b, fun h => ?_⟩
    rcases c with c | c
    · omega
    · exact c
theorem mid_step {p : List Int} {s l : List DThing} {n k v : Int} {x : DThing} (h : ∀ i, i < k.toNat → mid p s i) (h0 : 0 ≤ k) (hk : k < l.length) (hl : l = s.take n.toNat) (hx : x = l.getD k.toNat default) (hv : v = p.getD (k + 1).toNat default)
    (hq : (x.Text = ByteArray.empty ∧ (x.Left = v ∨ x.Right = v)) ∧ (¬ 0 < k ∨ x.Value = -1 ∧ x.Blind = -1)) : ∀ i, i < (k + 1).toNat → mid p s i := fun i hi => by
  by_cases e : i < k.toNat
  · exact h i e
  · rw [show i = k.toNat by omega]; exact (mid_iff h0 hk hl hx hv).2 hq
theorem walk_no {p : List Int} {s l : List DThing} {n k v : Int} {x : DThing} (h0 : 0 ≤ k) (hk : k < l.length) (hl : l = s.take n.toNat) (hn : n = p.length - 1) (hx : x = l.getD k.toNat default) (hv : v = p.getD (k + 1).toNat default)
    (hq : (¬ x.Text = ByteArray.empty ∨ ¬ x.Left = v ∧ ¬ x.Right = v) ∨ 0 < k ∧ ¬ (x.Value = -1 ∧ x.Blind = -1)) : ¬ walk p s := by
  rintro ⟨_, _, h, _⟩
  obtain ⟨⟨a, b⟩, c⟩ := (mid_iff h0 hk hl hx hv).1 (h _ (by rw [hl] at hk; simp at hk; omega))
  rcases hq with (h | h) | h
  · exact h a
  · rcases b with b | b
    · exact h.1 b
    · exact h.2 b
  · rcases c with c | c
    · exact c h.1
    · exact h.2 c
theorem walk_fin {p : List Int} {s : List DThing} {n : Int} {x y : DThing} (h1 : p.length ≠ 0) (h2 : s.length = p.length) (h3 : ∀ i, i < p.length - 1 → mid p s i) (hn : n = p.length - 1) (hx : x = s.getD n.toNat default) (hy : y = s.getD (0 : Int).toNat default) :
    walk p s ↔ (((Bd y ∧ Bd x) ∧ x.Left = -1) ∧ x.Right = -1) ∧ (x.Text.size : Int) ≤ 8000 := by
  have e1 : te s (p.length - 1) = x := by rw [hx, show n.toNat = p.length - 1 by omega]; rfl
  have e2 : te s 0 = y := by rw [hy]; rfl
  unfold walk endT
  rw [e1, e2]
  constructor
  · rintro ⟨_, _, _, a, b, c, d, e⟩; exact ⟨⟨⟨⟨a, b⟩, c⟩, d⟩, by omega⟩
  · rintro ⟨⟨⟨⟨a, b⟩, c⟩, d⟩, e⟩; exact ⟨h1, h2, h3, a, b, c, d, by omega⟩
/-! ### the map of ends -/
theorem snoc_ind {α : Type} {motive : List α → Prop} (h0 : motive []) (h1 : ∀ l a, motive l → motive (l ++ [a])) (l : List α) : motive l := by
  have : ∀ m : List α, motive m.reverse := fun m => by
    induction m with
    | nil => exact h0
    | cons a m ih => rw [List.reverse_cons]; exact h1 _ _ ih
  have h := this l.reverse
  rwa [List.reverse_reverse] at h
def endm : List (List Int) → List (Int × Bool) := List.foldl (fun m p => mupd (lastI p) true m) []
theorem endm_snoc (P : List (List Int)) (p : List Int) : endm (P ++ [p]) = mupd (lastI p) true (endm P) := by
  unfold endm; rw [List.foldl_append]; rfl
theorem endm_look (k : Int) : ∀ (P : List (List Int)), (mlook k (endm P)).isSome = decide (k ∈ P.map lastI) := by
  refine snoc_ind rfl fun P p ih => ?_
  · rw [endm_snoc, mlook_upd]
    by_cases e : k = lastI p
    · rw [if_pos e]; simp [e]
    · rw [if_neg e, ih]; simp [e]
theorem endm_len (P : List (List Int)) : (endm P).length ≤ P.length ∧ ((endm P).length = P.length ↔ (P.map lastI).Nodup) := by
  refine snoc_ind (motive := fun P => (endm P).length ≤ P.length ∧ ((endm P).length = P.length ↔ (P.map lastI).Nodup)) ⟨Nat.le_refl _, by simp [endm]⟩ (fun P p ih => ?_) P
  · obtain ⟨h1, h2⟩ := ih
    rw [endm_snoc, mupd_len, endm_look]
    simp only [List.length_append, List.length_singleton, List.map_append, List.map_cons, List.map_nil, List.nodup_append]
    by_cases e : lastI p ∈ P.map lastI
    · simp only [e, decide_true, if_true]
      refine ⟨by omega, ?_, ?_⟩
      · intro h; omega
      · rintro ⟨_, _, h⟩; exact absurd rfl (h _ e _ (by simp))
    · simp only [e, decide_false, Bool.false_eq_true, if_false]
      refine ⟨by omega, ?_, ?_⟩
      · intro h
        refine ⟨h2.1 (by omega), by simp, ?_⟩
        intro a ha b hb hab
        have : b = lastI p := by simpa using hb
        subst this; subst hab; exact e ha
      · rintro ⟨h, _, _⟩; have := h2.2 h; omega
/-! ### rounds of form -/
theorem pl_ls {l : List (Fat Int)} {k : Int} {x : Fat Int} (h : x = l.getD k.toNat default) : pl (ls l) k.toNat = x.l := by
  rw [h]; exact getD_l l k.toNat
theorem sl_ls {l : List (Fat DThing)} {k : Int} {x : Fat DThing} (h : x = l.getD k.toNat default) : sl (ls l) k.toNat = x.l := by
  rw [h]; exact getD_l l k.toNat
theorem pl_ls' {l : List (Fat Int)} (i : Nat) : pl (ls l) i = (l.getD i default).l := getD_l l i
theorem sl_ls' {l : List (Fat DThing)} (i : Nat) : sl (ls l) i = (l.getD i default).l := getD_l l i
@[simp] theorem ls_length {α : Type} (l : List (Fat α)) : (ls l).length = l.length := by simp [ls]
theorem row_iff {p : List (Fat Int)} {q : List (Fat DThing)} {k : Int} {x1 x3 : Fat Int} {x2 x4 : Fat DThing} {v1 v2 : Int} {x5 x6 : DThing} (h1 : x1 = p.getD k.toNat default) (h2 : x2 = q.getD k.toNat default) (h3 : v1 = x1.l.getD (0 : Int).toNat default) (h4 : x3 = p.getD (0 : Int).toNat default)
    (h5 : v2 = x3.l.getD (0 : Int).toNat default) (h6 : x4 = q.getD (0 : Int).toNat default) (h7 : x5 = x4.l.getD (0 : Int).toNat default) (h8 : x6 = x2.l.getD (0 : Int).toNat default) :
    row (ls p) (ls q) k.toNat ↔ (walk x1.l x2.l ∧ v1 = v2) ∧ x5.Value = x6.Value ∧ x5.Blind = x6.Blind := by
  unfold row
  have e0 := pl_ls h4
  have e1 := sl_ls h6
  rw [show (0 : Int).toNat = 0 from rfl] at e0 e1 h3 h5 h7 h8
  rw [pl_ls h1, sl_ls h2, e0, e1]
  unfold pe te
  rw [h3, h5, h7, h8]
  constructor
  · rintro ⟨a, b, c, d⟩; exact ⟨⟨a, b⟩, c.symm, d.symm⟩
  · rintro ⟨⟨a, b⟩, c, d⟩; exact ⟨a, b, c.symm, d.symm⟩
theorem head_ne {p : List (Fat Int)} {q : List (Fat DThing)} {k : Int} {x1 x3 : Fat Int} {x2 : Fat DThing} (hk : 0 ≤ k) (hr : ∀ i, i < k.toNat → row (ls p) (ls q) i) (h1 : x1 = p.getD k.toNat default) (h2 : x2 = q.getD k.toNat default) (hw : walk x1.l x2.l) (h4 : x3 = p.getD (0 : Int).toNat default) : x3.l.length ≠ 0 := by
  by_cases e : k = 0
  · subst e; rw [h4, ← h1]; exact hw.1
  · have := (hr 0 (by omega)).1.1
    rw [pl_ls'] at this
    rw [h4]; exact this
theorem head_ne2 {p : List (Fat Int)} {q : List (Fat DThing)} {k : Int} {x1 : Fat Int} {x2 x4 : Fat DThing} (hk : 0 ≤ k) (hr : ∀ i, i < k.toNat → row (ls p) (ls q) i) (h1 : x1 = p.getD k.toNat default) (h2 : x2 = q.getD k.toNat default) (hw : walk x1.l x2.l) (h4 : x4 = q.getD (0 : Int).toNat default) : x4.l.length ≠ 0 := by
  by_cases e : k = 0
  · subst e; rw [h4, ← h2, hw.2.1]; exact hw.1
  · have h := (hr 0 (by omega)).1
    have h1 := h.1
    have h2 := h.2.1
    rw [pl_ls'] at h1 h2; rw [sl_ls'] at h2
    rw [h4]; show (q.getD 0 default).l.length ≠ 0
    omega
theorem form_no {P : List (List Int)} {S : List (List DThing)} {k : Nat} (hk : k < P.length) (h : ¬ row P S k) : ¬ Form P S := fun f => h (f.2.2.2.1 k hk)
theorem row_step {P : List (List Int)} {S : List (List DThing)} {k : Int} (h0 : 0 ≤ k) (h : ∀ i, i < k.toNat → row P S i) (hr : row P S k.toNat) : ∀ i, i < (k + 1).toNat → row P S i := fun i hi => by
  by_cases e : i < k.toNat
  · exact h i e
  · rw [show i = k.toNat by omega]; exact hr
theorem endm_step {p : List (Fat Int)} {k n v : Int} {x : Fat Int} {m m2 : List (Int × Bool)} (h0 : 0 ≤ k) (hk : k < p.length) (h : m = endm ((ls p).take k.toNat)) (hx : x = p.getD k.toNat default) (hn : n = x.l.length - 1) (hl : x.l.length ≠ 0) (hv : v = x.l.getD n.toNat default) (hm : m2 = mupd v true m) : m2 = endm ((ls p).take (k + 1).toNat) := by
  have e : (ls p).take (k + 1).toNat = (ls p).take k.toNat ++ [x.l] := by
    rw [show (k + 1).toNat = k.toNat + 1 by omega]
    have hk' : k.toNat < (ls p).length := by simp; omega
    rw [List.take_add_one, List.getElem?_eq_getElem hk']
    congr 1
    show [(ls p)[k.toNat]] = [x.l]
    congr 1
    rw [← pl_ls hx]; unfold pl; rw [List.getD_eq_getElem?_getD, List.getElem?_eq_getElem hk']; rfl
  rw [e, endm_snoc, hm, h]
  congr 1
  rw [hv]; unfold lastI pe
  rw [show n.toNat = x.l.length - 1 by omega]; rfl
theorem form_fin {p : List (Fat Int)} {q : List (Fat DThing)} {k : Int} {m : List (Int × Bool)} (h1 : p.length ≠ 0) (h2 : p.length ≤ 64) (h3 : q.length = p.length) (hr : ∀ i, i < k.toNat → row (ls p) (ls q) i) (hk : k.toNat = p.length) (hm : m = endm ((ls p).take k.toNat)) : (m.length : Int) = p.length ↔ Form (ls p) (ls q) := by
  have e : (ls p).take k.toNat = ls p := List.take_of_length_le (by simp; omega)
  rw [e] at hm
  have hh := (endm_len (ls p)).2
  rw [ls_length] at hh
  unfold Form
  rw [hm, ls_length, ls_length]
  constructor
  · intro h; exact ⟨h1, h2, h3, fun i hi => hr i (by omega), hh.1 (by omega)⟩
  · rintro ⟨_, _, _, _, h⟩; have := hh.2 h; omega
/-! ### Check, Rest -/
def CheckP (v : List DThing) (P : List (List Int)) (S : List (List DThing)) : Prop := Form P S ∧ ∀ i, i < P.length → viewF v (pl P i) = sl S i
instance (v : List DThing) (P : List (List Int)) (S : List (List DThing)) : Decidable (CheckP v P S) := by unfold CheckP; infer_instance
def opn (S : List (List DThing)) (k : Nat) : Int := ((S.take k).map fun s => (lst s).Value).sum
def restT (S : List (List DThing)) : Int := (te (sl S 0) 0).Value - opn S S.length
def restB (P : List (List Int)) (S : List (List DThing)) : Prop := Form P S ∧ 0 ≤ restT S
instance (P : List (List Int)) (S : List (List DThing)) : Decidable (restB P S) := by unfold restB; infer_instance
def restV (P : List (List Int)) (S : List (List DThing)) : Int := if restB P S then restT S else 0
theorem form_lst {P : List (List Int)} {S : List (List DThing)} (f : Form P S) {i : Nat} (hi : i < S.length) : (sl S i).length ≠ 0 ∧ Bd (lst (sl S i)) ∧ Bd (te (sl S i) 0) := by
  have h := (f.2.2.2.1 i (by have := f.2.2.1; omega)).1
  refine ⟨by rw [h.2.1]; exact h.1, ?_, h.2.2.2.1⟩
  have := h.2.2.2.2.1
  unfold lst; rw [h.2.1]; exact this
theorem opn_step {q : List (Fat DThing)} {k n : Int} {x : Fat DThing} {y : DThing} (h0 : 0 ≤ k) (hk : k < q.length) (hx : x = q.getD k.toNat default) (hn : n = x.l.length - 1) (hy : y = x.l.getD n.toNat default) : opn (ls q) (k + 1).toNat = opn (ls q) k.toNat + y.Value := by
  unfold opn
  rw [show (k + 1).toNat = k.toNat + 1 by omega]
  have hk' : k.toNat < (ls q).length := by simp; omega
  rw [List.take_add_one, List.getElem?_eq_getElem hk', List.map_append, List.sum_append]
  have e : (ls q)[k.toNat] = x.l := by rw [← sl_ls hx]; unfold sl; rw [List.getD_eq_getElem?_getD, List.getElem?_eq_getElem hk']; rfl
  have e2 : lst x.l = y := by rw [hy]; unfold lst te; rw [show n.toNat = x.l.length - 1 by omega]
  rw [e]
  simp [e2]
theorem last_bd {P : List (List Int)} {q : List (Fat DThing)} (f : Form P (ls q)) {k n : Int} {x : Fat DThing} {y : DThing} (h0 : 0 ≤ k) (hk : k < q.length) (hx : x = q.getD k.toNat default) (hn : n = x.l.length - 1) (hy : y = x.l.getD n.toNat default) : Bd y := by
  have h := (form_lst f (i := k.toNat) (by simp; omega)).2.1
  rw [sl_ls hx] at h
  have e2 : lst x.l = y := by rw [hy]; unfold lst te; rw [show n.toNat = x.l.length - 1 by omega]
  rwa [e2] at h
theorem len_ne {P : List (List Int)} {q : List (Fat DThing)} (f : Form P (ls q)) {k : Int} {x : Fat DThing} (h0 : 0 ≤ k) (hk : k < q.length) (hx : x = q.getD k.toNat default) : x.l.length ≠ 0 := by
  have h := (form_lst f (i := k.toNat) (by simp; omega)).1
  rwa [sl_ls hx] at h
theorem form_q {P : List (List Int)} {q : List (Fat DThing)} (f : Form P (ls q)) : 0 < q.length ∧ q.length ≤ 64 := by
  have a := f.1; have b := f.2.1; have c := f.2.2.1
  rw [ls_length] at c; omega
theorem rest_eq {q : List (Fat DThing)} {k r : Int} {x : Fat DThing} {y : DThing} (hx : x = q.getD (0 : Int).toNat default) (hy : y = x.l.getD (0 : Int).toNat default) (hr : r = y.Value - opn (ls q) k.toNat) (hk : k.toNat = q.length) : r = restT (ls q) := by
  have e := sl_ls hx
  rw [show (0 : Int).toNat = 0 from rfl] at e hy
  unfold restT
  rw [e, hr, hk, ls_length, hy]; rfl
theorem restV_no {P : List (List Int)} {S : List (List DThing)} (h : ¬ restB P S) : restV P S = 0 := by unfold restV; rw [if_neg h]
theorem restV_yes {P : List (List Int)} {S : List (List DThing)} (h : restB P S) : restV P S = restT S := by unfold restV; rw [if_pos h]
theorem check_step {v : List DThing} {p : List (Fat Int)} {q : List (Fat DThing)} {k : Int} {x : Fat Int} {y : Fat DThing} (h0 : 0 ≤ k) (h : ∀ i, i < k.toNat → viewF v (pl (ls p) i) = sl (ls q) i) (hx : x = p.getD k.toNat default) (hy : y = q.getD k.toNat default) (e : viewF v x.l = y.l) : ∀ i, i < (k + 1).toNat → viewF v (pl (ls p) i) = sl (ls q) i := fun i hi => by
  by_cases e2 : i < k.toNat
  · exact h i e2
  · rw [show i = k.toNat by omega, pl_ls hx, sl_ls hy]; exact e
/-! ### what is known of things -/
abbrev TM := List (Int × DThing)
def hx (x : DThing) : DThing := { Left := x.Left, Right := x.Right }
def okM (m : TM) (k : Int) (y : DThing) : Prop := (mlook k m).isSome = true → (mlook k m).getD default = y
instance (m : TM) (k : Int) (y : DThing) : Decidable (okM m k y) := by unfold okM; infer_instance
def putH (h : TM) (k : Int) (x : DThing) : TM := if okM h k (hx x) then mupd k (hx x) h else h
def putB (h o : TM) (k : Int) (x : DThing) : Prop := okM h k (hx x) ∧ (x.Value = -1 ∨ okM o k x)
instance (h o : TM) (k : Int) (x : DThing) : Decidable (putB h o k x) := by unfold putB; infer_instance
def putO (h o : TM) (k : Int) (x : DThing) : TM := if putB h o k x ∧ x.Value ≠ -1 then mupd k x o else o
theorem put_1 {h o : TM} {k : Int} {x y : DThing} {b : Bool} (hy : y = (mlook k h).getD default) (hb : b = (mlook k h).isSome) (hq : b = true ∧ ¬ (y.Text = ByteArray.empty ∧ y.Value = 0 ∧ y.Blind = 0 ∧ y.Left = x.Left ∧ y.Right = x.Right)) : ¬ putB h o k x ∧ putH h k x = h ∧ putO h o k x = o := by
  have hn : ¬ okM h k (hx x) := fun hok => hq.2 (by
    have := hok (by rw [← hb]; exact hq.1)
    rw [← hy] at this; subst this; exact ⟨rfl, rfl, rfl, rfl, rfl⟩)
  have hB : ¬ putB h o k x := fun hh => hn hh.1
  exact ⟨hB, by unfold putH; rw [if_neg hn], by unfold putO; rw [if_neg fun hh => hB hh.1]⟩
theorem okM_of {m : TM} {k : Int} {x y : DThing} {b : Bool} (hy : y = (mlook k m).getD default) (hb : b = (mlook k m).isSome) (hq : b = false ∨ (y.Text = x.Text ∧ y.Value = x.Value ∧ y.Blind = x.Blind ∧ y.Left = x.Left ∧ y.Right = x.Right)) : okM m k x := fun hs => by
  rcases hq with hq | hq
  · rw [← hb, hq] at hs; cases hs
  · rw [← hy]; exact (thing_ext _ _).2 hq
theorem put_2 {h o : TM} {k : Int} {x y : DThing} {b : Bool} (hy : y = (mlook k h).getD default) (hb : b = (mlook k h).isSome) (hq : b = false ∨ (y.Text = ByteArray.empty ∧ y.Value = 0 ∧ y.Blind = 0 ∧ y.Left = x.Left ∧ y.Right = x.Right)) : okM h k (hx x) ∧ putH h k x = mupd k (hx x) h := by
  have hok : okM h k (hx x) := okM_of hy hb hq
  exact ⟨hok, by unfold putH; rw [if_pos hok]⟩
theorem put_3 {h o : TM} {k : Int} {x : DThing} (hok : okM h k (hx x)) (hv : x.Value = -1) : putB h o k x ∧ putO h o k x = o :=
  ⟨⟨hok, .inl hv⟩, by unfold putO; rw [if_neg fun hh => hh.2 hv]⟩
theorem put_4 {h o : TM} {k : Int} {x y : DThing} {b : Bool} (hok : okM h k (hx x)) (hv : ¬ x.Value = -1) (hy : y = (mlook k o).getD default) (hb : b = (mlook k o).isSome) (hq : b = true ∧ ¬ (y.Text = x.Text ∧ y.Value = x.Value ∧ y.Blind = x.Blind ∧ y.Left = x.Left ∧ y.Right = x.Right)) : ¬ putB h o k x ∧ putO h o k x = o := by
  have hB : ¬ putB h o k x := fun hh => by
    rcases hh.2 with h2 | h2
    · exact hv h2
    · refine hq.2 ?_
      have := h2 (by rw [← hb]; exact hq.1)
      rw [← hy] at this; subst this; exact ⟨rfl, rfl, rfl, rfl, rfl⟩
  exact ⟨hB, by unfold putO; rw [if_neg fun hh => hB hh.1]⟩
theorem put_5 {h o : TM} {k : Int} {x y : DThing} {b : Bool} (hok : okM h k (hx x)) (hv : ¬ x.Value = -1) (hy : y = (mlook k o).getD default) (hb : b = (mlook k o).isSome) (hq : b = false ∨ (y.Text = x.Text ∧ y.Value = x.Value ∧ y.Blind = x.Blind ∧ y.Left = x.Left ∧ y.Right = x.Right)) : putB h o k x ∧ putO h o k x = mupd k x o := by
  have hB : putB h o k x := ⟨hok, .inr (okM_of hy hb hq)⟩
  exact ⟨hB, by unfold putO; rw [if_pos ⟨hB, hv⟩]⟩
/-! ### joining -/
def cat {α : Type} (l : List (Fat (Fat α))) : List (Fat α) := (l.map (·.l)).flatten
theorem cat2 {α : Type} (a b : List (Fat α)) (s t : SV) : cat [⟨a, s⟩, ⟨b, t⟩] = a ++ b := by simp [cat]
theorem cat_step {α : Type} [Dat α] {l : List (Fat (Fat α))} {k : Int} {m m2 : List (Fat α)} {x : Fat (Fat α)} (h0 : 0 ≤ k) (hk : k < l.length) (h : m = cat (l.take k.toNat)) (hx : x = l.getD k.toNat default) (h2 : m2 = m ++ x.l) : m2 = cat (l.take (k + 1).toNat) := by
  rw [show (k + 1).toNat = k.toNat + 1 by omega]
  have hk' : k.toNat < l.length := by omega
  have e : l[k.toNat] = x := by rw [hx, List.getD_eq_getElem?_getD, List.getElem?_eq_getElem hk']; rfl
  rw [h2, h, List.take_add_one, List.getElem?_eq_getElem hk', e]
  simp [cat]
/-! ### Agree -/
def put1 (s : TM × TM) (e : Int × DThing) : Option (TM × TM) := if putB s.1 s.2 e.1 e.2 then some (putH s.1 e.1 e.2, putO s.1 s.2 e.1 e.2) else none
def runs (l : List (Int × DThing)) : Option (TM × TM) := l.foldl (fun s e => s.bind fun s => put1 s e) (some ([], []))
theorem runs_snoc (l : List (Int × DThing)) (e : Int × DThing) : runs (l ++ [e]) = (runs l).bind fun s => put1 s e := by
  unfold runs; rw [List.foldl_append]; rfl
theorem runs_none {l : List (Int × DThing)} (h : runs l = none) (m : List (Int × DThing)) : runs (l ++ m) = none := by
  refine snoc_ind (motive := fun m => runs (l ++ m) = none) (by simpa using h) (fun m a ih => ?_) m
  rw [← List.append_assoc, runs_snoc, ih]; rfl
def flat (P : List (List Int)) (S : List (List DThing)) : List (Int × DThing) := (P.zip S).flatMap fun q => q.1.zip q.2
def AgreeP (P : List (List Int)) (S : List (List DThing)) (P' : List (List Int)) (S' : List (List DThing)) : Prop := Form P S ∧ Form P' S' ∧ (runs (flat (P ++ P') (S ++ S'))).isSome = true
instance (P : List (List Int)) (S : List (List DThing)) (P' : List (List Int)) (S' : List (List DThing)) : Decidable (AgreeP P S P' S') := by unfold AgreeP; infer_instance
theorem zip_take {α β : Type} [Inhabited α] [Inhabited β] {l : List α} {m : List β} (h : m.length = l.length) {k : Nat} (hk : k < l.length) : (l.zip m).take (k + 1) = (l.zip m).take k ++ [(l.getD k default, m.getD k default)] := by
  have hz : k < (l.zip m).length := by rw [List.length_zip]; omega
  rw [List.take_add_one, List.getElem?_eq_getElem hz]
  congr 1
  have hm : k < m.length := by omega
  simp [List.getD_eq_getElem?_getD, hk, hm]
theorem take_zip' {α β : Type} (l : List α) (m : List β) (n : Nat) : (l.zip m).take n = (l.take n).zip (m.take n) := by
  rw [List.zip_eq_zipWith, List.zip_eq_zipWith, List.take_zipWith]
theorem drop_zip' {α β : Type} (l : List α) (m : List β) (n : Nat) : (l.zip m).drop n = (l.drop n).zip (m.drop n) := by
  rw [List.zip_eq_zipWith, List.zip_eq_zipWith, List.drop_zipWith]
theorem flat_take {P : List (List Int)} {S : List (List DThing)} (h : S.length = P.length) {k : Nat} (hk : k < P.length) : flat (P.take (k + 1)) (S.take (k + 1)) = flat (P.take k) (S.take k) ++ (pl P k).zip (sl S k) := by
  unfold flat
  rw [← take_zip', ← take_zip', zip_take h hk, List.flatMap_append]
  simp; rfl
theorem flat_more {P : List (List Int)} {S : List (List DThing)} (h : S.length = P.length) {k : Nat} (hk : k < P.length) (j : Nat) : ∃ m, flat P S = flat (P.take k) (S.take k) ++ ((pl P k).zip (sl S k)).take j ++ m := by
  have e1 : flat P S = flat (P.take (k + 1)) (S.take (k + 1)) ++ flat (P.drop (k + 1)) (S.drop (k + 1)) := by
    unfold flat
    rw [← List.flatMap_append, ← take_zip', ← drop_zip', List.take_append_drop]
  refine ⟨((pl P k).zip (sl S k)).drop j ++ flat (P.drop (k + 1)) (S.drop (k + 1)), ?_⟩
  rw [e1, flat_take h hk]
  simp only [List.append_assoc]
  congr 1
  rw [← List.append_assoc, List.take_append_drop]
theorem ls_append {α : Type} (a b : List (Fat α)) : ls (a ++ b) = ls a ++ ls b := by simp [ls]
section
variable {p p' : List (Fat Int)} {q q' : List (Fat DThing)}
theorem agree_len {s s' t t' : SV} (h1 : Form (ls p) (ls q)) (h2 : Form (ls p') (ls q')) : (cat [⟨q, s⟩, ⟨q', s'⟩]).length = (cat [⟨p, t⟩, ⟨p', t'⟩]).length ∧ (cat [⟨p, t⟩, ⟨p', t'⟩]).length ≤ 128 ∧ ∀ i, i < (cat [⟨p, t⟩, ⟨p', t'⟩]).length → ((cat [⟨q, s⟩, ⟨q', s'⟩]).getD i default).l.length = ((cat [⟨p, t⟩, ⟨p', t'⟩]).getD i default).l.length := by
  rw [cat2, cat2]
  have a1 := h1.2.2.1; have a2 := h2.2.2.1; have b1 := h1.2.1; have b2 := h2.2.1
  rw [ls_length, ls_length] at a1 a2; rw [ls_length] at b1 b2
  refine ⟨by simp; omega, by simp; omega, fun i hi => ?_⟩
  have row : ∀ {p : List (Fat Int)} {q : List (Fat DThing)}, Form (ls p) (ls q) → ∀ j, j < p.length → (q.getD j default).l.length = (p.getD j default).l.length := fun {p q} h j hj => by
    have := (h.2.2.2.1 j (by rw [ls_length]; exact hj)).1.2.1
    rw [pl_ls', sl_ls'] at this; exact this
  simp only [List.length_append] at hi
  simp only [List.getD_eq_getElem?_getD] at row ⊢
  by_cases e : i < p.length
  · rw [List.getElem?_append_left e, List.getElem?_append_left (by omega)]; exact row h1 i e
  · rw [List.getElem?_append_right (by omega), List.getElem?_append_right (by omega), a1]; exact row h2 _ (by omega)
end
section
variable {p : List (Fat Int)} {q : List (Fat DThing)} {k j v : Int} {x : Fat Int} {y : Fat DThing} {z : DThing} {h o : TM}
theorem agree_start (e : runs (flat ((ls p).take k.toNat) ((ls q).take k.toNat)) = some (h, o)) (m : List (Int × DThing)) : runs (flat ((ls p).take k.toNat) ((ls q).take k.toNat) ++ m.take (0 : Int).toNat) = some (h, o) := by
  simpa using e
theorem agree_next (e : runs (flat ((ls p).take k.toNat) ((ls q).take k.toNat) ++ (x.l.zip (sl (ls q) k.toNat)).take j.toNat) = some (h, o)) (h0 : 0 ≤ k) (hk : k < p.length) (hl : q.length = p.length) (hx : x = p.getD k.toNat default) (hj : j.toNat = x.l.length) : runs (flat ((ls p).take (k + 1).toNat) ((ls q).take (k + 1).toNat)) = some (h, o) := by
  rw [show (k + 1).toNat = k.toNat + 1 by omega, flat_take (by simpa using hl) (by simp; omega), pl_ls hx]
  rwa [List.take_of_length_le (l := x.l.zip (sl (ls q) k.toNat)) (by rw [List.length_zip]; omega)] at e
theorem agree_zip (hl : (sl (ls q) k.toNat).length = x.l.length) (h1 : 0 ≤ j) (hj : j < x.l.length) (hv : v = x.l.getD j.toNat default) (hy : y = q.getD k.toNat default) (hz : z = y.l.getD j.toNat default) : (x.l.zip (sl (ls q) k.toNat)).take (j + 1).toNat = (x.l.zip (sl (ls q) k.toNat)).take j.toNat ++ [(v, z)] := by
  rw [show (j + 1).toNat = j.toNat + 1 by omega, zip_take hl (by omega), hv, hz, sl_ls hy]
theorem agree_put (e : runs (flat ((ls p).take k.toNat) ((ls q).take k.toNat) ++ (x.l.zip (sl (ls q) k.toNat)).take j.toNat) = some (h, o)) (hl : (sl (ls q) k.toNat).length = x.l.length) (h1 : 0 ≤ j) (hj : j < x.l.length) (hv : v = x.l.getD j.toNat default) (hy : y = q.getD k.toNat default) (hz : z = y.l.getD j.toNat default)
    (hp : putB h o v z) : runs (flat ((ls p).take k.toNat) ((ls q).take k.toNat) ++ (x.l.zip (sl (ls q) k.toNat)).take (j + 1).toNat) = some (putH h v z, putO h o v z) := by
  rw [agree_zip hl h1 hj hv hy hz, ← List.append_assoc, runs_snoc, e]
  show put1 _ _ = _
  unfold put1; rw [if_pos hp]
theorem agree_no (e : runs (flat ((ls p).take k.toNat) ((ls q).take k.toNat) ++ (x.l.zip (sl (ls q) k.toNat)).take j.toNat) = some (h, o)) (hl : (sl (ls q) k.toNat).length = x.l.length) (h1 : 0 ≤ j) (hj : j < x.l.length) (hv : v = x.l.getD j.toNat default) (hy : y = q.getD k.toNat default) (hz : z = y.l.getD j.toNat default)
    (h0 : 0 ≤ k) (hk : k < p.length) (hx : x = p.getD k.toNat default) (hql : q.length = p.length) (hp : ¬ putB h o v z) : runs (flat (ls p) (ls q)) = none := by
  obtain ⟨m, hm⟩ := flat_more (P := ls p) (S := ls q) (by simpa using hql) (k := k.toNat) (by simp; omega) (j + 1).toNat
  rw [pl_ls hx] at hm
  rw [hm]
  refine runs_none ?_ m
  rw [agree_zip hl h1 hj hv hy hz, ← List.append_assoc, runs_snoc, e]
  show put1 _ _ = _
  unfold put1; rw [if_neg hp]
end
theorem agree_iff {p p' : List (Fat Int)} {q q' : List (Fat DThing)} {s s' t t' : SV} (h1 : Form (ls p) (ls q)) (h2 : Form (ls p') (ls q')) : AgreeP (ls p) (ls q) (ls p') (ls q') ↔ (runs (flat (ls (cat [⟨p, t⟩, ⟨p', t'⟩])) (ls (cat [⟨q, s⟩, ⟨q', s'⟩])))).isSome = true := by
  rw [cat2, cat2, ls_append, ls_append]
  exact ⟨fun h => h.2.2, fun h => ⟨h1, h2, h⟩⟩
end Rv
end Kb
