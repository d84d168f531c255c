/- Plain laws of disclosures: what is opened is at most the total; what is seen of one vault agrees; disclosures of built trees. No program in sight. -/
import Derived.Test.YtaolgnmpgnamnaaRl
import Derived.Test.YtaolgnmpgnamnaaTt
set_option linter.unusedSimpArgs false
set_option linter.unusedVariables false
namespace Kb
open Go
namespace Rv
open Tm
/-! ### sums -/
theorem sum_part {α : Type} (f : α → Int) (q : α → Bool) : ∀ l : List α, ((l.filter q).map f).sum + ((l.filter fun a => !q a).map f).sum = (l.map f).sum
  | [] => rfl
  | a :: l => by
    have ih := sum_part f q l
    cases h : q a <;> simp [List.filter_cons, h] <;> omega
theorem sum_ge {α : Type} {f : α → Int} : ∀ {l : List α}, (∀ a ∈ l, 0 ≤ f a) → 0 ≤ (l.map f).sum
  | [], _ => by simp
  | a :: l, h => by
    have := sum_ge (l := l) fun b hb => h b (List.mem_cons_of_mem _ hb)
    have := h a List.mem_cons_self
    simp; omega
/-- leaves under a thing have at most its value -/
theorem down_many {l : List DThing} (hS : Sound l) : ∀ (n : Nat) (r : Int), r.toNat = n → has l r → ∀ A : List Int, A.Nodup → (∀ a ∈ A, Down l r a ∧ (el l a).Left = -1) → (A.map fun a => (el l a).Value).sum ≤ (el l r).Value := by
  intro n
  induction n using Nat.strongRecOn with
  | _ n ih =>
    intro r hn hr A hA h
    have hb := bd_el hS hr
    by_cases e : (el l r).Left = -1
    · have all : ∀ a ∈ A, a = r := fun a ha => by
        obtain ⟨h1, h2⟩ := h a ha
        cases h1 with
        | refl _ => rfl
        | step hr hc hx hd => exact absurd e (half hS hr hc hx).1
      match A, hA, all with
      | [], _, _ => simpa using hb.1
      | [a], _, all => rw [all a (by simp)]; simp
      | a :: b :: A, hA, all =>
        exfalso
        have h1 := all a (by simp); have h2 := all b (by simp)
        rw [List.nodup_cons] at hA
        exact hA.1 (by rw [h1, ← h2]; simp)
    · unfold has at hr
      have hp := sound_pair hS hr.1 hr.2 (x := el l r) rfl e
      have hL : has l (el l r).Left := by unfold has; omega
      have hR : has l (el l r).Right := by unfold has; omega
      have hh := half hS hr hL (.inl rfl)
      have hs := sum_part (fun a => (el l a).Value) (fun a => near l a (el l r).Left) A
      have key : ∀ a ∈ A, near l a (el l r).Left = true → Down l (el l r).Left a := fun a ha hn => by
        have h2 := (h a ha).1.has2
        obtain ⟨g1, g2, g3, g4⟩ := rest_walks hS h2 _ _ rfl hL hn
        have := down_path g1 ((rest l a (el l r).Left).length - 1) 0 (by omega)
        rw [g2, Nat.zero_add] at this
        have e3 : pe (rest l a (el l r).Left) ((rest l a (el l r).Left).length - 1) = a := g3
        rwa [e3] at this
      have key2 : ∀ a ∈ A, near l a (el l r).Left = false → Down l (el l r).Right a := fun a ha hn => by
        obtain ⟨h1, h2⟩ := h a ha
        cases h1 with
        | refl _ => exact absurd h2 e
        | step hr hc hx hd =>
          rcases hx with hx | hx
          · rw [← hx] at hd; rw [near_of hS hd] at hn; cases hn
          · rw [hx]; exact hd
      have i1 := ih (el l r).Left.toNat (by omega) _ rfl hL (A.filter fun a => near l a (el l r).Left) (hA.filter _) fun a ha => by
        rw [List.mem_filter] at ha
        exact ⟨key a ha.1 ha.2, (h a ha.1).2⟩
      have i2 := ih (el l r).Right.toNat (by omega) _ rfl hR (A.filter fun a => !near l a (el l r).Left) (hA.filter _) fun a ha => by
        rw [List.mem_filter] at ha
        exact ⟨key2 a ha.1 (by simpa using ha.2), (h a ha.1).2⟩
      have hv := hh.2.2.1
      omega
/-! ### what Check has seen -/
theorem view_el {v : List DThing} {p : List Int} (hW : Walks v p) {i : Nat} (hi : i < p.length) : te (viewF v p) i = viewEl v p i := (view_len rfl hW).2 i hi
theorem check_walks {v : List DThing} {P : List (List Int)} {S : List (List DThing)} (h : CheckP v P S) {i : Nat} (hi : i < P.length) :
    Walks v (pl P i) ∧ sl S i = viewF v (pl P i) ∧ te (sl S i) 0 = el v (pe (pl P i) 0) ∧ lst (sl S i) = el v (lastI (pl P i)) ∧ (el v (lastI (pl P i))).Left = -1 ∧ Down v (pe (pl P i) 0) (lastI (pl P i)) := by
  obtain ⟨hF, hv⟩ := h
  have hr := (hF.2.2.2.1 i hi).1
  have e := hv i hi
  have hW : Walks v (pl P i) := Decidable.by_contra fun hc => by
    rw [viewF_no hc] at e
    have := hr.2.1; rw [← e] at this
    exact hr.1 this.symm
  have hl := (view_len (rfl : viewF v (pl P i) = _) hW).1
  have hn := hr.1
  have e0 : te (sl S i) 0 = el v (pe (pl P i) 0) := by
    rw [← e, view_el hW (by omega)]; unfold viewEl; rw [if_neg (by omega)]
  have e1 : lst (sl S i) = el v (lastI (pl P i)) := by
    unfold lst; rw [← e, hl, view_el hW (by omega)]; unfold viewEl lastI; rw [if_neg (by omega)]
  refine ⟨hW, e.symm, e0, e1, ?_, ?_⟩
  · rw [← e1]; unfold lst; rw [hr.2.1]; exact hr.2.2.2.2.2.1
  · have := down_path hW.2.2 ((pl P i).length - 1) 0 (by omega)
    rwa [Nat.zero_add] at this
theorem pl_map {β : Type} (f : List Int → β) (P : List (List Int)) (n : Nat) (hn : n ≤ P.length) : (P.take n).map f = (List.range n).map fun i => f (pl P i) := by
  refine List.ext_getElem (by simp; omega) fun j h1 h2 => ?_
  have hj : j < P.length := by simp at h1; omega
  simp [pl, List.getD_eq_getElem?_getD, hj]
theorem sl_map {β : Type} (f : List DThing → β) (S : List (List DThing)) (n : Nat) (hn : n ≤ S.length) : (S.take n).map f = (List.range n).map fun i => f (sl S i) := by
  refine List.ext_getElem (by simp; omega) fun j h1 h2 => ?_
  have hj : j < S.length := by simp at h1; omega
  simp [sl, List.getD_eq_getElem?_getD, hj]
/-- what an accepted disclosure opens -/
theorem check_sum {v : List DThing} {P : List (List Int)} {S : List (List DThing)} (h : CheckP v P S) : opn S S.length ≤ (te (sl S 0) 0).Value ∧ ∀ i, i < P.length → 0 ≤ (lst (sl S i)).Value := by
  have hF := h.1
  have h0 : 0 < P.length := Nat.pos_of_ne_zero hF.1
  have hl := hF.2.2.1
  obtain ⟨hW, _, e0, _, _, hd⟩ := check_walks h h0
  have hS := hW.1
  refine ⟨?_, fun i hi => (form_lst hF (i := i) (by omega)).2.1.1⟩
  have e : opn S S.length = ((P.map lastI).map fun a => (el v a).Value).sum := by
    unfold opn
    have h2 : (P.map lastI).map (fun a => (el v a).Value) = (List.range P.length).map fun i => (el v (lastI (pl P i))).Value := by
      rw [List.map_map]
      have := pl_map (fun p => (el v (lastI p)).Value) P P.length (Nat.le_refl _)
      rwa [List.take_length] at this
    rw [sl_map _ S S.length (Nat.le_refl _), h2, hl]
    refine congrArg List.sum (List.map_congr_left fun i hi => ?_)
    rw [(check_walks h (by simpa using hi)).2.2.2.1]
  rw [e, e0]
  refine down_many hS _ _ rfl hd.has1 _ hF.2.2.2.2 fun a ha => ?_
  obtain ⟨p, hp, rfl⟩ := List.mem_map.1 ha
  obtain ⟨j, hj, rfl⟩ := List.mem_iff_getElem.1 hp
  have ep : pl P j = P[j] := by unfold pl; simp [List.getD_eq_getElem?_getD, hj]
  obtain ⟨_, _, _, _, k1, k2⟩ := check_walks h hj
  rw [ep] at k1 k2
  have hr := (hF.2.2.2.1 j hj).2.1
  rw [ep] at hr
  rw [← hr]
  exact ⟨k2, k1⟩
theorem rest_ok {v : List DThing} {P : List (List Int)} {S : List (List DThing)} (h : CheckP v P S) : restB P S ∧ restV P S = restT S := by
  have : restB P S := ⟨h.1, by unfold restT; have := (check_sum h).1; omega⟩
  exact ⟨this, restV_yes this⟩
theorem opn_succ {S : List (List DThing)} {n : Nat} (hn : n < S.length) : opn S (n + 1) = opn S n + (lst (sl S n)).Value := by
  unfold opn
  rw [sl_map _ S (n + 1) (by omega), sl_map _ S n (by omega), List.range_succ, List.map_append, List.sum_append]
  simp
theorem rest_one {v : List DThing} {P : List (List Int)} {S : List (List DThing)} (h : CheckP v P S) : (sl S 0).length ≠ 0 ∧ restV P S ≤ (te (sl S 0) 0).Value := by
  have h0 : 0 < P.length := Nat.pos_of_ne_zero h.1.1
  have hl := h.1.2.2.1
  refine ⟨(form_lst h.1 (i := 0) (by omega)).1, ?_⟩
  rw [(rest_ok h).2]; unfold restT
  have : 0 ≤ opn S S.length := by
    unfold opn
    rw [sl_map _ S S.length (Nat.le_refl _)]
    exact sum_ge fun i hi => (check_sum h).2 i (by have h3 : i < S.length := List.mem_range.1 hi; omega)
  omega
theorem take_get {α : Type} (l : List α) (d : α) {n i : Nat} (hi : i < n) : (l.take n).getD i d = l.getD i d := by
  simp [List.getD_eq_getElem?_getD, List.getElem?_take, hi]
theorem rest_less {v : List DThing} {P : List (List Int)} {S : List (List DThing)} (h : CheckP v P S) {n : Nat} (hn : P.length = n + 1) (h0 : n ≠ 0) : restB (P.take n) (S.take n) ∧ restV P S ≤ restV (P.take n) (S.take n) := by
  obtain ⟨hF, hv⟩ := h
  have hc : CheckP v P S := ⟨hF, hv⟩
  have hl := hF.2.2.1
  have hC : CheckP v (P.take n) (S.take n) := by
    refine ⟨⟨by rw [List.length_take]; omega, by have := hF.2.1; rw [List.length_take]; omega, by rw [List.length_take, List.length_take]; omega, fun i hi => ?_, ?_⟩, fun i hi => ?_⟩
    · have hi : i < n := by simp at hi; omega
      have := hF.2.2.2.1 i (by omega)
      unfold row pl sl at this ⊢
      rw [take_get P _ hi, take_get S _ hi, take_get P _ (show 0 < n by omega), take_get S _ (show 0 < n by omega)]
      exact this
    · rw [List.map_take]; exact hF.2.2.2.2.sublist (List.take_sublist _ _)
    · have hi : i < n := by simp at hi; omega
      have := hv i (by omega)
      unfold pl sl at this ⊢
      rw [take_get P _ hi, take_get S _ hi]
      exact this
  obtain ⟨b1, b2⟩ := rest_ok hC
  refine ⟨b1, ?_⟩
  rw [b2, (rest_ok hc).2]
  unfold restT
  have e1 : sl (S.take n) 0 = sl S 0 := take_get S _ (by omega)
  have e2 : opn (S.take n) (S.take n).length = opn S n := by
    unfold opn; rw [List.take_length]
  rw [e1, e2, show S.length = n + 1 by omega, opn_succ (by omega)]
  have := (check_sum hc).2 n (by omega)
  omega
/-! ### agreeing -/
def fits (f g : Int → DThing) (l : List (Int × DThing)) : Prop := ∀ e ∈ l, hx e.2 = f e.1 ∧ (e.2.Value = -1 ∨ e.2 = g e.1)
theorem mlook_put {m : TM} {k j : Int} {x : DThing} : mlook j (mupd k x m) = if j = k then some x else mlook j m := mlook_upd ..
theorem putH_look {h : TM} {k j : Int} {x : DThing} (hok : okM h k (hx x)) : mlook j (putH h k x) = if j = k then some (hx x) else mlook j h := by
  unfold putH; rw [if_pos hok, mlook_put]
theorem runs_fit : ∀ (l : List (Int × DThing)) (h o : TM), runs l = some (h, o) → ∀ e ∈ l, mlook e.1 h = some (hx e.2) ∧ (e.2.Value = -1 ∨ mlook e.1 o = some e.2) := by
  refine snoc_ind (fun h o _ e he => by cases he) fun l a ih h o hr e he => ?_
  rw [runs_snoc] at hr
  rw [Option.bind_eq_some_iff] at hr
  obtain ⟨⟨h0, o0⟩, h1, h2⟩ := hr
  unfold put1 at h2
  split at h2
  · rename_i hb
    simp only [Option.some.injEq, Prod.mk.injEq] at h2
    obtain ⟨rfl, rfl⟩ := h2
    have hk := hb.1
    rw [putH_look hk]
    unfold putO
    rcases List.mem_append.1 he with he | he
    · obtain ⟨i1, i2⟩ := ih h0 o0 h1 e he
      constructor
      · by_cases ek : e.1 = a.1
        · rw [if_pos ek]
          have := hk (by rw [← ek, i1]; rfl)
          rw [← ek, i1] at this
          exact congrArg some this.symm
        · rw [if_neg ek]; exact i1
      · rcases i2 with i2 | i2
        · exact .inl i2
        · by_cases hv : putB h0 o0 a.1 a.2 ∧ a.2.Value ≠ -1
          · rw [if_pos hv, mlook_put]
            by_cases ek : e.1 = a.1
            · rw [if_pos ek]
              rcases hb.2 with h3 | h3
              · exact absurd h3 hv.2
              · have := h3 (by rw [← ek, i2]; rfl)
                rw [← ek, i2] at this
                exact .inr (congrArg some this.symm)
            · rw [if_neg ek]; exact .inr i2
          · rw [if_neg hv]; exact .inr i2
    · have : e = a := by simpa using he
      subst this
      rw [if_pos rfl]
      refine ⟨rfl, ?_⟩
      by_cases hv : e.2.Value = -1
      · exact .inl hv
      · rw [if_pos ⟨hb, hv⟩, mlook_put, if_pos rfl]; exact .inr rfl
  · cases h2
theorem fits_runs {f g : Int → DThing} : ∀ l : List (Int × DThing), fits f g l → ∃ h o, runs l = some (h, o) ∧ (∀ k y, mlook k h = some y → y = f k) ∧ ∀ k y, mlook k o = some y → y = g k := by
  refine snoc_ind (motive := fun l => fits f g l → ∃ h o, runs l = some (h, o) ∧ (∀ k y, mlook k h = some y → y = f k) ∧ ∀ k y, mlook k o = some y → y = g k) (fun _ => ⟨[], [], rfl, (fun k y h => by cases h), (fun k y h => by cases h)⟩) fun l a ih hf => ?_
  obtain ⟨h, o, hr, hh, ho⟩ := ih fun e he => hf e (List.mem_append_left _ he)
  obtain ⟨f1, f2⟩ := hf a (by simp)
  have okof : ∀ {m : TM} {F : Int → DThing} {k : Int} {y : DThing}, (∀ k y, mlook k m = some y → y = F k) → y = F k → okM m k y := fun {m F k y} hm e hs => by
    obtain ⟨z, hz⟩ := Option.isSome_iff_exists.1 hs
    rw [hz, e]; exact hm k z hz
  have hB : putB h o a.1 a.2 := ⟨okof hh f1, f2.imp id fun e => okof ho e⟩
  refine ⟨putH h a.1 a.2, putO h o a.1 a.2, ?_, fun k y hy => ?_, fun k y hy => ?_⟩
  · rw [runs_snoc, hr]
    show put1 _ _ = _
    unfold put1; rw [if_pos hB]
  · rw [putH_look hB.1] at hy
    by_cases ek : k = a.1
    · rw [if_pos ek] at hy; rw [← Option.some.inj hy, ek]; exact f1
    · rw [if_neg ek] at hy; exact hh k y hy
  · unfold putO at hy
    by_cases hv : putB h o a.1 a.2 ∧ a.2.Value ≠ -1
    · rw [if_pos hv, mlook_put] at hy
      by_cases ek : k = a.1
      · rw [if_pos ek] at hy; rw [← Option.some.inj hy, ek]
        rcases f2 with e | e
        · exact absurd e hv.2
        · exact e
      · rw [if_neg ek] at hy; exact ho k y hy
    · rw [if_neg hv] at hy; exact ho k y hy
theorem runs_iff (l : List (Int × DThing)) : (runs l).isSome = true ↔ ∃ f g, fits f g l := by
  constructor
  · intro h
    obtain ⟨⟨m, o⟩, e⟩ := Option.isSome_iff_exists.1 h
    refine ⟨fun k => (mlook k m).getD default, fun k => (mlook k o).getD default, fun x hx' => ?_⟩
    obtain ⟨a, b⟩ := runs_fit l m o e x hx'
    refine ⟨by simp only [a]; rfl, b.imp id fun b => by simp only [b]; rfl⟩
  · rintro ⟨f, g, h⟩
    obtain ⟨m, o, e, _⟩ := fits_runs l h
    rw [e]; rfl
theorem flat_append {P P' : List (List Int)} {S S' : List (List DThing)} (h : S.length = P.length) : flat (P ++ P') (S ++ S') = flat P S ++ flat P' S' := by
  unfold flat
  rw [List.zip_append h.symm, List.flatMap_append]
theorem agree_sym {P P' : List (List Int)} {S S' : List (List DThing)} : AgreeP P S P' S' ↔ AgreeP P' S' P S := by
  have key : ∀ {P P' : List (List Int)} {S S' : List (List DThing)}, AgreeP P S P' S' → AgreeP P' S' P S := fun {P P' S S'} ⟨h1, h2, h3⟩ => by
    refine ⟨h2, h1, ?_⟩
    rw [runs_iff] at h3 ⊢
    obtain ⟨f, g, hf⟩ := h3
    refine ⟨f, g, fun e he => hf e ?_⟩
    rw [flat_append h2.2.2.1] at he
    rw [flat_append h1.2.2.1]
    rcases List.mem_append.1 he with h | h
    · exact List.mem_append_right _ h
    · exact List.mem_append_left _ h
  exact ⟨key, key⟩
theorem flat_mem {P : List (List Int)} {S : List (List DThing)} {e : Int × DThing} (h : e ∈ flat P S) : ∃ i j, i < P.length ∧ j < (pl P i).length ∧ j < (sl S i).length ∧ e.1 = pe (pl P i) j ∧ e.2 = te (sl S i) j := by
  unfold flat at h
  obtain ⟨q, hq, he⟩ := List.mem_flatMap.1 h
  obtain ⟨i, hi, rfl⟩ := List.mem_iff_getElem.1 hq
  obtain ⟨j, hj, rfl⟩ := List.mem_iff_getElem.1 he
  simp only [List.length_zip] at hi
  have e1 : pl P i = P[i] := by unfold pl; simp [List.getD_eq_getElem?_getD, show i < P.length by omega]
  have e2 : sl S i = S[i] := by unfold sl; simp [List.getD_eq_getElem?_getD, show i < S.length by omega]
  simp only [List.getElem_zip, List.length_zip] at hj ⊢
  refine ⟨i, j, by omega, by rw [e1]; omega, by rw [e2]; omega, ?_, ?_⟩
  · rw [e1]; unfold pe; simp [List.getD_eq_getElem?_getD, show j < P[i].length by omega]
  · rw [e2]; unfold te; simp [List.getD_eq_getElem?_getD, show j < S[i].length by omega]
theorem check_fits {v : List DThing} {P : List (List Int)} {S : List (List DThing)} (h : CheckP v P S) : fits (fun k => hx (el v k)) (el v) (flat P S) := fun e he => by
  obtain ⟨i, j, hi, hj, _, e1, e2⟩ := flat_mem he
  obtain ⟨hW, es, _⟩ := check_walks h hi
  rw [es, view_el hW hj] at e2
  rw [e1, e2]
  unfold viewEl
  split
  · exact ⟨rfl, .inl rfl⟩
  · exact ⟨rfl, .inr rfl⟩
theorem check_agree {v : List DThing} {P P' : List (List Int)} {S S' : List (List DThing)} (h : CheckP v P S) (h' : CheckP v P' S') : AgreeP P S P' S' := by
  refine ⟨h.1, h'.1, (runs_iff _).2 ⟨fun k => hx (el v k), el v, ?_⟩⟩
  rw [flat_append h.1.2.2.1]
  intro e he
  rcases List.mem_append.1 he with he | he
  · exact check_fits h e he
  · exact check_fits h' e he
/-! ### places -/
theorem plN_foldl (l : List Int) (at' : List UInt8) (hl : l.length ≠ 0) : plN l at' = at'.foldl (plS l) ([], []) := by unfold plN; rw [if_neg hl]
theorem plN_is {a n : Nat} {l : List Int} (hl : l = idsN a n) (at' : List UInt8) :
    (plN l at').1 = (plN l at').2.map (fun k => (a : Int) + k) ∧ (plN l at').2.Nodup ∧ (∀ k ∈ (plN l at').2, 0 ≤ k ∧ k < n) ∧ (plN l at').2.length ≤ at'.length := by
  have hlen : l.length = n := by subst hl; simp [idsN]
  by_cases h0 : l.length = 0
  · unfold plN; rw [if_pos h0]; simp
  · refine snoc_ind (motive := fun at' => (plN l at').1 = (plN l at').2.map (fun k => (a : Int) + k) ∧ (plN l at').2.Nodup ∧ (∀ k ∈ (plN l at').2, 0 ≤ k ∧ k < n) ∧ (plN l at').2.length ≤ at'.length) ?_ (fun at' x ih => ?_) at'
    · rw [plN_zero]; simp
    · obtain ⟨i1, i2, i3, i4⟩ := ih
      have e : plN l (at' ++ [x]) = plS l (plN l at') x := by rw [plN_foldl _ _ h0, plN_foldl _ _ h0, List.foldl_append]; rfl
      have hm0 : 0 ≤ (x.toNat : Int) % l.length := Int.emod_nonneg _ (by omega)
      have hm1 : (x.toNat : Int) % l.length < l.length := Int.emod_lt_of_pos _ (by omega)
      rw [e]; unfold plS
      by_cases hc : (x.toNat : Int) % l.length ∈ (plN l at').2
      · rw [if_pos hc]; exact ⟨i1, i2, i3, by simp; omega⟩
      · rw [if_neg hc]
        refine ⟨?_, ?_, fun k hk => ?_, by simp; omega⟩
        · simp only [List.map_append, ← i1]
          congr 1
          have := ids_get hl (i := (x.toNat : Int) % l.length) hm0 (by omega) rfl
          rw [this]
          have hq : ∀ q : Int, 0 ≤ q → ((a + q.toNat : Nat) : Int) = (a : Int) + q := fun q h => by omega
          exact congrArg (fun z => [z]) (hq _ hm0)
        · rw [List.nodup_append]
          refine ⟨i2, by simp, fun b hb c hcc => ?_⟩
          have : c = (x.toNat : Int) % l.length := by simpa using hcc
          subst this
          exact fun e => hc (e ▸ hb)
        · rcases List.mem_append.1 hk with hk | hk
          · exact i3 k hk
          · have : k = (x.toNat : Int) % l.length := by simpa using hk
            subst this; omega
/-! ### disclosures of a built tree -/
def lfs (a : Nat) (W : List Int) : List Int := W.map fun k => (a : Int) + k
structure Wh (n : Nat) (W : List Int) : Prop where
  nd : W.Nodup
  rg : ∀ k ∈ W, 0 ≤ k ∧ k < n
  ne : W.length ≠ 0
  le : W.length ≤ 64
theorem lfs_get {a : Nat} {W : List Int} {i : Nat} (hi : i < W.length) : (lfs a W).getD i default = (a : Int) + W.getD i default := by
  simp [lfs, List.getD_eq_getElem?_getD, hi]
theorem lfs_nodup {a : Nat} {W : List Int} (h : W.Nodup) : (lfs a W).Nodup := by
  unfold lfs; unfold List.Nodup at *
  rw [List.pairwise_map]
  exact h.imp fun h e => h (by omega)
theorem get_mem {W : List Int} {i : Nat} (hi : i < W.length) : W.getD i default ∈ W := by
  simp [List.getD_eq_getElem?_getD, hi]
section
variable {v : List DThing} {t : List ByteArray} {x b W : List Int}
theorem leaf_path (he : buildE v t x b = 0) {k : Int} (h0 : 0 ≤ k) (hk : k < t.length) :
    ∃ p, p = pathF (buildT v t x b) (buildR v t x b) ((v.length : Int) + k) ∧ p.length ≠ 0 ∧ Walks (buildT v t x b) p ∧ pe p 0 = buildR v t x b ∧ lastI p = (v.length : Int) + k ∧ el (buildT v t x b) ((v.length : Int) + k) = leafAt t x b k.toNat := by
  obtain ⟨hOK, _, hS, hl, _, hr, h1, h2, _, hd⟩ := built_is he
  obtain ⟨d1, d2⟩ := hd k.toNat (by omega)
  have ek : ((v.length + k.toNat : Nat) : Int) = (v.length : Int) + k := by omega
  rw [ek] at d1 d2
  have hlen : (pathF (buildT v t x b) (buildR v t x b) ((v.length : Int) + k)).length ≠ 0 := by
    rw [pathF_yes hS hr d1.has2 (near_of hS d1)]
    have := (rest_len (buildT v t x b) ((v.length : Int) + k) (buildR v t x b).toNat (buildR v t x b)).1
    unfold rest; omega
  obtain ⟨hW, e0, e1, _⟩ := path_is (l := buildT v t x b) rfl hlen
  exact ⟨_, rfl, hlen, hW, e0, e1, d2⟩
theorem show_built (he : buildE v t x b = 0) (hW : Wh t.length W) : showE (buildT v t x b) (buildR v t x b) (lfs v.length W) = 0 := by
  obtain ⟨hOK, _, hS, hl, _, hr, _⟩ := built_is he
  have hA : argS (buildT v t x b) (buildR v t x b) (lfs v.length W) := ⟨hS, hr, by unfold lfs; rw [List.length_map]; exact hW.ne, by unfold lfs; rw [List.length_map]; exact hW.le⟩
  unfold showE; rw [if_pos hA]
  have hlen : (lfs v.length W).length = W.length := by simp [lfs]
  have key : ∀ n, n ≤ W.length → scanE (buildT v t x b) (buildR v t x b) (lfs v.length W) n = 0 := by
    intro n
    induction n with
    | zero => intro _; rfl
    | succ n ih =>
      intro hn
      unfold scanE
      rw [if_pos (ih (by omega))]
      have hm := hW.rg _ (get_mem (W := W) (i := n) (by omega))
      obtain ⟨p, hp, h1, h2, h3, h4, h5⟩ := leaf_path he hm.1 hm.2
      unfold stepE oe
      rw [lfs_get (by omega), ← hp]
      rw [if_neg (by
        rintro (h | h)
        · exact h1 h
        · rw [h5] at h; exact h rfl), if_neg]
      intro hmem
      have hnd := lfs_nodup (a := v.length) hW.nd
      have hn' : n < (lfs v.length W).length := by omega
      have e2 : (lfs v.length W)[n] = (v.length : Int) + W.getD n default := by
        rw [← lfs_get (a := v.length) (by omega)]; simp [List.getD_eq_getElem?_getD, hn']
      rw [← e2] at hmem
      obtain ⟨j, hj, ej⟩ := List.mem_iff_getElem.1 hmem
      simp only [List.length_take] at hj
      rw [List.getElem_take] at ej
      have := (List.getElem_inj hnd).1 ej
      omega
  rw [hlen]; exact key _ (Nat.le_refl _)
theorem showP_built (he : buildE v t x b = 0) (hW : Wh t.length W) : showP (buildT v t x b) (buildR v t x b) (lfs v.length W) = (lfs v.length W).map (pathF (buildT v t x b) (buildR v t x b)) ∧ showS (buildT v t x b) (buildR v t x b) (lfs v.length W) = (lfs v.length W).map fun a => viewF (buildT v t x b) (pathF (buildT v t x b) (buildR v t x b) a) := by
  unfold showP showS; rw [if_pos (show_built he hW), if_pos (show_built he hW)]; exact ⟨rfl, rfl⟩
/-- equal sums, equal elements where they are opened: equal disclosures -/
theorem hides_all {t' : List ByteArray} {x' b' : List Int} (he : buildE v t x b = 0) (he' : buildE v t' x' b' = 0) (hn : t.length = t'.length) (hW : Wh t.length W) (hx : totV x t.length = totV x' t.length) (hb : totV b t.length = totV b' t.length)
    (hs : ∀ i, i < t.length → (i : Int) ∈ W → t.getD i default = t'.getD i default ∧ x.getD i default = x'.getD i default ∧ b.getD i default = b'.getD i default) :
    showE (buildT v t x b) (buildR v t x b) (lfs v.length W) = 0 ∧ showE (buildT v t' x' b') (buildR v t' x' b') (lfs v.length W) = 0 ∧
    showP (buildT v t x b) (buildR v t x b) (lfs v.length W) = showP (buildT v t' x' b') (buildR v t' x' b') (lfs v.length W) ∧ showS (buildT v t x b) (buildR v t x b) (lfs v.length W) = showS (buildT v t' x' b') (buildR v t' x' b') (lfs v.length W) := by
  have hW' : Wh t'.length W := by rw [← hn]; exact hW
  refine ⟨show_built he hW, show_built he' hW', ?_, ?_⟩
  · rw [(showP_built he hW).1, (showP_built he' hW').1]
    refine List.map_congr_left fun a ha => ?_
    obtain ⟨k, hk, rfl⟩ := List.mem_map.1 ha
    have hr := hW.rg k hk
    obtain ⟨h1, h2, h3⟩ := hs k.toNat (by omega) (by rwa [show (k.toNat : Int) = k by omega])
    obtain ⟨_, q2, _⟩ := hides hn he he' (i := k.toNat) (by omega) hx hb h1 h2 h3 _ rfl
    rw [show ((v.length + k.toNat : Nat) : Int) = (v.length : Int) + k by omega] at q2
    rw [← (built_alike hn he he').2.1]; exact q2
  · rw [(showP_built he hW).2, (showP_built he' hW').2]
    refine List.map_congr_left fun a ha => ?_
    obtain ⟨k, hk, rfl⟩ := List.mem_map.1 ha
    have hr := hW.rg k hk
    obtain ⟨h1, h2, h3⟩ := hs k.toNat (by omega) (by rwa [show (k.toNat : Int) = k by omega])
    obtain ⟨_, q2, q3⟩ := hides hn he he' (i := k.toNat) (by omega) hx hb h1 h2 h3 _ rfl
    rw [show ((v.length + k.toNat : Nat) : Int) = (v.length : Int) + k by omega] at q2 q3
    rw [← (built_alike hn he he').2.1, ← q2]; exact q3
/-- a view of a path to a leaf has form -/
theorem view_form {l : List DThing} {p : List Int} (hp : Walks l p) (hl : isLeaf (el l (lastI p))) : walk p (viewF l p) := by
  obtain ⟨hS, hne, hw⟩ := hp
  have hp : Walks l p := ⟨hS, hne, hw⟩
  have hlen := (view_len (rfl : viewF l p = _) hp).1
  refine ⟨hne, hlen, fun i hi => ?_, ?_, ?_⟩
  · have h1 := hw (i + 1) (by omega)
    have h2 := h1.2 (by omega)
    have h3 := (hw i (by omega)).1
    rw [Nat.add_sub_cancel] at h2
    have hh := half hS h3 h1.1 h2
    have h3' := h3
    unfold has at h3'
    have ht : (el l (pe p i)).Text = ByteArray.empty := by
      rcases sound_cases hS (k := (pe p i).toNat) (by omega) with h4 | h4
      · exact absurd h4.1 hh.1
      · exact h4.2.2.2.2.1
    unfold mid
    rw [view_el hp (by omega)]
    unfold viewEl
    by_cases hc : 0 < i ∧ i + 1 < p.length
    · rw [if_pos hc]; exact ⟨ht, h2, fun _ => ⟨rfl, rfl⟩⟩
    · rw [if_neg hc]; exact ⟨ht, h2, fun h => absurd ⟨h, by omega⟩ hc⟩
  · rw [view_el hp (by omega)]; unfold viewEl; rw [if_neg (by omega)]
    exact bd_el hS (hw 0 (by omega)).1
  · rw [view_el hp (by omega)]; unfold viewEl; rw [if_neg (by omega)]
    unfold isLeaf lastI at hl
    exact ⟨bd_el hS (hw _ (by omega)).1, hl.1, hl.2.1, by omega⟩
theorem leaf_is {v : List DThing} {t : List ByteArray} {x b : List Int} (h : argsOK v t x b) {i : Nat} (hi : i < t.length) : isLeaf (leafAt t x b i) := h.2.2.2.2 i hi
theorem show_check (he : buildE v t x b = 0) (hW : Wh t.length W) : CheckP (buildT v t x b) (showP (buildT v t x b) (buildR v t x b) (lfs v.length W)) (showS (buildT v t x b) (buildR v t x b) (lfs v.length W)) := by
  obtain ⟨eP, eS⟩ := showP_built he hW
  rw [eP, eS]
  have hOK := (built_is he).1
  have hlen : (lfs v.length W).length = W.length := by simp [lfs]
  have at1 : ∀ i, i < W.length → ∃ p, pl ((lfs v.length W).map (pathF (buildT v t x b) (buildR v t x b))) i = p ∧ sl ((lfs v.length W).map fun a => viewF (buildT v t x b) (pathF (buildT v t x b) (buildR v t x b) a)) i = viewF (buildT v t x b) p ∧
      p.length ≠ 0 ∧ Walks (buildT v t x b) p ∧ pe p 0 = buildR v t x b ∧ lastI p = (v.length : Int) + W.getD i default ∧ el (buildT v t x b) (lastI p) = leafAt t x b (W.getD i default).toNat := fun i hi => by
    have hm := hW.rg _ (get_mem (W := W) (i := i) hi)
    obtain ⟨p, hp, h1, h2, h3, h4, h5⟩ := leaf_path he hm.1 hm.2
    have e := lfs_get (a := v.length) hi
    have hi' : i < (lfs v.length W).length := by omega
    have e' : (lfs v.length W)[i] = (v.length : Int) + W.getD i default := by rw [← e]; simp [List.getD_eq_getElem?_getD, hi']
    refine ⟨p, ?_, ?_, h1, h2, h3, h4, by rw [h4]; exact h5⟩
    · unfold pl; simp only [List.getD_eq_getElem?_getD, List.getElem?_map, List.getElem?_eq_getElem hi', e', Option.map_some, Option.getD_some]
      rw [← List.getD_eq_getElem?_getD]; exact hp.symm
    · unfold sl; simp only [List.getD_eq_getElem?_getD, List.getElem?_map, List.getElem?_eq_getElem hi', e', Option.map_some, Option.getD_some]
      rw [← List.getD_eq_getElem?_getD, ← hp]
  have hn := hW.ne
  obtain ⟨p0, a0, b0, c0, d0, f0, _⟩ := at1 0 (by omega)
  have hv0 : te (viewF (buildT v t x b) p0) 0 = el (buildT v t x b) (buildR v t x b) := by
    rw [view_el d0 (by omega)]; unfold viewEl; rw [if_neg (by omega), f0]
  refine ⟨⟨by simp [hlen]; exact fun h => hn (by rw [h]; rfl), by simp [hlen]; exact hW.le, by simp, fun i hi => ?_, ?_⟩, fun i hi => ?_⟩
  · have hi : i < W.length := by simpa [hlen] using hi
    obtain ⟨p, a, b', c, d, f, g, hh⟩ := at1 i hi
    have hm := hW.rg _ (get_mem (W := W) (i := i) hi)
    have hv : te (viewF (buildT v t x b) p) 0 = el (buildT v t x b) (buildR v t x b) := by
      rw [view_el d (by omega)]; unfold viewEl; rw [if_neg (by omega), f]
    unfold row
    rw [a, b', a0, b0, f, f0, hv, hv0]
    exact ⟨view_form d (by rw [hh]; exact leaf_is hOK (by omega)), rfl, rfl, rfl⟩
  · rw [List.map_map]
    have : (lfs v.length W).map (lastI ∘ pathF (buildT v t x b) (buildR v t x b)) = lfs v.length W := by
      refine (List.map_congr_left fun a ha => ?_).trans (List.map_id _)
      obtain ⟨k, hk, rfl⟩ := List.mem_map.1 ha
      have hr := hW.rg k hk
      obtain ⟨p, hp, h1, h2, h3, h4, h5⟩ := leaf_path he hr.1 hr.2
      show lastI (pathF _ _ _) = _
      rw [← hp]; exact h4
    rw [this]; exact lfs_nodup hW.nd
  · have hi : i < W.length := by simpa [hlen] using hi
    obtain ⟨p, a, b', _⟩ := at1 i hi
    rw [a, b']
/-- what is seen of an element -/
theorem show_at (he : buildE v t x b = 0) (hW : Wh t.length W) {i : Nat} (hi : i < W.length) : (sl (showS (buildT v t x b) (buildR v t x b) (lfs v.length W)) i).length ≠ 0 ∧
    (te (sl (showS (buildT v t x b) (buildR v t x b) (lfs v.length W)) i) 0).Value = totV x t.length ∧ lst (sl (showS (buildT v t x b) (buildR v t x b) (lfs v.length W)) i) = leafAt t x b (W.getD i default).toNat := by
  have hC := show_check he hW
  have hlen : (lfs v.length W).length = W.length := by simp [lfs]
  have hPl : (showP (buildT v t x b) (buildR v t x b) (lfs v.length W)).length = W.length := by rw [(showP_built he hW).1]; simp [hlen]
  obtain ⟨w1, w2, w3, w4, w5, w6⟩ := check_walks hC (i := i) (by omega)
  have hm := hW.rg _ (get_mem (W := W) (i := i) hi)
  obtain ⟨p, hp, h1, h2, h3, h4, h5⟩ := leaf_path he hm.1 hm.2
  have e' : pl (showP (buildT v t x b) (buildR v t x b) (lfs v.length W)) i = p := by
    rw [(showP_built he hW).1]
    have hi' : i < (lfs v.length W).length := by omega
    have e'' : (lfs v.length W)[i] = (v.length : Int) + W.getD i default := by rw [← lfs_get (a := v.length) hi]; simp [List.getD_eq_getElem?_getD, hi']
    unfold pl; simp only [List.getD_eq_getElem?_getD, List.getElem?_map, List.getElem?_eq_getElem hi', e'', Option.map_some, Option.getD_some]
    rw [← List.getD_eq_getElem?_getD]; exact hp.symm
  rw [e'] at w2 w3 w4
  rw [w3, w4, h3, h4, h5]
  refine ⟨?_, (built_is he).2.2.2.2.2.2.1, rfl⟩
  rw [w2, (view_len rfl h2).1]; exact h1
theorem filter_one (n : Int) : ∀ W : List Int, W.Nodup → W.filter (fun k => decide (k = n)) = if n ∈ W then [n] else []
  | [], _ => rfl
  | a :: W, h => by
    rw [List.nodup_cons] at h
    have ih := filter_one n W h.2
    by_cases e : a = n
    · subst e
      rw [if_neg h.1] at ih
      rw [List.filter_cons, if_pos (by simp), ih, if_pos (by simp)]
    · rw [List.filter_cons, if_neg (by simpa using e), ih]
      by_cases hm : n ∈ W
      · rw [if_pos hm, if_pos (by simp [hm])]
      · rw [if_neg hm, if_neg (by simp [hm]; exact fun h => e h.symm)]
theorem sum_places {f : Int → Int} {n : Nat} (hW : Wh n W) : (W.map f).sum + (((List.range n).map fun i : Nat => if (i : Int) ∈ W then 0 else f i)).sum = ((List.range n).map fun i : Nat => f (i : Int)).sum := by
  have key : ∀ (W : List Int) (n : Nat), W.Nodup → (∀ k ∈ W, 0 ≤ k ∧ k < n) → (W.map f).sum + (((List.range n).map fun i : Nat => if (i : Int) ∈ W then 0 else f i)).sum = ((List.range n).map fun i : Nat => f (i : Int)).sum := by
    intro W n
    induction n generalizing W with
    | zero =>
      intro _ h
      cases W with
      | nil => rfl
      | cons k W => have := h k (by simp); omega
    | succ n ih =>
      intro hn h
      have hs := sum_part f (fun k => decide (k = (n : Int))) W
      have e1 : W.filter (fun k => decide (k = (n : Int))) = if (n : Int) ∈ W then [(n : Int)] else [] := by
        exact filter_one (n : Int) W hn
      have i2 := ih (W.filter fun k => !decide (k = (n : Int))) (hn.filter _) fun k hk => by
        rw [List.mem_filter] at hk
        have := h k hk.1
        have h2 : ¬ k = (n : Int) := by simpa using hk.2
        omega
      have e2 : ((List.range n).map fun i : Nat => if (i : Int) ∈ (W.filter fun k => !decide (k = (n : Int))) then 0 else f (i : Int)) = (List.range n).map fun i : Nat => if (i : Int) ∈ W then 0 else f (i : Int) := by
        refine List.map_congr_left fun i hi => ?_
        have hi : i < n := by simpa using hi
        have : ((i : Int) ∈ W.filter fun k => !decide (k = (n : Int))) ↔ (i : Int) ∈ W := by
          rw [List.mem_filter]
          constructor
          · exact fun h => h.1
          · intro h; exact ⟨h, by simp; omega⟩
        by_cases hm : (i : Int) ∈ W
        · rw [if_pos (this.2 hm), if_pos hm]
        · rw [if_neg fun h => hm (this.1 h), if_neg hm]
      rw [e2] at i2
      rw [e1] at hs
      rw [List.range_succ, List.map_append, List.sum_append, List.map_append, List.sum_append]
      by_cases hm : (n : Int) ∈ W
      · simp [hm] at hs ⊢; omega
      · simp [hm] at hs ⊢; omega
  exact key W n hW.nd hW.rg
def others (x : List Int) (W : List Int) (n : Nat) : Int := ((List.range n).map fun i : Nat => if (i : Int) ∈ W then 0 else x.getD i default).sum
theorem others_succ (x W : List Int) (n : Nat) : others x W (n + 1) = others x W n + if (n : Int) ∈ W then 0 else x.getD n default := by
  unfold others; rw [List.range_succ, List.map_append, List.sum_append]; simp
theorem show_rest (he : buildE v t x b = 0) (hW : Wh t.length W) : restB (showP (buildT v t x b) (buildR v t x b) (lfs v.length W)) (showS (buildT v t x b) (buildR v t x b) (lfs v.length W)) ∧
    restV (showP (buildT v t x b) (buildR v t x b) (lfs v.length W)) (showS (buildT v t x b) (buildR v t x b) (lfs v.length W)) = others x W t.length := by
  have hC := show_check he hW
  obtain ⟨r1, r2⟩ := rest_ok hC
  refine ⟨r1, r2.trans ?_⟩
  have hn := hW.ne
  have hlen : (showS (buildT v t x b) (buildR v t x b) (lfs v.length W)).length = W.length := by rw [(showP_built he hW).2]; simp [lfs]
  unfold restT
  rw [(show_at he hW (i := 0) (by omega)).2.1]
  have e1 : opn (showS (buildT v t x b) (buildR v t x b) (lfs v.length W)) (showS (buildT v t x b) (buildR v t x b) (lfs v.length W)).length = (W.map fun k => x.getD k.toNat default).sum := by
    unfold opn
    rw [sl_map _ _ _ (Nat.le_refl _), hlen]
    have : W.map (fun k => x.getD k.toNat default) = (List.range W.length).map fun i => x.getD (W.getD i default).toNat default := by
      refine List.ext_getElem (by simp) fun j h1 h2 => ?_
      have hj : j < W.length := by simpa using h1
      simp [List.getD_eq_getElem?_getD, hj]
    rw [this]
    refine congrArg List.sum (List.map_congr_left fun i hi => ?_)
    rw [(show_at he hW (i := i) (by simpa using hi)).2.2]; rfl
  have e2 := sum_places (f := fun k => x.getD k.toNat default) hW
  rw [e1]
  unfold totV others
  simp only [Int.toNat_natCast] at e2
  omega
end
/-! ### as the laws want it -/
section
variable {v : List DThing} {t : List ByteArray} {x b W O : List Int}
theorem pl_wh (he : buildE v t x b = 0) {at' : List UInt8} (h20 : (at'.length : Int) ≤ 20) (hne : ¬ ((plN (buildL v t x b) at').1.length : Int) = 0) : (plN (buildL v t x b) at').1 = lfs v.length (plN (buildL v t x b) at').2 ∧ Wh t.length (plN (buildL v t x b) at').2 := by
  obtain ⟨h1, h2, h3, h4⟩ := plN_is (built_is he).2.2.2.2.2.2.2.2.1 at'
  refine ⟨h1, h2, h3, fun h => hne ?_, by omega⟩
  rw [h1, List.length_map, h]; rfl
theorem shows_is (he : buildE v t x b = 0) (hO : O = lfs v.length W) (hW : Wh t.length W) : showE (buildT v t x b) (buildR v t x b) O = 0 ∧ CheckP (buildT v t x b) (showP (buildT v t x b) (buildR v t x b) O) (showS (buildT v t x b) (buildR v t x b) O) ∧ (showP (buildT v t x b) (buildR v t x b) O).length = O.length ∧ (showS (buildT v t x b) (buildR v t x b) O).length = O.length ∧ W.length = O.length ∧
    restB (showP (buildT v t x b) (buildR v t x b) O) (showS (buildT v t x b) (buildR v t x b) O) ∧ restV (showP (buildT v t x b) (buildR v t x b) O) (showS (buildT v t x b) (buildR v t x b) O) = others x W t.length := by
  subst hO
  obtain ⟨a, c⟩ := showP_built he hW
  refine ⟨show_built he hW, show_check he hW, by rw [a, List.length_map], by rw [c, List.length_map], by simp [lfs], show_rest he hW⟩
theorem fats_mem {α : Type} : ∀ {S : List (List α)} {σ : Nat → SV} {y : Fat α}, y ∈ fats S σ → y.l ∈ S
  | [], _, _, h => by cases h
  | a :: S, σ, y, h => by
    rw [fats] at h
    rcases List.mem_cons.1 h with rfl | h
    · exact List.mem_cons_self
    · exact List.mem_cons_of_mem _ (fats_mem h)
theorem showP_pre {v : List DThing} {r : Int} {o : List Int} {σ : Nat → SV} : ∀ y ∈ fats (showP v r o) σ, y.l.length ≤ 5000000000000 := fun y hy => by
  have h := fats_mem hy
  unfold showP at h
  split at h
  · obtain ⟨a, _, e⟩ := List.mem_map.1 h
    have := pathF_len v r a
    rw [← e]; omega
  · cases h
theorem ls_fats {α : Type} (S : List (List α)) (σ : Nat → SV) : ls (fats S σ) = S := fats_l S σ
theorem shows_round (he : buildE v t x b = 0) (hO : O = lfs v.length W) (hW : Wh t.length W) {σ : Nat → SV} {i k : Int} {y : Fat DThing} (h0 : 0 ≤ i) (hi : i < W.length) (hy : y = (fats (showS (buildT v t x b) (buildR v t x b) O) σ).getD i.toNat default) (hk : k = W.getD i.toNat default) :
    0 < (y.l.length : Int) ∧ 0 ≤ k ∧ k < t.length ∧ k < x.length ∧ k < b.length ∧ ∀ (f l : DThing) (m : Int), f = y.l.getD (0 : Int).toNat default → m = (y.l.length : Int) - 1 → l = y.l.getD m.toNat default → f.Value = totV x t.length ∧ l.Text = t.getD k.toNat default ∧ l.Value = x.getD k.toNat default ∧ l.Blind = b.getD k.toNat default := by
  subst hO
  obtain ⟨h1, h2, h3⟩ := show_at he hW (i := i.toNat) (by omega)
  have e := sl_ls hy
  rw [ls_fats] at e
  rw [e] at h1 h2 h3
  have hr := hW.rg k (by rw [hk]; exact get_mem (by omega))
  have hOK := (built_is he).1
  have l1 := hOK.2.2.1
  have l2 := hOK.2.2.2.1
  refine ⟨by omega, hr.1, hr.2, by omega, by omega, fun f l m hf hm hl => ?_⟩
  have e1 : te y.l 0 = f := by rw [hf]; rfl
  have e2 : lst y.l = l := by rw [hl]; unfold lst te; rw [show m.toNat = y.l.length - 1 by omega]
  rw [e1] at h2
  rw [e2, ← hk] at h3
  rw [h2, h3]
  exact ⟨rfl, rfl, rfl, rfl⟩
theorem others_step {i s k : Int} (h0 : 0 ≤ i) (hs : s = others x W i.toNat) (hk : k = x.getD i.toNat default) : others x W (i + 1).toNat = if i ∈ W then s else s + k := by
  rw [show (i + 1).toNat = i.toNat + 1 by omega, others_succ, show ((i.toNat : Nat) : Int) = i by omega, ← hs, ← hk]
  split <;> omega
theorem hides_is {t' : List ByteArray} {x' b' : List Int} {n : Nat} (he : buildE v t x b = 0) (he' : buildE v t' x' b' = 0) (hn : t.length = t'.length) (hO : O = lfs v.length W) (hW : Wh t.length W) (hx : 0 = totV x n - totV x' n) (hb : 0 = totV b n - totV b' n) (ht : n = t.length)
    (hs : ∀ i, i < n → (i : Int) ∈ W → (t.getD i default = t'.getD i default ∧ x.getD i default = x'.getD i default) ∧ b.getD i default = b'.getD i default) :
    showE (buildT v t x b) (buildR v t x b) O = 0 ∧ showE (buildT v t' x' b') (buildR v t' x' b') O = 0 ∧
    showP (buildT v t x b) (buildR v t x b) O = showP (buildT v t' x' b') (buildR v t' x' b') O ∧ showS (buildT v t x b) (buildR v t x b) O = showS (buildT v t' x' b') (buildR v t' x' b') O := by
  subst hO ht
  exact hides_all he he' hn hW (by omega) (by omega) fun i hi hm => ⟨(hs i hi hm).1.1, (hs i hi hm).1.2, (hs i hi hm).2⟩
theorem hides_step {t' : List ByteArray} {x' b' : List Int} {i c c' d d' : Int} {p : Bool} {a a' : ByteArray} (hs : p = true ↔ ∀ j : Nat, j < i.toNat → (j : Int) ∈ W → (t.getD j default = t'.getD j default ∧ x.getD j default = x'.getD j default) ∧ b.getD j default = b'.getD j default) (h0 : 0 ≤ i)
    (ha : a = t.getD i.toNat default) (ha' : a' = t'.getD i.toNat default) (hc : c = x.getD i.toNat default) (hc' : c' = x'.getD i.toNat default) (hd : d = b.getD i.toNat default) (hd' : d' = b'.getD i.toNat default) :
    (p = true ∧ (¬ i ∈ W ∨ (a = a' ∧ c = c') ∧ d = d')) ↔ ∀ j : Nat, j < (i + 1).toNat → (j : Int) ∈ W → (t.getD j default = t'.getD j default ∧ x.getD j default = x'.getD j default) ∧ b.getD j default = b'.getD j default := by
  rw [ha, ha', hc, hc', hd, hd', hs]
  have ei : ((i.toNat : Nat) : Int) = i := by omega
  constructor
  · rintro ⟨h1, h2⟩ j hj hm
    by_cases e : j < i.toNat
    · exact h1 j e hm
    · have : j = i.toNat := by omega
      subst this
      rw [ei] at hm
      rcases h2 with h2 | h2
      · exact absurd hm h2
      · exact h2
  · intro h
    refine ⟨fun j hj hm => h j (by omega) hm, ?_⟩
    by_cases hm : i ∈ W
    · exact .inr (h i.toNat (by omega) (by rw [ei]; exact hm))
    · exact .inl hm
end
theorem fewD_pre {p : List (Fat Int)} {q : List (Fat DThing)} (h : fewD (ls p) (ls q)) : ∀ x ∈ p, x.l.length ≤ 5000000000000 := fun x hx => by
  obtain ⟨i, hi, rfl⟩ := List.mem_iff_getElem.1 hx
  have h1 := h.2.2.2.1
  have h2 := h.1 i (by rw [ls_length]; exact hi) (by rw [ls_length] at h1; omega)
  rw [pl_ls'] at h2
  simp only [List.getD_eq_getElem?_getD, List.getElem?_eq_getElem hi, Option.getD_some] at h2
  omega
theorem ls_take {α : Type} (l : List (Fat α)) (n : Nat) : ls (l.take n) = (ls l).take n := by simp [ls]
theorem bounds_one {v : List DThing} {p : List (Fat Int)} {q : List (Fat DThing)} {x : Fat DThing} {z : DThing} (h : CheckP v (ls p) (ls q)) (hx : x = q.getD (0 : Int).toNat default) (hz : z = x.l.getD (0 : Int).toNat default) : 0 < (x.l.length : Int) ∧ restV (ls p) (ls q) ≤ z.Value := by
  obtain ⟨h1, h2⟩ := rest_one h
  have e := sl_ls hx
  rw [show (0 : Int).toNat = 0 from rfl] at e hz
  rw [e] at h1 h2
  have e2 : te x.l 0 = z := by rw [hz]; rfl
  rw [e2] at h2
  exact ⟨by omega, h2⟩
theorem bounds_more {v : List DThing} {p p2 : List (Fat Int)} {q q2 : List (Fat DThing)} {k m : Int} (h : CheckP v (ls p) (ls q)) (hk : k = (p.length : Int) - 1) (hm : m = k) (h1 : ¬ (p.length : Int) = 1) (hp : p2 = p.take k.toNat) (hq : q2 = q.take m.toNat) : restB (ls p2) (ls q2) ∧ restV (ls p) (ls q) ≤ restV (ls p2) (ls q2) := by
  have h0 := h.1.1
  rw [ls_length] at h0
  rw [hp, hq, hm, ls_take, ls_take]
  exact rest_less h (by rw [ls_length]; omega) (by omega)
theorem ls_set {α : Type} (l : List (Fat α)) (k : Nat) (x : Fat α) : ls (l.set k x) = (ls l).set k x.l := by unfold ls; rw [List.map_set]
theorem changed_no {v : List DThing} {p : List (Fat Int)} {q : List (Fat DThing)} {k m : Int} {y : Fat DThing} {ck ck2 : List DThing} {U : SV} {z z2 : DThing} (h : CheckP v (ls p) (ls q)) (h0 : 0 ≤ k) (hk : k < q.length) (hy : y = q.getD k.toNat default) (hck : ck = y.l)
    (hm : 0 ≤ m) (hm2 : m < ck.length) (hz : z = ck.getD m.toNat default) (h2 : ck2 = ck.set m.toNat z2) (hc : z2.Value ≠ z.Value) : ¬ CheckP v (ls p) (ls (q.set k.toNat ⟨ck2, U⟩)) := fun h' => by
  have hl := h.1.2.2.1
  rw [ls_length, ls_length] at hl
  have e1 := h.2 k.toNat (by rw [ls_length]; omega)
  have e2 := h'.2 k.toNat (by rw [ls_length]; omega)
  rw [e1, sl_ls hy, ← hck, ls_set] at e2
  have e3 : sl ((ls q).set k.toNat ck2) k.toNat = ck2 := by
    unfold sl
    have : k.toNat < (ls q).length := by rw [ls_length]; omega
    rw [List.getD_eq_getElem?_getD, List.getElem?_set_self this]; rfl
  rw [e3, h2] at e2
  have hm' : m.toNat < ck.length := by omega
  have e4 := congrArg (fun l : List DThing => l.getD m.toNat default) e2
  simp only [List.getD_eq_getElem?_getD, List.getElem?_set_self hm', Option.getD_some] at e4
  rw [← List.getD_eq_getElem?_getD, ← hz] at e4
  exact hc (by rw [e4])
end Rv
end Kb
