/- Plain laws: the form of a built tree does not depend on what it sums. -/
import Derived.Test.YtaolgnmpgnamnaaTs
set_option linter.unusedVariables false
set_option linter.unusedSimpArgs false
namespace Kb
namespace Tm
/-- two vaults of one form -/
structure Alike (l m : List DThing) : Prop where
  len : l.length = m.length
  left : ∀ k : Nat, (l.getD k default).Left = (m.getD k default).Left
  right : ∀ k : Nat, (l.getD k default).Right = (m.getD k default).Right
theorem Alike.refl (l : List DThing) : Alike l l := ⟨rfl, fun _ => rfl, fun _ => rfl⟩
theorem Alike.append {l m a b : List DThing} (h : Alike l m) (k : Alike a b) : Alike (l ++ a) (m ++ b) := by
  have key : ∀ (f : DThing → Int), (∀ k : Nat, f (l.getD k default) = f (m.getD k default)) → (∀ k : Nat, f (a.getD k default) = f (b.getD k default)) → ∀ k : Nat, f ((l ++ a).getD k default) = f ((m ++ b).getD k default) := by
    intro f h1 h2 k
    have hl := h.len
    by_cases hk : k < l.length
    · have e1 : (l ++ a).getD k default = l.getD k default := by simp only [List.getD_eq_getElem?_getD]; rw [List.getElem?_append_left hk]
      have e2 : (m ++ b).getD k default = m.getD k default := by simp only [List.getD_eq_getElem?_getD]; rw [List.getElem?_append_left (by omega)]
      rw [e1, e2]; exact h1 k
    · have e1 : (l ++ a).getD k default = a.getD (k - l.length) default := by simp only [List.getD_eq_getElem?_getD]; rw [List.getElem?_append_right (by omega)]
      have e2 : (m ++ b).getD k default = b.getD (k - l.length) default := by simp only [List.getD_eq_getElem?_getD]; rw [List.getElem?_append_right (by omega), hl]
      rw [e1, e2]; exact h2 _
  exact ⟨by simp [h.len, k.len], key _ h.left k.left, key _ h.right k.right⟩
theorem Alike.one {x y : DThing} (h1 : x.Left = y.Left) (h2 : x.Right = y.Right) : Alike [x] [y] := by
  refine ⟨rfl, fun k => ?_, fun k => ?_⟩ <;> cases k <;> simp [*]
theorem pairUp_alike : ∀ (n : Nat) (l m : List DThing) (a : List Int), a.length ≤ n → Alike l m → Alike (pairUp l a).1 (pairUp m a).1 ∧ (pairUp l a).2 = (pairUp m a).2
  | _, l, m, [], _, h => ⟨h, rfl⟩
  | _, l, m, [x], _, h => ⟨h, rfl⟩
  | 0, l, m, x :: y :: r, hn, _ => by simp at hn
  | n + 1, l, m, x :: y :: r, hn, h => by
    simp only [List.length_cons] at hn
    obtain ⟨h1, h2⟩ := pairUp_alike n (l ++ [pairX l x y]) (m ++ [pairX m x y]) r (by omega) (h.append (.one rfl rfl))
    rw [pairUp, pairUp]
    exact ⟨h1, by simp only [h2, h.len]⟩
theorem up_alike : ∀ (n : Nat) (l m : List DThing) (a : List Int), Alike l m → Alike (up n l a).1 (up n m a).1 ∧ (up n l a).2 = (up n m a).2
  | 0, _, _, _, h => ⟨h, rfl⟩
  | n + 1, l, m, a, h => by
    rw [up, up]
    split
    · obtain ⟨h1, h2⟩ := pairUp_alike _ l m a (Nat.le_refl _) h
      rw [h2]; exact up_alike n _ _ _ h1
    · exact ⟨h, rfl⟩
theorem leaves_alike {t t' : List ByteArray} {v v' b b' : List Int} : ∀ n, Alike (leavesN t v b n) (leavesN t' v' b' n)
  | 0 => Alike.refl _
  | n + 1 => by
    unfold leavesN
    rw [List.range_succ, List.map_append, List.map_append]
    exact (leaves_alike n).append (.one rfl rfl)
theorem reach_alike {l m : List DThing} (h : Alike l m) (leaf : Int) : ∀ n, reachN l leaf n = reachN m leaf n
  | 0 => rfl
  | n + 1 => by
    rw [reachN, reachN, reach_alike h leaf n]
    unfold nearB
    rw [h.left, h.right]
theorem near_alike {l m : List DThing} (h : Alike l m) (leaf i : Int) : near l leaf i = near m leaf i := by
  unfold near; rw [reach_alike h, h.len]
theorem nxt_alike {l m : List DThing} (h : Alike l m) (leaf i : Int) : nxt l leaf i = nxt m leaf i := by
  unfold nxt el
  simp only [near_alike h, h.left, h.right]
theorem pathN_alike {l m : List DThing} (h : Alike l m) (leaf : Int) : ∀ n i, pathN l leaf n i = pathN m leaf n i
  | 0, _ => rfl
  | n + 1, i => by rw [pathN, pathN, nxt_alike h, pathN_alike h leaf n]
theorem has_alike {l m : List DThing} (h : Alike l m) (i : Int) : has l i ↔ has m i := by unfold has; rw [h.len]
theorem pathF_alike {l m : List DThing} (h : Alike l m) (hl : Sound l) (hm : Sound m) (r a : Int) : pathF l r a = pathF m r a := by
  unfold pathF
  simp only [hl, hm, has_alike h, near_alike h, pathN_alike h]
/-- the middle of a view -/
theorem view_alike {l m : List DThing} (h : Alike l m) {p : List Int} (hl : Walks l p) (hm : Walks m p) (h0 : el l (pe p 0) = el m (pe p 0)) (h1 : el l (lastI p) = el m (lastI p)) : viewF l p = viewF m p := by
  unfold viewF
  rw [if_pos hl, if_pos hm]
  unfold viewN
  refine List.map_congr_left fun i hi => ?_
  have hi : i < p.length := by simpa using hi
  unfold viewEl
  by_cases hc : 0 < i ∧ i + 1 < p.length
  · rw [if_pos hc, if_pos hc]
    have key : ∀ {w : List DThing}, Walks w p → (el w (pe p i)).Text = ByteArray.empty := by
      intro w hw
      have h1 := hw.2.2 (i + 1) (by omega)
      have h2 := h1.2 (by omega)
      rw [Nat.add_sub_cancel] at h2
      have h3 := (hw.2.2 i (by omega)).1
      have hh := half hw.1 h3 h1.1 h2
      have h3' := h3
      unfold has at h3'
      rcases sound_cases hw.1 (k := (pe p i).toNat) (by omega) with h4 | h4
      · exact absurd h4.1 hh.1
      · exact h4.2.2.2.2.1
    refine (thing_ext _ _).2 ⟨?_, rfl, rfl, h.left _, h.right _⟩
    exact (key hl).trans (key hm).symm
  · rw [if_neg hc, if_neg hc]
    have : i = 0 ∨ i = p.length - 1 := by omega
    rcases this with rfl | rfl
    · exact h0
    · exact h1
theorem built_alike {v : List DThing} {t t' : List ByteArray} {x x' b b' : List Int} (hn : t.length = t'.length) (h : buildE v t x b = 0) (h' : buildE v t' x' b' = 0) :
    Alike (buildT v t x b) (buildT v t' x' b') ∧ buildR v t x b = buildR v t' x' b' ∧ buildL v t x b = buildL v t' x' b' := by
  unfold buildT buildR buildL
  simp only [h, h', if_true]
  unfold built
  rw [← hn]
  obtain ⟨h1, h2⟩ := up_alike t.length _ _ (idsN v.length t.length) ((Alike.refl v).append (leaves_alike (t := t) (t' := t') (v := x) (v' := x') (b := b) (b' := b') t.length))
  exact ⟨h1, by rw [h2], rfl⟩
/-- the views of a path to equal elements in trees of equal sums -/
theorem hides {v : List DThing} {t t' : List ByteArray} {x x' b b' : List Int} (hn : t.length = t'.length) (h : buildE v t x b = 0) (h' : buildE v t' x' b' = 0) {i : Nat} (hi : i < t.length)
    (hx : totV x t.length = totV x' t.length) (hb : totV b t.length = totV b' t.length) (e1 : t.getD i default = t'.getD i default) (e2 : x.getD i default = x'.getD i default) (e3 : b.getD i default = b'.getD i default) :
    ∀ p, p = pathF (buildT v t x b) (buildR v t x b) ((v.length + i : Nat) : Int) → 0 < p.length ∧ p = pathF (buildT v t' x' b') (buildR v t x b) ((v.length + i : Nat) : Int) ∧ viewF (buildT v t x b) p = viewF (buildT v t' x' b') p := by
  intro p hp
  obtain ⟨al, er, _⟩ := built_alike hn h h'
  obtain ⟨_, _, hS, _, _, hr, h1, h2, _, hd⟩ := built_is h
  obtain ⟨_, _, hS', _, _, hr', h1', h2', _, hd'⟩ := built_is h'
  obtain ⟨d1, d2⟩ := hd i hi
  obtain ⟨d1', d2'⟩ := hd' i (by omega)
  have hlen : p.length ≠ 0 := by
    rw [hp, pathF_yes hS hr d1.has2 (near_of hS d1)]
    have := (rest_len (buildT v t x b) ((v.length + i : Nat) : Int) (buildR v t x b).toNat (buildR v t x b)).1
    unfold rest; omega
  have hp' : p = pathF (buildT v t' x' b') (buildR v t x b) ((v.length + i : Nat) : Int) := by rw [hp]; exact pathF_alike al hS hS' _ _
  obtain ⟨hW, f0, f1, f2⟩ := path_is hp hlen
  obtain ⟨hW', _, _, _⟩ := path_is hp' hlen
  have hlf : el (buildT v t x b) ((v.length + i : Nat) : Int) = el (buildT v t' x' b') ((v.length + i : Nat) : Int) := by
    rw [d2, d2']; unfold leafAt; rw [e1, e2, e3]
  refine ⟨by omega, hp', view_alike al hW hW' ?_ (by rw [f1]; exact hlf)⟩
  rw [f0]
  by_cases hre : buildR v t x b = ((v.length + i : Nat) : Int)
  · rw [hre]; exact hlf
  · have hnl : ∀ {w : List DThing}, Walks w p → (el w (buildR v t x b)).Text = ByteArray.empty := by
      intro w hw
      have hl2 : 1 < p.length := by
        refine Decidable.by_contra fun hc => hre ?_
        have hl1 : p.length = 1 := by omega
        have : lastI p = pe p 0 := by unfold lastI; rw [hl1]
        rw [f0, f1] at this; exact this.symm
      have g1 := hw.2.2 1 hl2
      have g2 := g1.2 (by omega)
      have g3 := (hw.2.2 0 (by omega)).1
      rw [show 1 - 1 = 0 by omega, f0] at g2
      rw [f0] at g3
      have hh := half hw.1 g3 g1.1 g2
      have g3' := g3
      unfold has at g3'
      rcases sound_cases hw.1 (k := (buildR v t x b).toNat) (by omega) with h4 | h4
      · exact absurd h4.1 hh.1
      · exact h4.2.2.2.2.1
    refine (thing_ext _ _).2 ⟨(hnl hW).trans (hnl hW').symm, ?_, ?_, al.left _, al.right _⟩
    · rw [h1, er, h1', hx, hn]
    · rw [h2, er, h2', hb, hn]
end Tm
end Kb
