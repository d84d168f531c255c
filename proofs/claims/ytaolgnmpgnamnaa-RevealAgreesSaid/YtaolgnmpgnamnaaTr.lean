/- Plain laws: paths and views. -/
import Derived.Test.YtaolgnmpgnamnaaTq
set_option linter.unusedVariables false
set_option linter.unusedSimpArgs false
namespace Kb
namespace Tm
theorem pe_cons {i : Int} {q : List Int} {k : Nat} : pe (i :: q) (k + 1) = pe q k := by simp [pe]
theorem walks_cons {l : List DThing} {i : Int} {q : List Int} (h : has l i) (h0 : q.length ≠ 0) (hw : walksTo l q q.length) (hn : (el l i).Left = pe q 0 ∨ (el l i).Right = pe q 0) : walksTo l (i :: q) (i :: q).length := by
  intro k hk
  cases k with
  | zero => exact ⟨h, fun h => absurd h (by omega)⟩
  | succ k =>
    have h1 := hw k (by simpa using hk)
    refine ⟨by rw [pe_cons]; exact h1.1, fun _ => ?_⟩
    rw [pe_cons, Nat.add_sub_cancel]
    cases k with
    | zero => exact hn
    | succ k =>
      rw [pe_cons]
      exact h1.2 (by omega)
theorem last_cons {i : Int} {q : List Int} (h0 : q.length ≠ 0) : lastI (i :: q) = lastI q := by
  unfold lastI
  rw [show (i :: q).length - 1 = (q.length - 1) + 1 by simp; omega, pe_cons]
theorem nxt_half {l : List DThing} {leaf i : Int} : (el l i).Left = nxt l leaf i ∨ (el l i).Right = nxt l leaf i := by
  unfold nxt
  split <;> omega
theorem rest_walks {l : List DThing} (hS : Sound l) {leaf : Int} (hl : has l leaf) : ∀ (n : Nat) (i : Int), i.toNat = n → has l i → near l leaf i = true →
    walksTo l (rest l leaf i) (rest l leaf i).length ∧ pe (rest l leaf i) 0 = i ∧ lastI (rest l leaf i) = leaf ∧ (rest l leaf i).length ≠ 0 := by
  intro n
  induction n using Nat.strongRecOn with
  | _ n ih =>
    intro i hin hi hn
    by_cases e : i = leaf
    · subst e
      rw [rest_self]
      refine ⟨fun k hk => ?_, rfl, rfl, by simp⟩
      have : k = 0 := by simpa using hk
      subst this
      exact ⟨hi, fun h => absurd h (by omega)⟩
    · unfold has at hi hl
      obtain ⟨a, b, c, d, _⟩ := nxt_near hS hl.1 hi.1 hi.2 hn e
      obtain ⟨h1, h2, h3, h4⟩ := ih (nxt l leaf i).toNat (by omega) _ rfl ⟨b, by omega⟩ a
      rw [rest_step hS hl.1 hi.1 hi.2 hn e]
      refine ⟨walks_cons hi h4 h1 (by rw [h2]; exact nxt_half), rfl, by rw [last_cons h4]; exact h3, by simp⟩
theorem pathF_cond {l : List DThing} {root leaf : Int} (h : (pathF l root leaf).length ≠ 0) : Sound l ∧ has l root ∧ has l leaf ∧ near l leaf root = true := by
  refine Decidable.by_contra fun hc => ?_
  rw [pathF_no hc] at h; exact h rfl
/-- what a path is -/
theorem path_is {l : List DThing} {root leaf : Int} {p : List Int} (hp : p = pathF l root leaf) (h : p.length ≠ 0) : Walks l p ∧ pe p 0 = root ∧ lastI p = leaf ∧ (root = leaf → p.length = 1) := by
  subst hp
  obtain ⟨hS, h1, h2, h3⟩ := pathF_cond h
  obtain ⟨a, b, c, d⟩ := rest_walks hS h2 _ root rfl h1 h3
  rw [pathF_yes hS h1 h2 h3]
  refine ⟨⟨hS, d, a⟩, b, c, fun e => ?_⟩
  subst e; rw [rest_self]; rfl
theorem pathF_len (l : List DThing) (root leaf : Int) : (pathF l root leaf).length ≤ 2001 := by
  by_cases h : (pathF l root leaf).length = 0
  · omega
  · obtain ⟨hS, h1, h2, h3⟩ := pathF_cond h
    rw [pathF_yes hS h1 h2 h3]
    have := (rest_len l leaf root.toNat root).2
    have := hS.1
    unfold has at h1
    unfold rest; omega
theorem viewF_nil {l : List DThing} {p : List Int} (h : p.length = 0) : viewF l p = [] := by
  unfold viewF; rw [if_neg]; exact fun h' => h'.2.1 h
theorem path_none {l : List DThing} {root leaf : Int} (h : ¬ (Sound l ∧ has l root ∧ has l leaf)) : pathF l root leaf = [] := pathF_no fun h' => h ⟨h'.1, h'.2.1, h'.2.2.1⟩
/-- without a path there is none from the halves -/
theorem path_less {l : List DThing} {root leaf : Int} {x : DThing} (hS : Sound l) (h1 : has l root) (h2 : has l leaf) (hx : x = l.getD root.toNat default) (h : (pathF l root leaf).length = 0) :
    root ≠ leaf ∧ (pathF l x.Left leaf).length = 0 ∧ (pathF l x.Right leaf).length = 0 := by
  have hn : ¬ near l leaf root = true := fun hn => by
    rw [pathF_yes hS h1 h2 hn] at h
    have := (rest_len l leaf root.toNat root).1
    unfold rest at h; omega
  have hne : root ≠ leaf := fun e => hn (by subst e; exact near_self h1.1 h1.2)
  have key : ∀ c : Int, (c = x.Left ∨ c = x.Right) → (pathF l c leaf).length = 0 := fun c hc => by
    refine Decidable.by_contra fun hlen => hn ?_
    obtain ⟨_, g1, _, g3⟩ := pathF_cond hlen
    have hh := half hS h1 g1 (by rw [show el l root = x from hx.symm]; rcases hc with e | e <;> rw [e] <;> simp)
    have hge := near_ge g1.1 g1.2 g3
    rw [near_up hS h2.1 (by omega) h1.2, show el l root = x from hx.symm]
    rw [show el l root = x from hx.symm] at hh
    rcases hc with e | e <;> rw [← e, g3] <;> simp [e] <;> (try exact fun h => absurd h (by rw [e] at g1; exact hh.1)) <;> exact hh.1
  exact ⟨hne, key _ (.inl rfl), key _ (.inr rfl)⟩
theorem view_len {l : List DThing} {p : List Int} {w : List DThing} (hw : w = viewF l p) (hW : Walks l p) : w.length = p.length ∧ ∀ i : Nat, i < p.length → w.getD i default = viewEl l p i := by
  subst hw
  unfold viewF; rw [if_pos hW]
  refine ⟨by simp [viewN], fun i hi => ?_⟩
  simp [viewN, hi]
theorem view_at {l : List DThing} {p : List Int} {w : List DThing} {i a : Int} {x y : DThing} (hw : w = viewF l p) (hW : Walks l p) (h0 : 0 ≤ i) (hi : i < p.length) (hx : x = w.getD i.toNat default) (ha : a = p.getD i.toNat default) (hy : y = l.getD a.toNat default) :
    x.Left = y.Left ∧ x.Right = y.Right ∧ (0 < i → i < (p.length : Int) - 1 → x.Value = -1) := by
  rw [(view_len hw hW).2 _ (by omega)] at hx
  have e : el l (pe p i.toNat) = y := by rw [hy, ha]; rfl
  subst hx
  unfold viewEl
  split
  · rw [e]; exact ⟨rfl, rfl, fun _ _ => rfl⟩
  · rw [e]; exact ⟨rfl, rfl, fun _ _ => by omega⟩
theorem view_prev {l : List DThing} {p : List Int} {w : List DThing} {i k m a : Int} {x : DThing} (hw : w = viewF l p) (hW : Walks l p) (h0 : 0 < i) (hi : i < p.length) (hk : k = i - 1) (hm : m = max k 0) (hx : x = w.getD m.toNat default) (ha : a = p.getD i.toNat default) :
    x.Left = a ∨ x.Right = a := by
  have hmi : m = i - 1 := by omega
  have h1 := view_at hw hW (i := m) (by omega) (by omega) hx rfl rfl
  have h2 := (hW.2.2 i.toNat (by omega)).2 (by omega)
  rw [h1.1, h1.2.1]
  rw [show i.toNat - 1 = m.toNat by omega] at h2
  rw [ha]; exact h2
end Tm
end Kb
