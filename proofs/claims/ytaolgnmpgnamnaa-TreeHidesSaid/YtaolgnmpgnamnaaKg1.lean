/- Methods with a pointer to a struct that holds an owned slice. No program in sight. -/
import Derived.Test.YtaolgnmpgnamnaaKf
import Derived.Laws.Cover3
namespace Kb
open Go
theorem hun_none {H : Heaplet} : Sub H (hun (fun _ => none) H) := fun b o e => by simp [hun, e]
theorem turns_two {w w' : World} {H : Heaplet} {A : List Heaplet} {L : List Ent} {V : Rec → Value} {F : Heaplet → Rec → Prop} {b0 : Nat} {o0 : Obj} {e0 : Ent} {o1 : Rec → Obj} {u : Value} (hw : StW w (([some (b0, o0), e0] : List Ent).filterMap (·.map (·.1))) A L w') (g : Rec) (r s : Nat) (hne : r ≠ s)
    (hr : L[r]? = some (some (b0, o1 g))) (hs : L[s]? = some g.e) (hH : g.H = fun _ => none) (hv : u = V g) (hf : F (hun g.H H) g) :
    Turns w H [some (b0, o0), e0] (fun g => [some (b0, o1 g), g.e]) V F (.returned u) w' := by
  subst hv
  have hd : ∀ o, g.e ≠ some (b0, o) := fun o he => hne (hw.dis r s b0 (o1 g) o hr (by rw [hs, he]))
  refine ⟨g, ⟨rfl, hw.base, by rw [hH]; exact agrees_none, by rw [hH]; exact new_none, rfl, fun k x hx b o hb => ?_, fun k l b o o' h h' => ?_⟩, hf⟩
  · match k, hx with
    | 0, hx =>
      simp at hx; subst hx
      cases hb
      exact ⟨(hw.ent r b0 _ hr).1, .inr ⟨o0, rfl⟩, by rw [hH]⟩
    | 1, hx =>
      simp at hx; subst hx
      obtain ⟨h1, h2, _⟩ := hw.ent s b o (by rw [hs, hb])
      refine ⟨h1, ?_, by rw [hH]⟩
      rcases h2 with h2 | h2
      · exact .inl h2
      · have hb0 : b ≠ b0 := fun e => hd o (by subst e; exact hb)
        cases e0 with
        | none => simp at h2; exact absurd h2 hb0
        | some p => simp at h2; rcases h2 with h2 | h2
                    · exact absurd h2 hb0
                    · exact .inr ⟨p.2, by subst h2; rfl⟩
    | k + 2, hx => simp at hx
  · match k, l, h, h' with
    | 0, 0, _, _ => rfl
    | 0, 1, h, h' =>
      simp at h h'
      obtain ⟨rfl, rfl⟩ := h
      exact absurd h' (hd _)
    | 1, 0, h, h' =>
      simp at h h'
      obtain ⟨rfl, rfl⟩ := h'
      exact absurd h (hd _)
    | 1, 1, _, _ => rfl
    | k + 2, _, h, _ => simp at h
    | 0, l + 2, _, h' => simp at h'
    | 1, l + 2, _, h' => simp at h'
/-- a call that begins with entries of its own -/
theorem calls_of_WX {P : Program} {X : List Nat} {sl : Slots} {A : List Heaplet} {L : List Ent} {f : FuncId} {fn : Func} {args : Array Value} {w : World} {R : Ending → World → Prop} (hf : P.funcs[f]? = some fn) (hb : fn.body = some (body fn)) (nt : Nat) (hnt : (args ++ Array.replicate (fn.ntmps - args.size) undef).size = nt)
    (hs : sl = args.toList.zipIdx.map fun p => (p.2, p.1)) (hw : StW w X A L w)
    (h : W P nt w X (body fn) (bodyPost P fn R) sl A L) : Calls P f args w R := by
  refine calls_of_wp hf hb (h _ w ⟨rfl, hnt, fun s v hv => ?_⟩ hw)
  subst hs
  have key : ∀ (l : List Value) (k : Nat), ((l.zipIdx k).map fun p => (p.2, p.1)).lookup s = some v → k ≤ s ∧ l[s - k]? = some v := by
    intro l
    induction l with
    | nil => intro k h; cases h
    | cons x l ih =>
      intro k h
      simp only [List.zipIdx_cons, List.map_cons, List.lookup_cons] at h
      by_cases e : s = k
      · subst e; simp at h; simp [h]
      · have e' : (s == k) = false := by simpa using e
        rw [e'] at h
        obtain ⟨h1, h2⟩ := ih (k + 1) h
        refine ⟨by omega, ?_⟩
        rw [show s - k = (s - (k + 1)) + 1 from by omega]
        simpa using h2
  have := (key args.toList 0 hv).2
  simp only [Nat.sub_zero, Array.getElem?_toList] at this
  have hlt := (Array.getElem?_eq_some_iff.1 this).1
  rw [Array.getElem?_append_left hlt]; exact this
/-- entries that lie in a world -/
theorem StW.more {w : World} {A : List Heaplet} {L : List Ent} {X : List Nat} (h : StW w X A L w) (n : Nat) : StW w X A (L ++ List.replicate n none) w := by
  have key : ∀ (r : Nat) (b : Nat) (o : Obj), (L ++ List.replicate n none)[r]? = some (some (b, o)) → L[r]? = some (some (b, o)) := fun r b o h => by
    rw [List.getElem?_append] at h
    split at h
    · exact h
    · rw [List.getElem?_replicate] at h
      split at h <;> cases h
  exact ⟨h.base, h.agr, fun r b o he => h.ent r b o (key r b o he), fun r r' b o o' h1 h2 => h.dis r r' b o o' (key _ _ _ h1) (key _ _ _ h2)⟩
section
variable {P : Program} {R : RC} {w0 : World} {X : List Nat} {i : Nat}
/-- a block and an owned slice, as a callee gets them -/
theorem RC.Sees.two {G : Gh} {w : World} {α : Type} [Dat α] {r s b : Nat} {T E : TypeId} {c : Array Value} {e : Ent} {J H : Heaplet} {l : List α} {v : Value} (hs : R.Sees w0 X G i w)
    (h1 : (R.entAt G i r, (R.c i).rds.contains r || R.wrE r i) = (some (b, .cells c T), true)) (h2 : (R.entAt G i s, (R.c i).rds.contains s || R.wrE s i) = (e, true)) (hJ : R.A[0]? = some J) (hT : T ≠ E) (ho : OSl E H l v e) :
    StW w (([some (b, .cells c T), e] : List Ent).filterMap (·.map (·.1))) [J] [some (b, .cells c T), e] w := by
  simp only [Prod.mk.injEq] at h1 h2
  have hJ' := List.mem_of_getElem? hJ
  have a1 := hs.ent r h1.2 b _ h1.1
  have hob : ∀ b' o', e = some (b', o') → ∃ cur, o' = .cells cur E := fun b' o' he => by
    rcases ho.sl.val with ⟨_, _, hn⟩ | ⟨g, cap, cur, _, hn, _⟩
    · rw [hn] at he; cases he
    · rw [hn] at he; cases he; exact ⟨cur, rfl⟩
  have hne : ∀ o', e ≠ some (b, o') := fun o' he => by
    have a2 := hs.ent s h2.2 b o' (h2.1.trans he)
    obtain ⟨cur, rfl⟩ := hob _ _ he
    have := a1.1.symm.trans a2.1
    cases this
    exact hT rfl
  refine ⟨Base.refl _ _, fun K hK => ?_, fun k b' o' hk => ?_, fun k k' b' o o' hk hk' => ?_⟩
  · have : K = J := by simpa using hK
    subst this; exact hs.agr _ hJ'
  · match k, hk with
    | 0, hk =>
      simp at hk; obtain ⟨rfl, rfl⟩ := hk
      exact ⟨a1.1, .inr (by simp), fun K hK => by
        have : K = J := by simpa using hK
        subst this; exact a1.2.2.1 _ hJ'⟩
    | 1, hk =>
      simp at hk
      have a2 := hs.ent s h2.2 b' o' (h2.1.trans hk)
      exact ⟨a2.1, .inr (by simp [hk]), fun K hK => by
        have : K = J := by simpa using hK
        subst this; exact a2.2.2.1 _ hJ'⟩
    | k + 2, hk => simp at hk
  · match k, k', hk, hk' with
    | 0, 0, _, _ => rfl
    | 0, 1, hk, hk' =>
      simp at hk hk'; obtain ⟨rfl, rfl⟩ := hk
      exact absurd hk' (hne _)
    | 1, 0, hk, hk' =>
      simp at hk hk'; obtain ⟨rfl, rfl⟩ := hk'
      exact absurd hk (hne _)
    | 1, 1, _, _ => rfl
    | k + 2, _, h, _ => simp at h
    | 0, l + 2, _, h' => simp at h'
    | 1, l + 2, _, h' => simp at h'
end
/-- is it nil? -/
def isNil : Value → Bool
  | .slice none _ _ => true
  | _ => false
section
variable {P : Program} {R : RC} {w0 : World} {X : List Nat} {i : Nat}
structure NilOf (P : Program) (R : RC) (i : Nat) (neq : Bool) (t : TypeId) (v : Value) (p : Bool) (G : Gh) : Prop where
  eq : (R.bir G i, (sliceOf P t).isSome, R.val i (RC.put G i {}), (R.ups i).map (·.1), R.fact i (RC.put G i {})) =
    (some (neq, t, v, .slice none 0 0), true, .bool p, [], True)
/-- a slice held against nil -/
theorem One.nilcmp {neq : Bool} {t : TypeId} {v : Gh → Value} {p : Bool} (h : ∀ G, NilOf P R i neq t (v G) p G) (hp : ∀ G w, R.Sees w0 X G i w → (∃ n, IsSl (v G) n) ∧ p = (neq ^^ isNil (v G))) : One R P w0 X i := fun o ho G w hs => by
  have h0 := (h G).eq
  simp only [Prod.mk.injEq] at h0
  obtain ⟨e1, e2, e3, e4, e5⟩ := h0
  obtain ⟨⟨n, a, c, hv, _⟩, hp⟩ := hp G w hs
  rw [hv] at e1 hp
  obtain ⟨d, hu⟩ : ∃ d, P.underlying t = some (.slice d) := by
    unfold sliceOf at e2
    split at e2
    · rename_i d hd; exact ⟨d, hd⟩
    · cases e2
  unfold RC.bir at e1
  rw [ho] at e1
  obtain ⟨dst, op, type, pos, after, guard⟩ := o
  have hn : isNil (.slice a n c) = a.isNone := by cases a <;> rfl
  rw [hn] at hp
  have fin : (execOp (R.evalAt G i) { dst, op, type, pos, after, guard }).run P w = .ok (.value (.bool p)) w → Does P (R.evalAt G i) { dst, op, type, pos, after, guard } w fun v w' => ∃ g, R.Left w w' G i g v := fun hr => by
    unfold Does
    rw [hr, ← e3]
    exact ⟨{}, RC.Left.pure (ups_nil e4) (e5 ▸ trivial)⟩
  have hb : ∀ w, (Op.equalIn 10000 t (.slice a n c) (.slice none 0 0)).run P w = .ok a.isNone w := fun w => run_equal_slice_nil w t d a n c hu
  simp only [Option.map_some] at e1
  split at e1
  · rename_i t' x y ty heq
    simp only [Option.some.injEq] at heq
    subst heq
    simp only [Option.some.injEq, Prod.mk.injEq] at e1
    obtain ⟨rfl, rfl, hx, hy⟩ := e1
    refine fin ?_
    simp [execOp, hx, hy, eqGuard, binOp, run_equal_slice_nil w t' d a n c hu, hp]
  · rename_i t' x y ty heq
    simp only [Option.some.injEq] at heq
    subst heq
    simp only [Option.some.injEq, Prod.mk.injEq] at e1
    obtain ⟨rfl, rfl, hx, hy⟩ := e1
    refine fin ?_
    simp [execOp, hx, hy, eqGuard, binOp, run_equal_slice_nil w t' d a n c hu, hp]
  · cases e1
end
theorem isNil_len {α : Type} [Dat α] {H : Heaplet} {l : List α} {v : Value} (h : RSl H l v) (hn : isNil v = true) : l = [] ∧ v = .slice none 0 0 := by
  obtain ⟨a, c, rfl, h1, h2, h3, h4⟩ := h.sl.val
  cases a with
  | none =>
    obtain ⟨e1, rfl⟩ := h3 rfl
    have : l = [] := List.eq_nil_of_length_eq_zero (by rw [← rows_length, e1]; rfl)
    subst this
    exact ⟨rfl, rfl⟩
  | some a => cases hn
end Kb
