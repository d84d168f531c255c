/- The rules of the engine. No program in sight. -/
import Derived.Test.YtmoekalfmahljaaHg
set_option linter.unusedVariables false
set_option linter.unusedSectionVars false
set_option linter.unusedSimpArgs false
namespace Kb
open Go
section
variable {P : Program} {E : Env P} {S : Stop} {t : St}
/-- a region, by its hints -/
theorem V.reg (hs : List (Hint P)) (hk : ∀ N ε, (S, (cxOf E S t hs N ε).R.check E.nt, hs.length, lhsAll (cxOf E S t hs N ε) hs 0) = (.reg S.rid S.ops S.dr S.K, true, S.ops.size, rhsAll (cxOf E S t hs N ε) hs 0))
    (k : ∀ N ε G, Knw ((cxOf E S t hs N ε).know G) → let S' := S.next; let t' := post (cxOf E S t hs N ε) G; V E S' t') : V E S t := fun N ε a w hin => by
  have h0 := hk N ε
  have e1 := congrArg (fun p : Stop × Bool × Nat × Prods hs => p.1) h0
  have e2 := congrArg (fun p : Stop × Bool × Nat × Prods hs => p.2.1) h0
  have e3 := congrArg (fun p : Stop × Bool × Nat × Prods hs => p.2.2.1) h0
  have e4 := congrArg (fun p : Stop × Bool × Nat × Prods hs => p.2.2.2) h0
  simp only at e1 e2 e3 e4
  have ok : (cxOf E S t hs N ε).Ok := ⟨e2, by show (hs.map (·.d)).length = _; rw [List.length_map]; exact e3, hin.new, hin.facts, hin.own⟩
  have hone : ∀ i, One (cxOf E S t hs N ε).R P E.w0 E.X i := fun i => by
    rcases Nat.lt_or_ge i S.ops.size with hi | hi
    · have hl : hs[i]? = some (hs[i]'(by rw [e3]; exact hi)) := List.getElem?_eq_getElem _
      refine (hs[i]'(by rw [e3]; exact hi)).sound (cxOf E S t hs N ε) i ok hi (by show (hs.map (·.d))[i]? = _; rw [List.getElem?_map, hl]; rfl) fun G g w => ?_
      have := all_get e4 i _ hl G g w
      rwa [Nat.zero_add] at this
    · intro o ho
      have : (cxOf E S t hs N ε).R.ops[i]? = none := Array.getElem?_eq_none hi
      rw [this] at ho; cases ho
  rw [e1]
  show (Code.region S.rid S.ops S.dr).wp P (run P E.Q S.K) a w
  refine RC.region (R := (cxOf E S t hs N ε).R) E.mo e2 hone hin.slots hin.st fun G a' w' d => ?_
  obtain ⟨h1, h2⟩ := post_in ok d
  exact norm_sound 200 (.inr .normal) S.K a' w' (k N ε G ⟨h2⟩ _ _ a' w' h1)
/-- what a condition says -/
def cval (t : St) : Operand → Option Value
  | .tmp s => t.sl.lookup s
  | .const v => some v
  | _ => none
theorem V.cond {b : Bool} {φ ψ : Prop} (hb : b = true ↔ φ) (hb' : b = false ↔ ψ) (hk : (S, cval t S.cn) = (.cond S.cn S.x S.y S.K, some (.bool b))) (k1 : φ → V E S.inX t) (k2 : ψ → V E S.inY t) : V E S t := fun N ε a w hin => by
  simp only [Prod.mk.injEq] at hk
  obtain ⟨e1, e2⟩ := hk
  rw [e1]
  have hv : a.eval S.cn = .bool b := by
    cases hc : S.cn with
    | tmp s =>
      rw [hc] at e2
      have := hin.slots.slot s _ e2
      simp [Act.eval, Array.getD_eq_getD_getElem?, this]
    | const v =>
      rw [hc] at e2
      simp only [cval, Option.some.injEq] at e2
      subst e2; rfl
    | _ => rw [hc] at e2; cases e2
  exact wp_cond_split hv (fun h => norm_sound 200 (.inl S.x) S.K a w (k1 (hb.1 h) N ε a w hin)) (fun h => norm_sound 200 (.inl S.y) S.K a w (k2 (hb'.1 h) N ε a w hin))
/-- the same, where the condition is known -/
theorem V.condT (hk : (S, cval t S.cn) = (.cond S.cn S.x S.y S.K, some (.bool true))) (k1 : V E S.inX t) : V E S t :=
  V.cond (φ := True) (ψ := False) (by simp) (by simp) hk (fun _ => k1) fun h => h.elim
theorem V.condF (hk : (S, cval t S.cn) = (.cond S.cn S.x S.y S.K, some (.bool false))) (k1 : V E S.inY t) : V E S t :=
  V.cond (φ := False) (ψ := True) (by simp) (by simp) hk (fun h => h.elim) fun _ => k1
/-! ### states that say less -/
def FP.drop (f : FP) : FP := { f with t := false }
theorem FP.drop_at {f : FP} {N K : Heaplet} (h : f.at N K) (hNK : Sub N K) : f.drop.at N K := by
  unfold FP.at at h
  cases e : f.t <;> rw [e] at h
  · exact h
  · exact f.m _ _ hNK h
theorem LE.drop_at {x : LE} {e : Ent} {N K : Heaplet} (h : x.at e N K) (hNK : Sub N K) : x.drop.at e N K := by
  cases x with
  | own t p m q hq =>
    cases t
    · exact h
    · exact m _ _ _ hNK h
  | _ => trivial
def matchF (x y : FP) : FP := bif y.t then x else x.drop
def matchL (x y : LE) : LE := match y with
  | .no => .no
  | .own false _ _ _ _ => x.drop
  | _ => x
def leSt (fi : List Nat) (t t' : St) : List (Option Value) × List (Option FP) × List LE × Nat × Nat :=
  (t'.sl.map (fun p => t.sl.lookup p.1), (fi.zip t'.F).map (fun p => (t.F[p.1]?).map fun x => matchF x p.2), (t.L.zip t'.L).map (fun p => matchL p.1 p.2), fi.length, t.L.length)
def leSt' (t' : St) : List (Option Value) × List (Option FP) × List LE × Nat × Nat :=
  (t'.sl.map (fun p => some p.2), t'.F.map some, t'.L, t'.F.length, t'.L.length)
theorem St.In.le {t t' : St} {nt : Nat} {w0 : World} {X : List Nat} {H N : Heaplet} {ε : Nat → Ent} {a : Act} {w : World} (h : t.In nt w0 X H N ε a w) {fi : List Nat} (hk : leSt fi t t' = leSt' t') : t'.In nt w0 X H N ε a w := by
  simp only [leSt, leSt', Prod.mk.injEq] at hk
  obtain ⟨h1, h2, h3, h4, h5⟩ := hk
  have hNK : Sub N (hun N H) := hun_left
  have hL : ∀ (r : Nat) (y : LE), t'.L[r]? = some y → ∃ x, t.L[r]? = some x ∧ y = matchL x y := fun r y hy => by
    have := congrArg (fun l : List LE => l[r]?) h3
    simp only [List.getElem?_map, hy] at this
    cases hz : (t.L.zip t'.L)[r]? with
    | none => rw [hz] at this; cases this
    | some p =>
      rw [hz] at this
      rw [List.getElem?_zip_eq_some] at hz
      rw [hy] at hz
      obtain ⟨z1, z2⟩ := hz
      simp only [Option.some.injEq] at z2
      simp only [Option.map_some, Option.some.injEq] at this
      rw [← z2] at this
      exact ⟨p.1, z1, this.symm⟩
  have hent : ∀ (x y : LE) (e : Ent) (p : Nat × Obj), y = matchL x y → y.ent e = some p → x.ent e = some p := fun x y e p hy hp => by
    rw [hy] at hp
    cases y with
    | no => cases hp
    | blk b arr T => exact hp
    | own t' q m r hr =>
      cases t'
      · simp only [matchL] at hp
        cases x <;> exact hp
      · exact hp
  have hents : ∀ (r b : Nat) (o : Obj), (ents t'.L ε)[r]? = some (some (b, o)) → (ents t.L ε)[r]? = some (some (b, o)) := fun r b o he => by
    rw [ents_get, Option.map_eq_some_iff] at he ⊢
    obtain ⟨y, hy, he⟩ := he
    obtain ⟨x, hx, hxy⟩ := hL r y hy
    exact ⟨x, hx, hent x y _ _ hxy he⟩
  refine ⟨h.slots.sub h1, ⟨h.st.base, h.st.agr, fun r b o he => h.st.ent r b o (hents _ _ _ he), fun r r' b o o' he he' => h.st.dis r r' b o o' (hents _ _ _ he) (hents _ _ _ he')⟩, h.new, fun f hf => ?_, fun r y hy => ?_⟩
  · obtain ⟨k, hk⟩ := List.getElem?_of_mem hf
    have := congrArg (fun l : List (Option FP) => l[k]?) h2
    simp only [List.getElem?_map, hk, Option.map_some] at this
    cases hz : (fi.zip t'.F)[k]? with
    | none => rw [hz] at this; cases this
    | some p =>
      rw [hz] at this
      rw [List.getElem?_zip_eq_some] at hz
      rw [hk] at hz
      obtain ⟨_, z2⟩ := hz
      simp only [Option.some.injEq] at z2
      simp only [Option.map_some, Option.some.injEq, Option.map_eq_some_iff] at this
      obtain ⟨x, hx, hxf⟩ := this
      rw [← z2] at hxf
      have hat := h.facts x (List.mem_of_getElem? hx)
      rw [← hxf]
      unfold matchF
      cases f.t
      · exact FP.drop_at hat hNK
      · exact hat
  · obtain ⟨x, hx, hxy⟩ := hL r y hy
    have hat := h.own r x hx
    rw [hxy]
    cases y with
    | no => trivial
    | blk b arr T => exact hat
    | own t' q m r' hr =>
      cases t'
      · exact LE.drop_at hat hNK
      · exact hat
theorem V.le {t' : St} (fi : List Nat) (hk : leSt fi t t' = leSt' t') (k : V E S t') : V E S t := fun N ε a w hin => k N ε a w (hin.le hk)
def St.know (t : St) : List Prop := t.F.map (·.q) ++ t.L.flatMap LE.lim
theorem St.In.know {nt : Nat} {w0 : World} {X : List Nat} {H N : Heaplet} {ε : Nat → Ent} {a : Act} {w : World} (h : t.In nt w0 X H N ε a w) : conjL t.know := conjL_of fun p hp => by
  rcases List.mem_append.1 hp with hp | hp
  · obtain ⟨f, hf, rfl⟩ := List.mem_map.1 hp
    exact FP.lim_of (h.facts f hf)
  · obtain ⟨x, hx, hp⟩ := List.mem_flatMap.1 hp
    obtain ⟨r, hr⟩ := List.getElem?_of_mem hx
    exact LE.lim_of (h.own r x hr) p hp
/-! ### loops, meeting places -/
/-- Z takes every state I g with F g and a lesser measure -/
def Takes {P : Program} {γ : Type} (E : Env P) (I : γ → St) (F : γ → Prop) (M : γ → Prop) (Z : Act → World → Prop) : Prop := ∀ g, F g → M g → ∀ N ε a w, (I g).In E.nt E.w0 E.X E.H N ε a w → Z a w
theorem loop_ghost {P : Program} {Q : Exit → Act → World → Prop} {c : Code} {a : Act} {w : World} {γ : Type} (I : γ → Act → World → Prop) (μ : γ → Nat) (g : γ) (h0 : I g a w)
    (round : ∀ g a w, I g a w → c.wp P (Exit.then (fun a' w' => ∃ g', I g' a' w' ∧ μ g' < μ g) Q) a w) : (Code.loop c).wp P Q a w := by
  classical
  let S : Act → World → Nat → Prop := fun a w n => ∃ g, I g a w ∧ μ g = n
  have least : ∀ a w, (∃ n, S a w n) → ∃ n, S a w n ∧ ∀ m, S a w m → n ≤ m := fun a w ⟨n, hn⟩ => by
    induction n using Nat.strongRecOn with
    | _ n ih =>
      by_cases h : ∃ m, m < n ∧ S a w m
      · obtain ⟨m, hm, hS⟩ := h
        exact ih m hm hS
      · exact ⟨n, hn, fun m hm => Nat.le_of_not_lt fun hlt => h ⟨m, hlt, hm⟩⟩
  let M : Act → World → Nat := fun a w => if h : ∃ n, S a w n then Classical.choose (least a w h) else 0
  refine wp_loop (fun a w => ∃ g, I g a w) M ⟨g, h0⟩ fun a w ⟨g, hg⟩ => ?_
  have hex : ∃ n, S a w n := ⟨μ g, g, hg, rfl⟩
  have hM : M a w = Classical.choose (least a w hex) := dif_pos hex
  obtain ⟨⟨g1, hg1, hm1⟩, _⟩ := Classical.choose_spec (least a w hex)
  refine Go.wp_mono (round g1 a w hg1) fun e a' w' hq => ?_
  cases e with
  | normal =>
    obtain ⟨g2, hg2, hlt⟩ := hq
    refine ⟨⟨g2, hg2⟩, ?_⟩
    have hex2 : ∃ n, S a' w' n := ⟨μ g2, g2, hg2, rfl⟩
    have hM2 : M a' w' = Classical.choose (least a' w' hex2) := dif_pos hex2
    have := (Classical.choose_spec (least a' w' hex2)).2 (μ g2) ⟨g2, hg2, rfl⟩
    rw [hM2, hM, ← hm1]
    omega
  | _ => exact hq
theorem V.loop {γ : Type} (I : γ → St) (F : γ → Prop) (μ : γ → Nat) (g : γ) (hk : S = .loop S.x S.K) (fi : List Nat) (h0 : leSt fi t (I g) = leSt' (I g)) (hF : F g)
    (round : ∀ g, F g → Knw (I g).know → ∀ Z, Takes E I F (fun g' => μ g' < μ g) Z → V E (norm 200 (.inl S.x) (.rnd Z :: S.K)) (I g)) : V E S t := fun N ε a w hin => by
  rw [hk]
  show (Code.loop S.x).wp P (run P E.Q S.K) a w
  have hin := hin.le h0
  refine loop_ghost (fun g a w => F g ∧ ∃ N ε, (I g).In E.nt E.w0 E.X E.H N ε a w) μ g ⟨hF, N, ε, hin⟩ fun g a w ⟨hF, N, ε, hin⟩ => ?_
  exact norm_sound 200 (.inl S.x) (.rnd (fun a' w' => ∃ g', (F g' ∧ ∃ N ε, (I g').In E.nt E.w0 E.X E.H N ε a' w') ∧ μ g' < μ g) :: S.K) a w (round g hF ⟨hin.know⟩ _ (fun g' hF' hm N ε a w h => ⟨g', ⟨hF', N, ε, h⟩, hm⟩) N ε a w hin)
def Stop.rz : Stop → Option (Act → World → Prop)
  | .rnd Z _ => some Z
  | _ => none
/-- the end of a round -/
theorem V.rnd {γ : Type} {I : γ → St} {F : γ → Prop} {M : γ → Prop} {Z : Act → World → Prop} (hZ : Takes E I F M Z) (g : γ) (fi : List Nat) (hk : (S.rz, leSt fi t (I g)) = (some Z, leSt' (I g))) (hF : F g) (hM : M g) : V E S t := fun N ε a w hin => by
  simp only [Prod.mk.injEq] at hk
  obtain ⟨e1, e2⟩ := hk
  cases S with
  | rnd Z' K =>
    simp only [Stop.rz, Option.some.injEq] at e1
    subst e1
    exact hZ g hF hM N ε a w (hin.le e2)
  | _ => cases e1
def Stop.withZ (Z : Act → World → Prop) : Stop → Stop
  | .reg i o d K => .reg i o d (.rnd Z :: K)
  | .cond c x y K => .cond c x y (.rnd Z :: K)
  | .loop b K => .loop b (.rnd Z :: K)
  | S => S
/-- a place where ways meet: what follows is shown once -/
theorem V.cut {γ : Type} (I : γ → St) (F : γ → Prop) (rest : ∀ g, F g → Knw (I g).know → V E S.next (I g)) (k : ∀ Z, Takes E I F (fun _ => True) Z → V E (S.withZ Z) t) : V E S t := fun N ε a w hin => by
  have h := k (fun a w => ∃ g N ε, F g ∧ (I g).In E.nt E.w0 E.X E.H N ε a w) (fun g hF _ N ε a w h => ⟨g, N, ε, hF, h⟩) N ε a w hin
  have key : ∀ (K : List Fr), S.next = norm 200 (.inr .normal) K → ∀ e a w, run P E.Q (.rnd (fun a w => ∃ g N ε, F g ∧ (I g).In E.nt E.w0 E.X E.H N ε a w) :: K) e a w → run P E.Q K e a w := fun K hK e a w hq => by
    cases e with
    | normal =>
      obtain ⟨g, N, ε, hF, hi⟩ := hq
      have := rest g hF ⟨hi.know⟩ N ε a w hi
      rw [hK] at this
      exact norm_sound 200 (.inr .normal) K a w this
    | _ => exact hq
  cases S with
  | reg i o d K => exact Go.wp_mono h (key K rfl)
  | cond c x y K => exact Go.wp_mono h (key K rfl)
  | loop b K => exact Go.wp_mono h (key K rfl)
  | _ => exact h
/-! ### the whole of a function -/
/-- what is asked at a function's end -/
def fnEnv {P : Program} (mo : P.follows .mixedOrders = true) (fn : Func) (nt : Nat) (w : World) (H : Heaplet) (olds : List Ent) (V : Rec → Value) (F' : Rec → List FP) (L' : Rec → List LE) (pu : Rec → List Prop) : Env P :=
  { nt, w0 := w, X := blks olds, H, Q := bodyPost P fn fun e w' => ∃ g, CPost w w' H olds V F' L' pu e g, mo }
theorem ents_more {ε : Nat → Ent} {L : List LE} {n r b : Nat} {o : Obj} (h : (ents (L ++ List.replicate n .no) ε)[r]? = some (some (b, o))) : (ents L ε)[r]? = some (some (b, o)) := by
  rw [ents_get, Option.map_eq_some_iff] at h ⊢
  obtain ⟨x, hx, he⟩ := h
  rw [List.getElem?_append] at hx
  split at hx
  · exact ⟨x, hx, he⟩
  · rw [List.getElem?_replicate] at hx
    split at hx
    · cases hx; cases he
    · cases hx
theorem W_calls {P : Program} {f : FuncId} {fn : Func} {c : Code} {args : Array Value} {w : World} {R : Ending → World → Prop} (hf : P.funcs[f]? = some fn) (hb : fn.body = some c) (nt : Nat) (hnt : (args ++ Array.replicate (fn.ntmps - args.size) undef).size = nt)
    (h : ∀ a, SlotsOK nt (args.toList.zipIdx.map fun p => (p.2, p.1)) a → c.wp P (bodyPost P fn R) a w) : Calls P f args w R := by
  refine calls_of_wp hf hb (h _ ⟨rfl, hnt, fun s v hv => ?_⟩)
  have key : ∀ (l : List Value) (k : Nat), ((l.zipIdx k).map fun p => (p.2, p.1)).lookup s = some v → k ≤ s ∧ l[s - k]? = some v := by
    intro l
    induction l with
    | nil => intro k h; cases h
    | cons x l ih =>
      intro k h
      simp only [List.zipIdx_cons, List.map_cons, List.lookup_cons] at h
      by_cases e : s = k
      · subst e; simp at h; simp [h]
      · have e' : (s == k) = false := by simpa using e
        rw [e'] at h
        obtain ⟨h1, h2⟩ := ih (k + 1) h
        refine ⟨by omega, ?_⟩
        rw [show s - k = (s - (k + 1)) + 1 from by omega]
        simpa using h2
  have := (key args.toList 0 hv).2
  simp only [Nat.sub_zero, Array.getElem?_toList] at this
  have hlt := (Array.getElem?_eq_some_iff.1 this).1
  rw [Array.getElem?_append_left hlt]; exact this
theorem V.fn {f : FuncId} {args : Array Value} {F : List FP} {L : List LE} {V' : Rec → Value} {F' : Rec → List FP} {L' : Rec → List LE} {pu : Rec → List Prop} (mo : P.follows .mixedOrders = true) {fn : Func} (hf : P.funcs[f]? = some fn) (nt n : Nat)
    (hk : (fn.body.isSome, (args ++ Array.replicate (fn.ntmps - args.size) undef).size) = (true, nt))
    (h : ∀ w H ε, Knw (F.map (·.q) ++ L.flatMap LE.lim) → V (fnEnv mo fn nt w H (ents L ε) V' F' L' pu) (norm 200 (.inl (body fn)) []) ⟨args.toList.zipIdx.map fun p => (p.2, p.1), F.map FP.drop, L.map LE.drop ++ List.replicate n .no⟩) : Ct P f args F L V' F' L' pu := fun w H ε hA hF hst hown => by
  simp only [Prod.mk.injEq] at hk
  obtain ⟨hb, hnt⟩ := hk
  have hb' : fn.body = some (body fn) := by
    unfold body
    cases hc : fn.body with
    | none => rw [hc] at hb; cases hb
    | some c => rfl
  have hlim : conjL (F.map (·.q) ++ L.flatMap LE.lim) := conjL_of fun p hp => by
    rcases List.mem_append.1 hp with hp | hp
    · obtain ⟨q, hq, rfl⟩ := List.mem_map.1 hp
      exact q.hq _ (hF q hq)
    · obtain ⟨x, hx, hp⟩ := List.mem_flatMap.1 hp
      obtain ⟨r, hr⟩ := List.getElem?_of_mem hx
      exact LE.lim_of (hown r x hr) p hp
  have hV := h w H ε ⟨hlim⟩
  have eH : hun (fun _ => none) H = H := rfl
  have hdr : ∀ (x : LE) e, x.drop.ent e = x.ent e := fun x e => by cases x <;> rfl
  have hent : ∀ (r b : Nat) (o : Obj), (ents (L.map LE.drop ++ List.replicate n .no) ε)[r]? = some (some (b, o)) → (ents L ε)[r]? = some (some (b, o)) := fun r b o he => by
    have := ents_more he
    rw [ents_get, List.getElem?_map, Option.map_eq_some_iff] at this
    obtain ⟨x, hx, he⟩ := this
    obtain ⟨y, hy, rfl⟩ := Option.map_eq_some_iff.1 hx
    rw [ents_get, hy]
    rw [hdr] at he
    simp [he]
  refine W_calls hf hb' nt hnt fun a hs => ?_
  refine norm_sound 200 (.inl (body fn)) [] a w (hV (fun _ => none) ε a w ⟨hs, ⟨hst.base, hst.agr, fun r b o he => hst.ent r b o (hent _ _ _ he), fun r r' b o o' he he' => hst.dis r r' b o o' (hent _ _ _ he) (hent _ _ _ he')⟩, new_none, fun q hq => ?_, fun r x hx => ?_⟩)
  · obtain ⟨q', hq', rfl⟩ := List.mem_map.1 hq
    exact hF q' hq'
  · rw [List.getElem?_append] at hx
    split at hx
    · rw [List.getElem?_map] at hx
      obtain ⟨y, hy, rfl⟩ := Option.map_eq_some_iff.1 hx
      have := hown r y hy
      cases y with
      | own t p m q hq => cases t <;> exact this
      | _ => trivial
    · rw [List.getElem?_replicate] at hx
      split at hx
      · cases hx; trivial
      · cases hx
/-- one result -/
def resV (P : Program) (t : St) : ResultVar × Nat → Value
  | (.tmp s, _) => (t.sl.lookup s).getD undef
  | (.cell s T, r) => wrapT P T ((List.range ((sizeT P T).getD 0)).map fun j => (entA (((t.L[r]?).getD .no).ent none)).getD ((addrOf ((t.sl.lookup s).getD undef)).off + j) undef)
def resC (P : Program) (t : St) : ResultVar × Nat → Option Value × Bool × Bool × Ent
  | (.tmp s, _) => (t.sl.lookup s, true, true, none)
  | (.cell s T, r) => (t.sl.lookup s, (P.underlying T).isSome && (sizeT P T).isSome && (aggB P T || (sizeT P T).getD 0 == 1), decide ((addrOf ((t.sl.lookup s).getD undef)).off + (sizeT P T).getD 0 ≤ (entA (((t.L[r]?).getD .no).ent none)).size), ((t.L[r]?).getD .no).ent none)
def resC' (P : Program) (t : St) : ResultVar × Nat → Option Value × Bool × Bool × Ent
  | (.tmp s, r) => (some (resV P t (.tmp s, r)), true, true, none)
  | (.cell s _, r) => (some (.pointer (some ⟨entB (((t.L[r]?).getD .no).ent none), (addrOf ((t.sl.lookup s).getD undef)).off, none⟩)), true, true, some (entB (((t.L[r]?).getD .no).ent none), .cells (entA (((t.L[r]?).getD .no).ent none)) (entT (((t.L[r]?).getD .no).ent none))))
def tupV : List Value → Value
  | [v] => v
  | vs => .tuple vs.toArray
def Stop.isEnd : Stop → Bool
  | .fin .ret => true
  | .fin .normal => true
  | _ => false
theorem res_run {w : World} {nt : Nat} {w0 : World} {X : List Nat} {H N : Heaplet} {ε : Nat → Ent} {a : Act} (hin : t.In nt w0 X H N ε a w) {p : ResultVar × Nat} (h : resC P t p = resC' P t p) : (resOf a.tmps p.1).run P w = .ok (resV P t p) w := by
  obtain ⟨rv, r⟩ := p
  cases rv with
  | tmp s =>
    simp only [resC, resC', Prod.mk.injEq] at h
    exact res_tmp h.1 hin.slots
  | cell s T =>
    simp only [resC, resC', Prod.mk.injEq, Bool.and_eq_true] at h
    obtain ⟨h1, ⟨⟨h2, h3⟩, h4⟩, h5, h6⟩ := h
    obtain ⟨n, hn⟩ := Option.isSome_iff_exists.1 h3
    rw [hn] at h4 h5
    simp only [Option.getD_some] at h4 h5
    have he : (ents t.L ε)[r]? = some (some (entB (((t.L[r]?).getD .no).ent none), .cells (entA (((t.L[r]?).getD .no).ent none)) (entT (((t.L[r]?).getD .no).ent none)))) := by
      rw [ents_get]
      cases hr : t.L[r]? with
      | none => rw [hr] at h6; cases h6
      | some x =>
        cases x with
        | blk b arr T' => rfl
        | _ => rw [hr] at h6; cases h6
    have hb := (hin.st.ent r _ _ he).1
    have hp := slot_getD h1 hin.slots
    have h5 := of_decide_eq_true h5
    have hl := loadVar_run (P := P) (w := w) (t := T) (a := ⟨entB (((t.L[r]?).getD .no).ent none), (addrOf ((t.sl.lookup s).getD undef)).off, none⟩) (vs := (List.range n).map fun j => (entA (((t.L[r]?).getD .no).ent none)).getD ((addrOf ((t.sl.lookup s).getD undef)).off + j) undef) h2 (by simpa using hn) (fun hb => by rw [hb] at h4; simpa using h4) fun j v hj => by
      simp only [List.getElem?_map, Option.map_eq_some_iff] at hj
      obtain ⟨k, hk, rfl⟩ := hj
      obtain ⟨hlt, rfl⟩ := List.getElem?_eq_some_iff.1 hk
      simp only [List.length_range] at hlt
      simp only [List.getElem_range]
      rw [add_eq rfl]
      have : (addrOf ((t.sl.lookup s).getD undef)).off + j < (entA (((t.L[r]?).getD .no).ent none)).size := by omega
      simp [World.cell?, hb, this]
    show (do loadVar T (← asAddr (a.tmps.getD s undef)) : Sem Value).run P w = _
    rw [hp]
    simp only [resV, hn, Option.getD_some]
    simp [asAddr, hl]
/-- a function's end -/
theorem V.ret {mo : P.follows .mixedOrders = true} {fn : Func} {nt : Nat} {w0 : World} {H : Heaplet} {olds : List Ent} {V' : Rec → Value} {F' : Rec → List FP} {L' : Rec → List LE} {pu : Rec → List Prop} (rr : List Nat) (ss : List SV) (sls : List (Nat → SV)) (bs : List Nat) (fi li : List Nat) (v : Value)
    (hk : ∀ N es, (S.isEnd, fn.results.size == rr.length, (fn.results.toList.zip rr).map (resC P t), tupV ((fn.results.toList.zip rr).map (resV P t)), fi.length, (fi.zip (F' { H := N, ss := fun k => ss.getD k {}, sl := fun k => sls.getD k (fun _ => {}), bs := fun k => bs.getD k 0, es := es })).map (fun p => (t.F[p.1]?).map fun x => matchF x p.2), nodup li, li.length, (li.zip (L' { H := N, ss := fun k => ss.getD k {}, sl := fun k => sls.getD k (fun _ => {}), bs := fun k => bs.getD k 0, es := es })).map (fun p => (t.L[p.1]?).map fun x => matchL x p.2)) =
      (true, true, (fn.results.toList.zip rr).map (resC' P t), v, (F' { H := N, ss := fun k => ss.getD k {}, sl := fun k => sls.getD k (fun _ => {}), bs := fun k => bs.getD k 0, es := es }).length, (F' { H := N, ss := fun k => ss.getD k {}, sl := fun k => sls.getD k (fun _ => {}), bs := fun k => bs.getD k 0, es := es }).map some, true, (L' { H := N, ss := fun k => ss.getD k {}, sl := fun k => sls.getD k (fun _ => {}), bs := fun k => bs.getD k 0, es := es }).length, (L' { H := N, ss := fun k => ss.getD k {}, sl := fun k => sls.getD k (fun _ => {}), bs := fun k => bs.getD k 0, es := es }).map some))
    (hv : ∀ N es, v = V' { H := N, ss := fun k => ss.getD k {}, sl := fun k => sls.getD k (fun _ => {}), bs := fun k => bs.getD k 0, es := es }) (hp : ∀ N es, conjL (pu { H := N, ss := fun k => ss.getD k {}, sl := fun k => sls.getD k (fun _ => {}), bs := fun k => bs.getD k 0, es := es })) : V (fnEnv mo fn nt w0 H olds V' F' L' pu) S t := fun N ε a w hin => by
  have h0 := hk N fun k => ε (li.getD k 0)
  have hv := hv N fun k => ε (li.getD k 0)
  have hp := hp N fun k => ε (li.getD k 0)
  generalize hg : ({ H := N, ss := fun k => ss.getD k {}, sl := fun k => sls.getD k (fun _ => {}), bs := fun k => bs.getD k 0, es := fun k => ε (li.getD k 0) } : Rec) = g at h0 hv hp
  have gH : g.H = N := by rw [← hg]
  have gE : g.es = fun k => ε (li.getD k 0) := by rw [← hg]
  simp only [Prod.mk.injEq, beq_iff_eq] at h0
  obtain ⟨e1, e2, e3, e4, e5, e6, e7, e8, e9⟩ := h0
  have hNK : Sub N (hun N H) := hun_left
  have hK : Agrees w (hun N H) := hin.st.agr _ (by simp [fnEnv])
  have hLk : ∀ (k : Nat) (y : LE), (L' g)[k]? = some y → ∃ x, t.L[li.getD k 0]? = some x ∧ y = matchL x y ∧ li[k]? = some (li.getD k 0) := fun k y hy => by
    have := congrArg (fun l : List (Option LE) => l[k]?) e9
    simp only [List.getElem?_map, hy, Option.map_some] at this
    cases hz : (li.zip (L' g))[k]? with
    | none => rw [hz] at this; cases this
    | some p =>
      rw [hz] at this
      rw [List.getElem?_zip_eq_some] at hz
      obtain ⟨z1, z2⟩ := hz
      rw [hy] at z2
      simp only [Option.some.injEq] at z2
      simp only [Option.map_some, Option.some.injEq, Option.map_eq_some_iff] at this
      obtain ⟨x, hx, hxy⟩ := this
      rw [← z2] at hxy
      have : li.getD k 0 = p.1 := by rw [List.getD_eq_getElem?_getD, z1]; rfl
      rw [this]
      exact ⟨x, hx, hxy.symm, z1⟩
  have hent : ∀ (x y : LE) (e : Ent) (p : Nat × Obj), y = matchL x y → y.ent e = some p → x.ent e = some p := fun x y e p hy hp => by
    rw [hy] at hp
    cases y with
    | no => cases hp
    | blk b arr T => exact hp
    | own t' q m r hr =>
      cases t'
      · simp only [matchL] at hp
        cases x <;> exact hp
      · exact hp
  have hents : ∀ (k b : Nat) (o : Obj), (ents (L' g) g.es)[k]? = some (some (b, o)) → (ents t.L ε)[li.getD k 0]? = some (some (b, o)) ∧ li[k]? = some (li.getD k 0) := fun k b o he => by
    rw [ents_get, Option.map_eq_some_iff] at he
    obtain ⟨y, hy, he⟩ := he
    obtain ⟨x, hx, hxy, hl⟩ := hLk k y hy
    rw [gE] at he
    refine ⟨?_, hl⟩
    rw [ents_get, hx, Option.map_some, hent x y _ _ hxy he]
  have hall : All2 (fun r v => (resOf a.tmps r).run P w = .ok v w) fn.results.toList ((fn.results.toList.zip rr).map (resV P t)) := by
    have : ∀ (rs : List ResultVar) (rr : List Nat), rs.length = rr.length → ((rs.zip rr).map (resC P t) = (rs.zip rr).map (resC' P t)) → All2 (fun r v => (resOf a.tmps r).run P w = .ok v w) rs ((rs.zip rr).map (resV P t)) := by
      intro rs
      induction rs with
      | nil => intro rr _ _; cases rr <;> trivial
      | cons r rs ih =>
        intro rr hl he
        cases rr with
        | nil => cases hl
        | cons k rr =>
          simp only [List.zip_cons_cons, List.map_cons, List.cons.injEq] at he ⊢
          exact ⟨res_run hin he.1, ih rr (by simpa using hl) he.2⟩
    exact this _ _ (by simpa using e2) e3
  have hres : (results fn a.tmps).run P w = .ok v w := by
    rw [← e4]
    obtain ⟨rs, hrs⟩ : ∃ rs : List ResultVar, fn.results = rs.toArray := ⟨fn.results.toList, by simp⟩
    rw [hrs] at hall ⊢
    simp only [List.toList_toArray] at hall ⊢
    match rs, (rs.zip rr).map (resV P t), hall, hrs with
    | [r], [u], h, hrs => exact results_one hrs h.1
    | [], [], h, hrs => exact results_many hrs (by simp) h
    | r :: r' :: rs, u :: u' :: us, h, hrs => exact results_many hrs (by simp) h
  have fin : bodyPost P fn (fun e w' => ∃ g, CPost w0 w' H olds V' F' L' pu e g) .ret a w := by
    refine ⟨hin.slots.defers, v, hres, g, ⟨by rw [hv], hin.st.base, ?_, ?_, fun f hf => ?_, fun k b o he => ?_, fun k l b o o' h1 h2 => ?_, fun k y hy => ?_, hp⟩⟩
    · rw [gH]; exact hNK.trans hK
    · rw [gH]; exact hin.new
    · rw [gH]
      obtain ⟨k, hk⟩ := List.getElem?_of_mem hf
      have := congrArg (fun l : List (Option FP) => l[k]?) e6
      simp only [List.getElem?_map, hk, Option.map_some] at this
      cases hz : (fi.zip (F' g))[k]? with
      | none => rw [hz] at this; cases this
      | some p =>
        rw [hz] at this
        rw [List.getElem?_zip_eq_some] at hz
        rw [hk] at hz
        obtain ⟨_, z2⟩ := hz
        simp only [Option.some.injEq] at z2
        simp only [Option.map_some, Option.some.injEq, Option.map_eq_some_iff] at this
        obtain ⟨x, hx, hxf⟩ := this
        rw [← z2] at hxf
        have hat := hin.facts x (List.mem_of_getElem? hx)
        rw [← hxf]
        unfold matchF
        cases f.t
        · exact FP.drop_at hat hNK
        · exact hat
    · obtain ⟨h1, _⟩ := hents k b o he
      obtain ⟨b1, b2, b3⟩ := hin.st.ent _ b o h1
      refine ⟨b1, b2, ?_⟩
      rw [gH]
      have := b3 (hun N H) (by simp [fnEnv])
      unfold hun at this
      cases hN : N b with
      | none => rfl
      | some o' => rw [hN] at this; cases this
    · obtain ⟨a1, c1⟩ := hents k b o h1
      obtain ⟨a2, c2⟩ := hents l b o' h2
      have := hin.st.dis _ _ b o o' a1 a2
      rw [this] at c1
      exact nodup_inj e7 c1 c2
    · obtain ⟨x, hx, hxy, _⟩ := hLk k y hy
      have hat := hin.own _ x hx
      rw [gH, gE, hxy]
      cases y with
      | no => trivial
      | blk b arr T => exact hat
      | own t' q m r' hr =>
        cases t'
        · exact LE.drop_at hat hNK
        · exact hat
  cases S with
  | fin e =>
    cases e with
    | ret => exact fin
    | normal => exact fin
    | _ => cases e1
  | _ => cases e1
end
end Kb
