/- Short words, entries that change their kind, equality of structs. No program in sight. -/
import Derived.Test.YtmoekalfmahljaaHh
import Derived.Laws.Cover3
set_option linter.unusedVariables false
set_option linter.unusedSectionVars false
set_option linter.unusedSimpArgs false
namespace Kb
open Go
abbrev iv (n : Int) : Value := .int .i64 n
abbrev bv (b : Bool) : Value := .bool b
abbrev tv (s : ByteArray) : Value := .string s
def ca {α : Type} [Dat α] (x : α) : Array Value := (Dat.cells x).toArray
def ag {α : Type} [Dat α] (x : α) : Value := .agg (ca x)
abbrev pp (b off : Nat) : Value := .pointer (some ⟨b, off, none⟩)
theorem nm {α : Type _} {p : Prop} (e : α) (k : ∀ x, x = e → p) : p := k e rfl
theorem kn {l : List Prop} {b : Prop} (h : Knw l) (e : conjL l = b) : b := e ▸ h.h
theorem iQT {a b : Bool} {P Q : Prop} (h : a = true ↔ P) (k : b = true ↔ Q) : (a == b) = true ↔ (P ↔ Q) := by rw [beq_iff_eq, Bool.eq_iff_iff, h, k]
theorem iQF {a b : Bool} {P Q : Prop} (h : a = true ↔ P) (k : b = true ↔ Q) : (a == b) = false ↔ ¬ (P ↔ Q) := by rw [← Bool.not_eq_true, iQT h k]
theorem iTT : true = true ↔ True := by simp
theorem iTF : true = false ↔ False := by simp
theorem iFT : false = true ↔ False := by simp
theorem iFF : false = false ↔ True := by simp
section
variable {P : Program} {E : Env P} {S : Stop} {t : St}
theorem set_get {L : List LE} {r k : Nat} {x y : LE} (hy : (L.set r x)[k]? = some y) : (k = r ∧ y = x) ∨ (k ≠ r ∧ L[k]? = some y) := by
  by_cases e : r = k
  · subst e
    have := (List.getElem?_eq_some_iff.1 hy).1
    rw [List.length_set] at this
    rw [List.getElem?_set_self this] at hy
    exact .inl ⟨rfl, (Option.some.inj hy).symm⟩
  · rw [List.getElem?_set_ne e] at hy; exact .inr ⟨fun h => e h.symm, hy⟩
/-- a free entry becomes an owned slice: nil -/
theorem V.on {α : Type} [Dat α] (r : Nat) (T : TypeId) (hr : t.L[r]? = some .no) (k : V E S ⟨t.sl, t.F, t.L.set r (os true T ([] : List α) {})⟩) : V E S t := fun N ε a w hin => by
  let ε' : Nat → Ent := fun j => if j = r then none else ε j
  have hne : ∀ j, j ≠ r → ε' j = ε j := fun j hj => if_neg hj
  have her : ε' r = none := if_pos rfl
  have hents : ∀ (j b : Nat) (o : Obj), (ents (t.L.set r (os true T ([] : List α) {})) ε')[j]? = some (some (b, o)) → (ents t.L ε)[j]? = some (some (b, o)) := fun j b o h => by
    rw [ents_get, Option.map_eq_some_iff] at h
    obtain ⟨y, hy, he⟩ := h
    rcases set_get hy with ⟨rfl, rfl⟩ | ⟨hj, hy⟩
    · rw [her] at he; cases he
    · rw [ents_get, hy, ← he, hne j hj]; rfl
  refine k N ε' a w ⟨hin.slots, ⟨hin.st.base, hin.st.agr, fun j b o h => hin.st.ent j b o (hents j b o h), fun j j' b o o' h h' => hin.st.dis j j' b o o' (hents _ _ _ h) (hents _ _ _ h')⟩, hin.new, hin.facts, fun j y hy => ?_⟩
  rcases set_get hy with ⟨rfl, rfl⟩ | ⟨hj, hy⟩
  · rw [her]
    show OSl T N ([] : List α) (.slice none 0 0) none
    exact OSl.nil
  · rw [hne j hj]; exact hin.own j y hy
/-- an owned slice is only read from here on -/
theorem V.frz {α : Type} [Dat α] (r : Nat) (b : Bool) (T : TypeId) (l : List α) (s : SV) (hr : (t.L[r]?, E.X) = (some (os b T l s), [])) (k : V E S ⟨t.sl, t.F ++ [fs b l s], t.L.set r .no⟩) : V E S t := fun N ε a w hin => by
  simp only [Prod.mk.injEq] at hr
  obtain ⟨hr, hX⟩ := hr
  have hown := hin.own r _ hr
  have he : (ents t.L ε)[r]? = some (ε r) := by rw [ents_get, hr]; rfl
  have hK : Agrees w (hun N E.H) := hin.st.agr _ (by simp)
  have hE : Agrees w (entH (ε r)) := entH_agrees fun b o hb => (hin.st.ent r b o (by rw [he, hb])).1
  have s1 : Sub N (hun (entH (ε r)) N) := hun_right' (U := whole w) hE (hun_left.trans hK)
  have eK : hun (hun (entH (ε r)) N) E.H = hun (entH (ε r)) (hun N E.H) := hun_assoc _ _ _
  have s2 : Sub (hun N E.H) (hun (hun (entH (ε r)) N) E.H) := by rw [eK]; exact hun_right' (U := whole w) hE hK
  have hents : ∀ (j b : Nat) (o : Obj), (ents (t.L.set r .no) ε)[j]? = some (some (b, o)) → j ≠ r ∧ (ents t.L ε)[j]? = some (some (b, o)) := fun j b o h => by
    rw [ents_get, Option.map_eq_some_iff] at h
    obtain ⟨y, hy, he⟩ := h
    rcases set_get hy with ⟨rfl, rfl⟩ | ⟨hj, hy⟩
    · cases he
    · exact ⟨hj, by rw [ents_get, hy, ← he]; rfl⟩
  refine k (hun (entH (ε r)) N) ε a w ⟨hin.slots, ⟨hin.st.base, fun K hk => ?_, fun j b o h => ?_, fun j j' b o o' h h' => hin.st.dis j j' b o o' (hents _ _ _ h).2 (hents _ _ _ h').2⟩, fun b hb => ?_, fun f hf => ?_, fun j y hy => ?_⟩
  · have : K = hun (hun (entH (ε r)) N) E.H := by simpa using hk
    subst this
    rw [eK]; exact hun_agrees hE hK
  · obtain ⟨hj, h⟩ := hents j b o h
    obtain ⟨h1, h2, h3⟩ := hin.st.ent j b o h
    refine ⟨h1, h2, fun K hk => ?_⟩
    have : K = hun (hun (entH (ε r)) N) E.H := by simpa using hk
    subst this
    rw [eK]
    have hn : entH (ε r) b = none := by
      cases hh : entH (ε r) b with
      | none => rfl
      | some o' =>
        exfalso
        unfold entH at hh
        cases hp : ε r with
        | none => rw [hp] at hh; cases hh
        | some p =>
          rw [hp] at hh
          simp only at hh
          split at hh
          · rename_i hb; subst hb
            exact hj (hin.st.dis j r p.1 o p.2 h (by rw [he, hp]))
          · cases hh
    simp only [hun, hn]
    exact h3 (hun N E.H) (by simp)
  · cases hh : entH (ε r) b with
    | none =>
      simp only [hun, hh] at hb
      exact hin.new b hb
    | some o' =>
      unfold entH at hh
      cases hp : ε r with
      | none => rw [hp] at hh; cases hh
      | some p =>
        rw [hp] at hh
        simp only at hh
        split at hh
        · rename_i hb'; subst hb'
          rcases (hin.st.ent r p.1 p.2 (by rw [he, hp])).2.1 with h1 | h1
          · exact h1
          · rw [hX] at h1; cases h1
        · cases hh
  · rcases List.mem_append.1 hf with hf | hf
    · exact FP.mono (hin.facts f hf) s1 s2
    · have : f = fs b l s := by simpa using hf
      subst this
      have key : ∀ J J' : Heaplet, Sub J J' → Sub (entH (ε r)) J' → OSl T J l s.v (ε r) → RSl J' l s.v := fun J J' h1 h2 h => h.frozen h1 h2
      unfold os ow LE.at at hown
      show bif b then RSl _ l _ else RSl _ l _
      cases b
      · exact key _ _ s2 (by rw [eK]; exact hun_left) hown
      · exact key _ _ s1 hun_left hown
  · rcases set_get hy with ⟨rfl, rfl⟩ | ⟨hj, hy⟩
    · trivial
    · exact LE.mono (hin.own j y hy) s1 s2
end
/-- a good datum, as a fact -/
def gf {α : Type} [Dat α] (b : Bool) (x : α) : FP := ⟨b, fun H => Dat.good H x, fun _ _ k h => Dat.mono _ _ _ k h, Dat.q x, fun H h => Dat.hq H x h⟩
/-- a region, where nothing but the state is wanted behind it -/
theorem V.go {P : Program} {E : Env P} {S : Stop} {t : St} (hs : List (Hint P)) (hk : ∀ N ε, (S, (cxOf E S t hs N ε).R.check E.nt, hs.length, lhsAll (cxOf E S t hs N ε) hs 0) = (.reg S.rid S.ops S.dr S.K, true, S.ops.size, rhsAll (cxOf E S t hs N ε) hs 0))
    (k : ∀ N ε G, let S' := S.next; let t' := post (cxOf E S t hs N ε) G; V E S' t') : V E S t := V.reg hs hk fun N ε G _ => k N ε G
/-- the state, said otherwise -/
theorem V.alt {P : Program} {E : Env P} {S : Stop} {t : St} {α : Type} (F : α → St) {a b : α} (h : a = b) (fi : List Nat) (hk : leSt fi t (F a) = leSt' (F a)) (k : V E S (F b)) : V E S t := by
  subst h; exact V.le fi hk k
/-- nil can be read -/
theorem V.nilF {P : Program} {E : Env P} {S : Stop} {t : St} {α : Type} [Dat α] (k : V E S ⟨t.sl, t.F ++ [fs true ([] : List α) {}], t.L⟩) : V E S t := fun N ε a w hin => k N ε a w ⟨hin.slots, hin.st, hin.new, fun f hf => by
  rcases List.mem_append.1 hf with hf | hf
  · exact hin.facts f hf
  · have : f = fs true ([] : List α) {} := by simpa using hf
    subst this
    show RSl N ([] : List α) (.slice none 0 0)
    exact RSl.nil, hin.own⟩
/-- a loop, one round written out -/
theorem V.unroll {P : Program} {E : Env P} {S : Stop} {t : St} (n : Nat) (hk : S = .loop S.x S.K) (k : V E (norm 200 (.inl S.x) (.rndN S.x n :: S.K)) t) : V E S t := fun N ε a w hin => by
  rw [hk]
  exact wp_loop_rounds (n + 1) (norm_sound 200 (.inl S.x) (.rndN S.x n :: S.K) a w (k N ε a w hin))
theorem V.again {P : Program} {E : Env P} {S : Stop} {t : St} (n : Nat) (hk : S = .rndN S.x (n + 1) S.K) (k : V E (norm 200 (.inl S.x) (.rndN S.x n :: S.K)) t) : V E S t := fun N ε a w hin => by
  rw [hk]
  exact norm_sound 200 (.inl S.x) (.rndN S.x n :: S.K) a w (k N ε a w hin)
namespace Hint
variable {P : Program}
def mn (x y : Int) : Hint P := e g0 (.int .i64 (if y < x then y else x)) (.int .i64 (min x y)) fun _ => by rw [min_if]
def mx (x y : Int) : Hint P := e g0 (.int .i64 (if y > x then y else x)) (.int .i64 (max x y)) fun _ => by rw [max_if]
/-- numbers, without a name -/
def a (t : Int) (lo : -9223372036854775808 ≤ t) (hi : t ≤ 9223372036854775807) : Hint P := ar t t rfl lo hi
def ag' {g : Prop} (Γ : GdI g) (t : Int) (h : g → -9223372036854775808 ≤ t ∧ t ≤ 9223372036854775807) : Hint P := arg Γ t t rfl h
def ng (x n : Int) (hn : n = -x) (lo : -9223372036854775808 ≤ n) (hi : n ≤ 9223372036854775807) : Hint P := ar (0 - x) n (by omega) lo hi
/-- a Boolean that gets a name -/
def andn {g : Prop} (Γ : GdI g) (u : Bool) (b1 b2 b : Bool) (hb : b = (b1 && b2)) : Hint P where
  d := { val := fun _ => .bool b }
  τ := Option (Value × Value × Value) × Value × Option Bool
  lhs c i G _ _ := (c.R.pkr G i, c.R.val i (RC.put G i {}), Γ.B.map fun _ => c.R.gd G i)
  rhs _ _ _ _ _ := (some (.bool b1, (bif u then .bool b2 else bif (Γ.B.getD true && (b1 == true)) then .bool b2 else undef), .bool false), .bool b, Γ.B)
  sound c i ok hi h := by
    subst hb
    exact (and Γ u b1 b2).sound c i ok hi h
def orn {g : Prop} (Γ : GdI g) (u : Bool) (b1 b2 b : Bool) (hb : b = (b1 || b2)) : Hint P where
  d := { val := fun _ => .bool b }
  τ := Option (Value × Value × Value) × Value × Option Bool
  lhs c i G _ _ := (c.R.pkr G i, c.R.val i (RC.put G i {}), Γ.B.map fun _ => c.R.gd G i)
  rhs _ _ _ _ _ := (some (.bool b1, .bool true, (bif u then .bool b2 else bif (Γ.B.getD true && (b1 == false)) then .bool b2 else undef)), .bool b, Γ.B)
  sound c i ok hi h := by
    subst hb
    exact (or Γ u b1 b2).sound c i ok hi h
/-- texts that are equal, or not -/
def seq (a b : ByteArray) : Hint P := e g0 (.bool (a.toList == b.toList)) (.bool (decide (a = b))) fun _ => by rw [toList_bytes]
def sne (a b : ByteArray) : Hint P := e g0 (.bool (!(a.toList == b.toList))) (.bool (!(decide (a = b)))) fun _ => by rw [toList_bytes]
/-- structs that are equal, or not -/
def aeq (neq : Bool) (t : TypeId) (xs ys : Array Value) (b : Bool) (he : ∀ w, (Op.equal t (.agg xs) (.agg ys)).run P w = .ok b w) : Hint P where
  d := { val := fun _ => .bool (bif neq then !b else b) }
  τ := Option (Bool × TypeId × Value × Value) × Bool × Value
  lhs c i G _ _ := (c.R.bir G i, P.eqGuardType P.depth t, c.R.val i (RC.put G i {}))
  rhs _ _ _ _ _ := (some (neq, t, .agg xs, .agg ys), false, .bool (bif neq then !b else b))
  sound c i _ _ hi h := fun o ho G w hs => by
    have h0 := h G {} w
    simp only [Prod.mk.injEq] at h0
    obtain ⟨e1, e2, e3⟩ := h0
    refine Cx.still hi rfl (fun _ => ⟨rfl, rfl⟩) ho ?_ e3
    unfold RC.bir at e1
    rw [ho] at e1
    obtain ⟨dst, op, type, pos, after, guard⟩ := o
    have he' : ∀ w, (Op.equalIn 10000 t (.agg xs) (.agg ys)).run P w = .ok b w := he
    simp only [Option.map_some] at e1
    split at e1
    · rename_i t' x y ty heq
      simp only [Option.some.injEq] at heq
      subst heq
      simp only [Option.some.injEq, Prod.mk.injEq] at e1
      obtain ⟨rfl, rfl, hx, hy⟩ := e1
      simp [execOp, hx, hy, run_eqGuard_agg w .eql t' x y xs ys e2, run_eql_struct, he']
    · rename_i t' x y ty heq
      simp only [Option.some.injEq] at heq
      subst heq
      simp only [Option.some.injEq, Prod.mk.injEq] at e1
      obtain ⟨rfl, rfl, hx, hy⟩ := e1
      simp [execOp, hx, hy, run_eqGuard_agg w .neq t' x y xs ys e2, run_neq_struct, he']
    · cases e1
/-- a slice held against nil -/
def isn (neq : Bool) (s : Gh → SV) : Hint P where
  d := { val := fun G => .bool (bif neq then !(s G).a.isNone else (s G).a.isNone) }
  τ := Option (Bool × TypeId × Value × Value) × Bool × Value
  lhs c i G _ _ := (c.R.bir G i, ((c.R.bir G i).bind fun p => sliceOf P p.2.1).isSome, c.R.val i (RC.put G i {}))
  rhs c i G _ _ := (some (neq, ((c.R.bir G i).elim 0 fun p => p.2.1), (s G).v, .slice none 0 0), true, .bool (bif neq then !(s G).a.isNone else (s G).a.isNone))
  sound c i _ _ hi h := fun o ho G w hs => by
    have h0 := h G {} w
    simp only [Prod.mk.injEq] at h0
    obtain ⟨e1, e2, e3⟩ := h0
    refine Cx.still hi rfl (fun _ => ⟨rfl, rfl⟩) ho ?_ e3
    rw [e1] at e2
    simp only [Option.bind_some] at e2
    obtain ⟨d, hd⟩ := Option.isSome_iff_exists.1 e2
    have hu := slice_of hd
    generalize hT : ((c.R.bir G i).elim 0 fun p => p.2.1) = T at *
    unfold RC.bir at e1
    rw [ho] at e1
    obtain ⟨dst, op, type, pos, after, guard⟩ := o
    simp only [Option.map_some] at e1
    split at e1
    · rename_i t' x y ty heq
      simp only [Option.some.injEq] at heq
      subst heq
      simp only [Option.some.injEq, Prod.mk.injEq] at e1
      obtain ⟨rfl, rfl, hx, hy⟩ := e1
      simp [execOp, hx, hy, eqGuard, binOp, run_equal_slice_nil w t' d _ _ _ hu]
    · rename_i t' x y ty heq
      simp only [Option.some.injEq] at heq
      subst heq
      simp only [Option.some.injEq, Prod.mk.injEq] at e1
      obtain ⟨rfl, rfl, hx, hy⟩ := e1
      simp [execOp, hx, hy, eqGuard, binOp, run_equal_slice_nil w t' d _ _ _ hu]
    · cases e1
/-- a call of a function that only computes -/
def cp {g : Prop} (Γ : GdI g) (n f : Nat) (qs : List Kv) {args : Gh → Array Value} {v : Gh → Value} (ct : g → ∀ G, Cp P f (args G) (qs.map (Kv.fp G)) (v G)) : Hint P :=
  call Γ n f false [] [] qs args (fun _ => []) (fun G _ => v G) (fun _ _ => []) (fun _ _ => []) (fun _ _ => []) ct
/-- a call -/
def ct {g : Prop} (Γ : GdI g) (n f : Nat) (ex : Bool) (rs ns : List Nat) (qs : List Kv) {args : Gh → Array Value} {L : Gh → List LE} {V : Gh → Rec → Value} {F' : Gh → Rec → List FP} {L' : Gh → Rec → List LE} {pu : Gh → Rec → List Prop}
    (h : g → ∀ G, Ct P f (args G) (qs.map (Kv.fp G)) (L G) (V G) (F' G) (L' G) (pu G)) : Hint P := call Γ n f ex rs ns qs args L V F' L' pu h
end Hint
end Kb
