/- Slices of slices that change: elements as bare slice values. No program in sight. -/
import Derived.Test.YtmoekalfmahljaaHk
set_option linter.unusedVariables false
set_option linter.unusedSectionVars false
set_option linter.unusedSimpArgs false
namespace Kb
open Go
/-- a slice value of which nothing is known -/
structure Rw where
  s : SV := {}
instance : Dat Rw where
  default := {}
  size := 1
  cells x := [x.s.v]
  good _ _ := True
  len _ := rfl
  one _ _ _ u hu := by simp at hu; subst hu; rfl
  mono _ _ _ _ _ := trivial
  zero _ := trivial
def rw' {α : Type} (l : List (Fat α)) : List Rw := l.map fun x => ⟨x.s⟩
theorem rows_rw {α : Type} [Dat α] (l : List (Fat α)) : rows (rw' l) = rows l := by
  unfold rows rw'
  rw [List.map_map]; rfl
@[simp] theorem rw_length {α : Type} (l : List (Fat α)) : (rw' l).length = l.length := by simp [rw']
theorem rw_set {α : Type} (l : List (Fat α)) (k : Nat) (x : Fat α) : (rw' l).set k ⟨x.s⟩ = rw' (l.set k x) := by
  unfold rw'; rw [List.map_set]
theorem rw_get {l : List Rw} {k : Nat} {x : Rw} (hk : k < l.length) : x = (l.set k x).getD k default := by
  simp [List.getD_eq_getElem?_getD, hk]
section
variable {P : Program} {E : Env P} {S : Stop} {t : St}
/-- an owned slice of slices, taken barely -/
theorem V.raw {α : Type} [Dat α] (r : Nat) (b : Bool) (T : TypeId) (l : List (Fat α)) (s : SV) (hr : t.L[r]? = some (os b T l s)) (k : V E S ⟨t.sl, t.F, t.L.set r (os b T (rw' l) s)⟩) : V E S t := fun N ε a w hin => by
  have hents : ∀ (j c : Nat) (o : Obj), (ents (t.L.set r (os b T (rw' l) s)) ε)[j]? = some (some (c, o)) → (ents t.L ε)[j]? = some (some (c, o)) := fun j c o h => by
    rw [ents_get, Option.map_eq_some_iff] at h
    obtain ⟨y, hy, he⟩ := h
    rcases set_get hy with ⟨rfl, rfl⟩ | ⟨hj, hy⟩
    · rw [ents_get, hr]; exact congrArg some he
    · rw [ents_get, hy, ← he]; rfl
  refine k N ε a w ⟨hin.slots, ⟨hin.st.base, hin.st.agr, fun j c o h => hin.st.ent j c o (hents j c o h), fun j j' c o o' h h' => hin.st.dis j j' c o o' (hents _ _ _ h) (hents _ _ _ h')⟩, hin.new, hin.facts, fun j y hy => ?_⟩
  rcases set_get hy with ⟨rfl, rfl⟩ | ⟨hj, hy⟩
  · have h := hin.own _ _ hr
    have key : ∀ J : Heaplet, OSl T J l s.v (ε j) → OSl T J (rw' l) s.v (ε j) := fun J h => ⟨by rw [rows_rw]; exact h.sl, fun _ _ => trivial⟩
    unfold os ow LE.at at *
    cases b
    · exact key _ h
    · exact key _ h
  · exact hin.own j y hy
/-- bare slices that are known again -/
theorem V.bless {α : Type} [Dat α] (i j m : Nat) (b1 b2 b3 : Bool) (lr : List Rw) (s0 : SV) (l : List (Fat α)) (s1 : SV) (ck : List α) (U : SV) (k : Nat) (l2 : List (Fat α)) (h : (t.F[i]?, t.F[j]?, t.F[m]?) = (some (fs b1 lr s0), some (fs b2 l s1), some (fs b3 ck U)))
    (hl2 : l2 = l.set k ⟨ck, U⟩) (hl : lr = rw' l2) (K : V E S ⟨t.sl, t.F ++ [fs false l2 s0], t.L⟩) : V E S t := fun N ε a w hin => by
  simp only [Prod.mk.injEq] at h
  obtain ⟨h1, h2, h3⟩ := h
  have at' : ∀ {q : Nat} {f : FP}, t.F[q]? = some f → f.p (hun N E.H) := fun hq => FP.to (hin.facts _ (List.mem_of_getElem? hq)) hun_left (Sub.refl _)
  have g1 : RSl (hun N E.H) lr s0.v := at' h1
  have g2 : RSl (hun N E.H) l s1.v := at' h2
  have g3 : RSl (hun N E.H) ck U.v := at' h3
  refine K N ε a w ⟨hin.slots, hin.st, hin.new, fun f hf => ?_, hin.own⟩
  rcases List.mem_append.1 hf with hf | hf
  · exact hin.facts f hf
  · have : f = fs false l2 s0 := by simpa using hf
    subst this
    show RSl (hun N E.H) l2 s0.v
    refine ⟨?_, fun x hx => ?_⟩
    · rw [← rows_rw, ← hl]; exact g1.sl
    · rw [hl2] at hx
      rcases List.mem_or_eq_of_mem_set hx with hx | hx
      · exact g2.good x hx
      · rw [hx]; exact g3
end
namespace Hint
variable {P : Program}
/-- a slice value is stored into an element of bare slices -/
def seR {g : Prop} (Γ : GdI g) (n r : Nat) (E : TypeId) (t : Bool) (l : List Rw) (s : Gh → SV) (k : Int) (u : Gh → SV) (h : g → 0 ≤ k ∧ k < l.length) : Hint P where
  d := { val := fun _ => undef, news := [(r, fun G => os t E (l.set k.toNat ⟨u G⟩) (s G), fun G => (G n).e)] }
  τ := Option (TypeId × Value × Value) × Option Nat × Option LE × Nat × Value × Option Bool × SV × SV
  lhs c i G g _ := (c.R.str G i, sizeT P (c.R.stt i), c.leAt i r G, i, c.R.stv G i, Γ.B.map fun _ => c.R.gd G i, s (c.R.vis i (RC.put G i g)), u (c.R.vis i (RC.put G i g)))
  rhs c i G _ _ := (some (c.R.stt i, .pointer (some (offA (elemAddr (s G).v (k.toNat * 1)) none)), (u G).v), some 1, some (os t E l (s G)), n, (u G).v, Γ.B, s G, u G)
  sound c i ok hil hi h0 := fun o ho G w hs => by
    have h1 := fun g => h0 G g w
    simp only [Prod.mk.injEq] at h1
    obtain ⟨e1, e2, e4, rfl, e5, e11, _⟩ := h1 {}
    obtain ⟨b0, b1⟩ := h (Cx.gdOk Γ hs e11)
    have hw : c.R.wrE r i = true := by unfold RC.wrE; rw [Cx.upsOf hi]; simp
    obtain ⟨en, a1, a2, a3⟩ := Cx.own_at ok hil hs e4 (by rw [hw]; simp)
    have own : OwnS E 1 (rows l) (s G).v en := by
      unfold os ow LE.at at a2
      cases t
      · exact a2.sl
      · exact a2.sl
    have hlt : k.toNat < l.length := by omega
    obtain ⟨en', w', hr, ho', hg⟩ := storeOwn_does (w := w) (k := k.toNat) (row := Dat.cells (l.getD k.toNat default)) (vs := [(u G).v]) ho e1 (offA_eq _ _) e2 rfl own a3 (get_map' hlt rfl) (by simp) (by simp; rfl)
    unfold Does
    rw [hr]
    have hv := Cx.vis_self (c := c) (i := i) (G := G) { e := en' }
    obtain ⟨_, _, _, _, _, _, hsv, huv⟩ := h1 { e := en' }
    refine ⟨{ e := en' }, left_turn ok hil hi hs rfl rfl a1 hg ?_ ?_ rfl rfl (by rw [Cx.valOf hi])⟩
    · show (c.R.vis i (RC.put G i { e := en' }) i).e = _
      rw [hv]
    · show bif t then OSl E _ (l.set k.toNat ⟨u (c.R.vis i (RC.put G i { e := en' }))⟩) _ _ else OSl E _ (l.set k.toNat ⟨u (c.R.vis i (RC.put G i { e := en' }))⟩) _ _
      rw [hv, hsv, huv]
      have ho2 : OwnS E 1 (rows (l.set k.toNat ⟨u G⟩)) (s G).v en' := by
        have : rows (l.set k.toNat (⟨u G⟩ : Rw)) = (rows l).set k.toNat (writeL (Dat.cells (l.getD k.toNat default)) 0 [(u G).v]) := by
          simp only [rows, List.map_set]; rfl
        rw [this]; exact ho'
      cases t
      · exact ⟨ho2, fun _ _ => trivial⟩
      · exact ⟨ho2, fun _ _ => trivial⟩
/-- a store into an element of an owned slice, of what this region has made -/
def seG {α : Type} [Dat α] {g : Prop} (Γ : GdI g) (n r : Nat) (E : TypeId) (t : Bool) (l : List α) (s : Gh → SV) (k : Int) (off : Option Nat) (x : α) (x' : Gh → α) (hx : x = l.getD k.toNat default) (t2 : Bool) (h : g → 0 ≤ k ∧ k < l.length)
    (ht : t2 = true → t = true) (qs : List Kv) (hq : ∀ G H, (∀ x ∈ l, Dat.good H x) → allR qs G H → Dat.good H (x' G)) : Hint P where
  d := { val := fun _ => undef, news := [(r, fun G => os t2 E (l.set k.toNat (x' G)) (s G), fun G => (G n).e)] }
  τ := Option (TypeId × Value × Value) × Option Nat × Bool × Option LE × Nat × Bool × List Value × Bool × List (Option (Bool × (Ent → Heaplet → Prop)) × Bool) × SV × Option Bool × α
  lhs c i G g _ := (c.R.str G i, sizeT P (c.R.stt i), decide (off.getD 0 + (c.R.stv G i).cells.toList.length ≤ Dat.size α), c.leAt i r G, i, (c.R.stv G i).cells.toList.all cell1, Dat.cells (x' G), tOk t2 qs, qs.map (Kv.chk c i G), s (c.R.vis i (RC.put G i g)), Γ.B.map fun _ => c.R.gd G i, x' (c.R.vis i (RC.put G i g)))
  rhs c i G _ _ := (some (c.R.stt i, .pointer (some (offA (elemAddr (s G).v (k.toNat * Dat.size α)) off)), c.R.stv G i), some (c.R.stv G i).cells.toList.length, true, some (os t E l (s G)), n, true, writeL (Dat.cells x) (off.getD 0) (c.R.stv G i).cells.toList, true, qs.map (Kv.want G), s G, Γ.B, x' G)
  sound c i ok hil hi h0 := fun o ho G w hs => by
    have h1 := fun g => h0 G g w
    simp only [Prod.mk.injEq] at h1
    obtain ⟨e1, e2, e3, e4, rfl, e6, e7, e8, e9, _, e11, _⟩ := h1 {}
    obtain ⟨b0, b1⟩ := h (Cx.gdOk Γ hs e11)
    have hw : c.R.wrE r i = true := by unfold RC.wrE; rw [Cx.upsOf hi]; simp
    obtain ⟨en, a1, a2, a3⟩ := Cx.own_at ok hil hs e4 (by rw [hw]; simp)
    have own : OwnS E (Dat.size α) (rows l) (s G).v en ∧ ∀ x ∈ l, Dat.good (c.J i G t) x := by
      unfold os ow LE.at at a2
      cases t
      · exact ⟨a2.sl, a2.good⟩
      · exact ⟨a2.sl, a2.good⟩
    obtain ⟨en', w', hr, ho', hg⟩ := storeOwn_does (w := w) (k := k.toNat) (row := Dat.cells x) ho e1 (offA_eq _ _) e2 rfl own.1 a3 (get_map' (by omega) hx) (of_decide_eq_true e3) e6
    unfold Does
    rw [hr]
    have hv := Cx.vis_self (c := c) (i := i) (G := G) { e := en' }
    have hsv := (h1 { e := en' }).2.2.2.2.2.2.2.2.2.1
    have hxv := (h1 { e := en' }).2.2.2.2.2.2.2.2.2.2.2
    refine ⟨{ e := en' }, left_turn ok hil hi hs rfl rfl a1 hg ?_ ?_ rfl rfl (by rw [Cx.valOf hi])⟩
    · show (c.R.vis i (RC.put G i { e := en' }) i).e = _
      rw [hv]
    · show bif t2 then OSl E _ (l.set k.toNat (x' (c.R.vis i (RC.put G i { e := en' })))) _ _ else OSl E _ (l.set k.toNat (x' (c.R.vis i (RC.put G i { e := en' })))) _ _
      rw [hv, hsv, hxv]
      have ho2 : OwnS E (Dat.size α) (rows (l.set k.toNat (x' G))) (s G).v en' := by
        have : rows (l.set k.toNat (x' G)) = (rows l).set k.toNat (writeL (Dat.cells x) (off.getD 0) (c.R.stv G i).cells.toList) := by rw [← e7]; simp [rows, List.map_set]
        rw [this]; exact ho'
      have hgl : ∀ x ∈ l, Dat.good (c.J i G t2) x := fun y hy => by
        cases t2 with
        | true => rw [← ht rfl]; exact own.2 y hy
        | false => exact Dat.mono _ _ _ (Cx.J_le_false hs _) (own.2 y hy)
      have fin : ∀ x ∈ l.set k.toNat (x' G), Dat.good (c.J i G t2) x := fun y hy => by
        rcases List.mem_or_eq_of_mem_set hy with hy | hy
        · exact hgl y hy
        · rw [hy]; exact hq G _ hgl (allR_of ok hil hs e9 e8)
      cases t2
      · exact ⟨ho2, fin⟩
      · exact ⟨ho2, fin⟩
end Hint
end Kb
