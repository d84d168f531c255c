/- Parts of an owned slice that are handed on and changed. No program in sight. -/
import Derived.Test.YtmoekalfmahljaaHm
set_option linter.unusedVariables false
set_option linter.unusedSectionVars false
set_option linter.unusedSimpArgs false
namespace Kb
open Go
section
variable {α : Type} [Dat α]
theorem mid_take (a p b : List α) : ((a ++ p ++ b).take (a.length + p.length)).drop a.length = p := by
  rw [List.take_append_of_le_length (by simp), List.take_of_length_le (by simp)]
  first | rfl | simp
theorem mid_sub {H : Heaplet} {a p b : List α} {s : SV} (h : RSl H (a ++ p ++ b) s.v) : RSl H p (s.sub (Dat.size α) a.length (a.length + p.length)).v := by
  have := h.sub (lo := a.length) (hi := a.length + p.length) (by omega) (by simp)
  rw [mid_take] at this
  exact this
/-- the middle of an entry -/
def kop (t : Bool) (E : TypeId) (r : Nat) (a p b : List α) (m : Nat) (hm : p.length = m) (s : Gh → SV) : Kw α p (fun G => (s G).sub (Dat.size α) a.length (a.length + m)) := ⟨.o r, t, false, fun G e H => OSl E H (a ++ p ++ b) (s G).v e, fun G e H U h k he => by
  subst hm
  exact mid_sub ⟨h.sl.toH.mono he, fun x hx => Dat.mono _ _ x k (h.good x hx)⟩, fun _ _ _ h x hx => h.good x (by simp [hx]), fun h => by cases h⟩
theorem cut3 {l : List α} {lo hi : Nat} (h1 : lo ≤ hi) (h2 : hi ≤ l.length) : l = l.take lo ++ (l.take hi).drop lo ++ l.drop hi := by
  have e : l.take lo = (l.take hi).take lo := by rw [List.take_take, Nat.min_eq_left h1]
  rw [e, List.take_append_drop, List.take_append_drop]
theorem cutlo {l : List α} {lo : Nat} (h : lo ≤ l.length) : lo = (l.take lo).length := by rw [List.length_take]; omega
theorem cuthi {l : List α} {lo hi : Nat} (h1 : lo ≤ hi) (h2 : hi ≤ l.length) : hi = (l.take lo).length + ((l.take hi).drop lo).length := by rw [List.length_drop, List.length_take, List.length_take]; omega
theorem mid_set (a p b : List α) (k : Nat) (x : α) (hk : k < p.length) : (a ++ p ++ b).set (a.length + k) x = a ++ p.set k x ++ b := by
  rw [List.append_assoc, List.set_append_right _ _ (by omega), List.append_assoc]
  congr 1
  rw [show a.length + k - a.length = k by omega, List.set_append_left _ _ hk]
theorem mid_get (a p b : List α) (k : Nat) (hk : k < p.length) : (a ++ p ++ b).getD (a.length + k) default = p.getD k default := by
  simp only [List.getD_eq_getElem?_getD]
  rw [List.append_assoc, List.getElem?_append_right (by omega), show a.length + k - a.length = k by omega, List.getElem?_append_left hk]
theorem mid_addr {E : TypeId} {a p b : List α} {s : SV} {e : Ent} (h : OwnS E (Dat.size α) (rows (a ++ p ++ b)) s.v e) {k : Nat} (hk : k < p.length) :
    elemAddr (s.sub (Dat.size α) a.length (a.length + p.length)).v (k * Dat.size α) = (elemAddr s.v ((a.length + k) * Dat.size α)).add 0 := by
  rcases h.val with ⟨_, h2, _⟩ | ⟨g, cap, cur, e1, _, h2, _⟩
  · exfalso
    have := congrArg List.length h2
    simp at this
    have h3 := this.2.1
    rw [h3] at hk; simp at hk
  · have ha : s.a = some ⟨g, 0, none⟩ := by unfold SV.v at e1; injection e1
    have hc : s.c = cap := by unfold SV.v at e1; injection e1
    have hne : ¬ s.c = a.length := by simp at h2; omega
    unfold SV.sub SV.v
    rw [if_neg hne, ha]
    show ((⟨g, 0, none⟩ : Addr).add _).add _ = ((⟨g, 0, none⟩ : Addr).add _).add _
    have ad : ∀ (o n : Nat), (⟨g, o, none⟩ : Addr).add n = ⟨g, o + n, none⟩ := fun o n => add_eq rfl n
    rw [ad, ad, ad, ad]
    simp only [Addr.mk.injEq, and_true, true_and]
    rw [Nat.add_mul]; omega
end
/-- an entry of plain data -/
theorem V.tro {P : Program} {E : Env P} {S : Stop} {t : St} {α : Type} [Dat α] (T : TypeId) (l : List α) (s : SV) (r : Nat) (hr : t.L[r]? = some (os false T l s)) (hg : ∀ (H : Heaplet) (x : α), Dat.good H x) (k : V E S ⟨t.sl, t.F, t.L.set r (os true T l s)⟩) : V E S t := fun N ε ac w hin => by
  have hlt : r < t.L.length := (List.getElem?_eq_some_iff.1 hr).1
  have hents : ents (t.L.set r (os true T l s)) ε = ents t.L ε := by
    refine List.ext_getElem? fun j => ?_
    rw [ents_get, ents_get, List.getElem?_set]
    by_cases e : r = j
    · subst e; rw [if_pos rfl, if_pos hlt, hr]; rfl
    · rw [if_neg e]
  refine k N ε ac w ⟨hin.slots, by rw [hents]; exact hin.st, hin.new, hin.facts, fun j y hy => ?_⟩
  rw [List.getElem?_set] at hy
  by_cases e : r = j
  · subst e
    rw [if_pos rfl, if_pos hlt] at hy
    cases hy
    have h := hin.own r _ hr
    have h2 : OSl T (hun N E.H) l s.v (ε r) := h
    show OSl T N l s.v (ε r)
    exact h2.any fun x _ => hg _ x
  · rw [if_neg e] at hy
    exact hin.own j y hy
namespace Hint
variable {P : Program}
/-- a part of a slice, its value alone -/
def slv {α : Type} [Dat α] {l : List α} {s : Gh → SV} {g : Prop} (Γ : GdI g) (κ : Kw α l s) (lo hi : Option Int) (a b : Int) (ha : a = lo.getD 0) (hb : b = hi.getD l.length) (h : g → 0 ≤ a ∧ a ≤ b ∧ b ≤ l.length) : Hint P where
  d := { val := fun G => ((s G).sub (Dat.size α) a.toNat b.toNat).v, rds := κ.rdr }
  τ := Option (TypeId × Value × Option Value × Option Value × Bool) × Option Nat × Value × Option Bool × (Option (Bool × (Ent → Heaplet → Prop)) × Bool)
  lhs c i G g _ := (c.R.slr G i, (sliceOf P (c.R.slt i)).bind (sizeT P), c.R.val i (RC.put G i {}), Γ.B.map fun _ => c.R.gd G i, κ.lhs c i G)
  rhs c i G _ _ := (some (c.R.slt i, κ.v G, lo.map (.int .i64 ·), hi.map (.int .i64 ·), true), some (Dat.size α), ((s G).sub (Dat.size α) a.toNat b.toNat).v, Γ.B, κ.rhs G)
  sound c i ok hil hi h0 := fun o ho G w hs => by
    have h1 := h0 G {} w
    simp only [Prod.mk.injEq] at h1
    obtain ⟨e1, e2, e3, e4, e5⟩ := h1
    obtain ⟨b0, b1, b2⟩ := h (Cx.gdOk Γ hs e4)
    simp only [Option.bind_eq_some_iff] at e2
    obtain ⟨E, e2, e6⟩ := e2
    have hr := κ.read ok hil hs e5
    have hrun := slice_does (w := w) ho e1 e2 e6 ha hb hr.isSl b0 b1 b2
    exact still_does hi rfl (fun g => conj_nil hi rfl (fun _ => ⟨rfl, rfl⟩) _) hrun e3
/-- a store into the middle of an entry -/
def sep {α : Type} [Dat α] {g : Prop} (Γ : GdI g) (n r : Nat) (E : TypeId) (t : Bool) (a p b : List α) (m : Nat) (hm : p.length = m) (s : Gh → SV) (k : Int) (x' : α) (p2 : List α) (hp : p2 = p.set k.toNat x') (h : g → 0 ≤ k ∧ k < p.length) (hq : ∀ H, Dat.good H x') : Hint P where
  d := { val := fun _ => undef, news := [(r, fun G => os t E (a ++ p2 ++ b) (s G), fun G => (G n).e)] }
  τ := Option (TypeId × Value × Value) × Option Nat × Option LE × Nat × Bool × List Value × SV × Option Bool
  lhs c i G g _ := (c.R.str G i, sizeT P (c.R.stt i), c.leAt i r G, i, (c.R.stv G i).cells.toList.all cell1, (c.R.stv G i).cells.toList, s (c.R.vis i (RC.put G i g)), Γ.B.map fun _ => c.R.gd G i)
  rhs c i G _ _ := (some (c.R.stt i, .pointer (some (elemAddr ((s G).sub (Dat.size α) a.length (a.length + m)).v (k.toNat * Dat.size α))), c.R.stv G i), some (c.R.stv G i).cells.toList.length, some (os t E (a ++ p ++ b) (s G)), n, true, Dat.cells x', s G, Γ.B)
  sound c i ok hil hi h0 := fun o ho G w hs => by
    subst hm
    have h1 := fun g => h0 G g w
    simp only [Prod.mk.injEq] at h1
    obtain ⟨e1, e2, e4, rfl, e6, e7, _, e11⟩ := h1 {}
    obtain ⟨b0, b1⟩ := h (Cx.gdOk Γ hs e11)
    have hw : c.R.wrE r i = true := by unfold RC.wrE; rw [Cx.upsOf hi]; simp
    obtain ⟨en, a1, a2, a3⟩ := Cx.own_at ok hil hs e4 (by rw [hw]; simp)
    have own : OwnS E (Dat.size α) (rows (a ++ p ++ b)) (s G).v en ∧ ∀ x ∈ a ++ p ++ b, Dat.good (c.J i G t) x := by
      unfold os ow LE.at at a2
      cases t
      · exact ⟨a2.sl, a2.good⟩
      · exact ⟨a2.sl, a2.good⟩
    have hk : k.toNat < p.length := by omega
    have hlen : (c.R.stv G i).cells.toList.length = Dat.size α := by rw [e7]; exact Dat.len _
    obtain ⟨en', w', hr, ho', hg⟩ := storeOwn_does (w := w) (k := a.length + k.toNat) (off := 0) (row := Dat.cells (p.getD k.toNat default)) ho e1 (mid_addr own.1 hk) e2 rfl own.1 a3 (get_map' (by simp; omega) (mid_get a p b _ hk).symm) (by omega) e6
    unfold Does
    rw [hr]
    have hv := Cx.vis_self (c := c) (i := i) (G := G) { e := en' }
    obtain ⟨_, _, _, _, _, _, hsv, _⟩ := h1 { e := en' }
    refine ⟨{ e := en' }, left_turn ok hil hi hs rfl rfl a1 hg ?_ ?_ rfl rfl (by rw [Cx.valOf hi])⟩
    · show (c.R.vis i (RC.put G i { e := en' }) i).e = _
      rw [hv]
    · show bif t then OSl E _ (a ++ p2 ++ b) _ _ else OSl E _ (a ++ p2 ++ b) _ _
      rw [hv, hsv]
      have e8 : a ++ p2 ++ b = (a ++ p ++ b).set (a.length + k.toNat) x' := by rw [hp, mid_set _ _ _ _ _ hk]
      have ho2 : OwnS E (Dat.size α) (rows (a ++ p2 ++ b)) (s G).v en' := by
        have : rows (a ++ p2 ++ b) = (rows (a ++ p ++ b)).set (a.length + k.toNat) (writeL (Dat.cells (p.getD k.toNat default)) 0 (c.R.stv G i).cells.toList) := by
          rw [e8, e7]
          have hwl : writeL (Dat.cells (p.getD k.toNat default)) 0 (Dat.cells x') = Dat.cells x' := by
            unfold writeL
            rw [List.take_zero, List.nil_append, List.drop_of_length_le, List.append_nil]
            have l1 := Dat.len (p.getD k.toNat default)
            have l2 := Dat.len x'
            omega
          rw [hwl]; simp [rows, List.map_set]
        rw [this]; exact ho'
      have fin : ∀ x ∈ a ++ p2 ++ b, Dat.good (c.J i G t) x := fun y hy => by
        rw [e8] at hy
        rcases List.mem_or_eq_of_mem_set hy with hy | hy
        · exact own.2 y hy
        · rw [hy]; exact hq _
      cases t
      · exact ⟨ho2, fin⟩
      · exact ⟨ho2, fin⟩
end Hint
end Kb
