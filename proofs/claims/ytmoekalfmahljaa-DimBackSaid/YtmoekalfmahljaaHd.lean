/- Words for new blocks, stores, owned slices, calls. No program in sight. -/
import Derived.Test.YtmoekalfmahljaaHc
set_option linter.unusedVariables false
set_option linter.unusedSectionVars false
set_option linter.unusedSimpArgs false
namespace Kb
open Go
section
variable {P : Program} {c : Cx P} {i : Nat} {h : HintD} {G : Gh} {w w' : World}
/-- an operation that turns one entry -/
theorem left_turn (ok : c.Ok) (hil : i < c.ops.size) (hi : c.hs[i]? = some h) (hs : c.R.Sees c.w0 c.X G i w) {g : Rec} {r : Nat} {le : Gh → LE} {en : Gh → Ent} (hn : h.news = [(r, le, en)]) (hH : g.H = fun _ => none) {e0 e1 : Ent} (hE : c.R.entAt G i r = e0) (hg : Grows e0 e1 w w')
    (he : (le (c.R.vis i (RC.put G i g))).ent (en (c.R.vis i (RC.put G i g))) = e1) (hat : (le (c.R.vis i (RC.put G i g))).at (en (c.R.vis i (RC.put G i g))) (c.J i G true) (c.J i G false)) (hf : h.facts (c.R.vis i (RC.put G i g)) = []) (hp : h.pu (c.R.vis i (RC.put G i g)) = []) {v : Value} (hv : c.R.val i (RC.put G i g) = v) : c.R.Left w w' G i g v := by
  have hup := Cx.upsOf hi
  rw [hn] at hup
  have hfr : ∀ b, g.H b ≠ none → w.heap.size ≤ b := fun b hb => by rw [hH] at hb; exact absurd rfl hb
  obtain ⟨a1, a2, _⟩ := ahead ok hil hs hfr
  refine ⟨hv.symm, fact_of ok hil hi hs hfr (fun f hm => ?_) (fun q hq => ?_) ?_, ?_, (fun b o hb => by rw [hH] at hb; cases hb), hfr, fun p hp' b o hb => ?_, fun p hp' q hq b o o' _ _ => ?_⟩
  · rw [hf] at hm; cases hm
  · rw [hn] at hq
    have : q = (r, le, en) := by simpa using hq
    subst this
    exact LE.mono hat a1 a2
  · rw [hp]; trivial
  · refine ⟨hg.base.os, hg.base.tape, hg.base.output, hg.base.size, fun k hk hnk => hg.base.keep k hk fun hm => hnk ?_⟩
    unfold RC.touched
    rw [hup]
    simpa [hE] using hm
  · rw [hup] at hp'
    have : p = (r, fun G => (le (c.R.vis i G)).ent (en (c.R.vis i G))) := by simpa using hp'
    subst this
    simp only at hb
    rw [he] at hb
    exact ⟨hg.in' b o hb, by
      rcases hg.from' b o hb with h1 | ⟨o', h1⟩
      · exact .inl h1
      · exact .inr ⟨_, by rw [hup]; exact List.mem_singleton.2 rfl, o', by rw [← h1]; exact hE⟩, by rw [hH]⟩
  · rw [hup] at hp' hq
    have h1 : p = (r, fun G => (le (c.R.vis i G)).ent (en (c.R.vis i G))) := by simpa using hp'
    have h2 : q = (r, fun G => (le (c.R.vis i G)).ent (en (c.R.vis i G))) := by simpa using hq
    rw [h1, h2]
theorem grows_push {e0 : Ent} {o : Obj} : Grows e0 (some (w.heap.size, o)) w { w with heap := w.heap.push o } :=
  ⟨fun b o' hb => by cases hb; exact push_get, fun b o' hb => by cases hb; exact .inl (Nat.le_refl _), base_push _ _⟩
/-- an operation that leaves new read-only memory -/
theorem left_grow (ok : c.Ok) (hil : i < c.ops.size) (hi : c.hs[i]? = some h) (hs : c.R.Sees c.w0 c.X G i w) {g : Rec} (hn : h.news = []) (hb : Base [] w w') (ha : Agrees w' g.H) (hfr : ∀ b, g.H b ≠ none → w.heap.size ≤ b)
    (hf : ∀ f ∈ h.facts (c.R.vis i (RC.put G i g)), f.at (JV (c.R.vis i (RC.put G i g)) c.N c.ops.size) (JV (c.R.vis i (RC.put G i g)) (hun c.N c.H) c.ops.size)) (hp : conjL (h.pu (c.R.vis i (RC.put G i g)))) {v : Value} (hv : c.R.val i (RC.put G i g) = v) : c.R.Left w w' G i g v := by
  have hup := Cx.upsOf hi
  rw [hn] at hup
  rw [← hv]
  exact RC.Left.grow hup (fact_of ok hil hi hs hfr hf (fun q hq => by rw [hn] at hq; cases hq) hp) hb ha hfr
end
/-- can the slices be read in H? -/
def allR (qs : List Kv) (G : Gh) (H : Heaplet) : Prop := conjL (qs.map fun q => q.at G H)
def Kv.chk {P : Program} (c : Cx P) (i : Nat) (G : Gh) (q : Kv) : Option (Bool × (Ent → Heaplet → Prop)) × Bool := q.κ.lhs c i G
def Kv.want (G : Gh) (q : Kv) : Option (Bool × (Ent → Heaplet → Prop)) × Bool := q.κ.rhs G
theorem map_eq {α β : Type _} {f g : α → β} : ∀ {l : List α}, l.map f = l.map g → ∀ x ∈ l, f x = g x
  | [], _, x, h => by cases h
  | y :: l, h, x, hx => by
    simp only [List.map_cons, List.cons.injEq] at h
    rcases List.mem_cons.1 hx with rfl | hx
    · exact h.1
    · exact map_eq h.2 x hx
/-- t: all of them lie in new memory -/
def tOk (t : Bool) (qs : List Kv) : Bool := qs.all fun q => q.κ.f && (!t || q.κ.t)
theorem allR_of {P : Program} {c : Cx P} {i : Nat} {G : Gh} {w : World} (ok : c.Ok) (hil : i < c.ops.size) (hs : c.R.Sees c.w0 c.X G i w) {qs : List Kv} (h : qs.map (Kv.chk c i G) = qs.map (Kv.want G)) {t : Bool} (ht : tOk t qs = true) : allR qs G (c.J i G t) := by
  refine conjL_of fun p hp => ?_
  obtain ⟨q, hq, rfl⟩ := List.mem_map.1 hp
  have hq' := List.all_eq_true.1 ht q hq
  rw [Bool.and_eq_true] at hq'
  obtain ⟨e, h1, _⟩ := Src.get ok hil hs (map_eq h q hq)
  refine (q.κ.rj hq'.1 G e _ h1).mono ?_
  cases t with
  | false => exact Cx.J_le_false hs _
  | true => have := hq'.2; simp at this; rw [this]; exact Sub.refl _
def os {α : Type} [Dat α] (t : Bool) (E : TypeId) (l : List α) (s : SV) : LE := ow t E l s.v
def fs {α : Type} [Dat α] (t : Bool) (l : List α) (s : SV) : FP := fr t l s.v
def atB (b : Nat) : Option Addr := some ⟨b, 0, none⟩
def RC.stt (R : RC) (i : Nat) : TypeId := match (R.ops[i]?).map (fun o : Oper => o.op) with
  | some (.store t _ _) => t
  | _ => 0
def addrOf : Value → Addr
  | .pointer (some a) => a
  | _ => default
def RC.sta (R : RC) (G : Gh) (i : Nat) : Nat := match R.str G i with
  | some (_, a, _) => (addrOf a).off
  | none => 0
def RC.stv (R : RC) (G : Gh) (i : Nat) : Value := match R.str G i with
  | some (_, _, u) => u
  | none => undef
namespace Hint
variable {P : Program}
/-- a new block, entry r -/
def nb (n r : Nat) (mk : Nat → Value) (T : TypeId) (arr : Gh → Array Value) : Hint P where
  d := { val := fun G => mk (G n).b, news := [(r, fun G => .blk (G n).b (arr G) T, fun _ => none)] }
  τ := Option (Result Next) × Nat × Array Value
  lhs c i G g w := (c.R.ex P G i w, i, arr (c.R.vis i (RC.put G i g)))
  rhs _ _ G _ w := (some (.ok (.value (mk w.heap.size)) { w with heap := w.heap.push (.cells (arr G) T) }), n, arr G)
  sound c i ok hil hi h := fun o ho G w hs => by
    have h0 := h G { b := w.heap.size } w
    simp only [Prod.mk.injEq, RC.ex, ho, Option.map_some, Option.some.injEq] at h0
    obtain ⟨e1, rfl, e3⟩ := h0
    unfold Does
    rw [e1]
    have hv := Cx.vis_self (c := c) (i := i) (G := G) { b := w.heap.size }
    refine ⟨{ b := w.heap.size }, left_turn ok hil hi hs (e1 := some (w.heap.size, .cells (arr G) T)) rfl rfl rfl grows_push ?_ ?_ rfl rfl ?_⟩
    · show some _ = _
      rw [hv, e3]
    · trivial
    · rw [Cx.valOf hi]
      show mk _ = _
      rw [hv]
/-- a slice written out, the call's own -/
def nl {α : Type} [Dat α] (n r : Nat) (t : Bool) (E : TypeId) (l : List α) (qs : List Kv) (hq : ∀ G H, allR qs G H → ∀ x ∈ l, Dat.good H x) (arr : Gh → Array Value) : Hint P where
  d := { val := fun G => .slice (atB (G n).b) l.length l.length, news := [(r, fun G => os t E l ⟨atB (G n).b, l.length, l.length⟩, fun G => some ((G n).b, .cells (arr G) E))] }
  τ := Option (Result Next) × Nat × Array Value × List Value × Bool × Bool × List (Option (Bool × (Ent → Heaplet → Prop)) × Bool)
  lhs c i G g w := (c.R.ex P G i w, i, arr (c.R.vis i (RC.put G i g)), (arr G).toList, decide (l.length ≤ maxLen), tOk t qs, qs.map (Kv.chk c i G))
  rhs _ _ G _ w := (some (.ok (.value (.slice (atB w.heap.size) l.length l.length)) { w with heap := w.heap.push (.cells (arr G) E) }), n, arr G, (rows l).flatten, true, true, qs.map (Kv.want G))
  sound c i ok hil hi h := fun o ho G w hs => by
    have h0 := h G { b := w.heap.size } w
    simp only [Prod.mk.injEq, RC.ex, ho, Option.map_some, Option.some.injEq] at h0
    obtain ⟨e1, rfl, e3, e4, e5, e6, e7⟩ := h0
    unfold Does
    rw [e1]
    have hv := Cx.vis_self (c := c) (i := i) (G := G) { b := w.heap.size }
    refine ⟨{ b := w.heap.size }, left_turn ok hil hi hs (e1 := some (w.heap.size, .cells (arr G) E)) rfl rfl rfl grows_push ?_ ?_ rfl rfl ?_⟩
    · show some _ = _
      rw [hv, e3]
    · show bif t then OSl E _ l _ _ else OSl E _ l _ _
      rw [hv, e3]
      have key : ∀ H, (∀ x ∈ l, Dat.good H x) → OSl E H l (.slice (atB w.heap.size) l.length l.length) (some (w.heap.size, .cells (arr G) E)) := fun H hg => OSl.lit hg (by rw [e4, e5])
      have hR := hq G _ (allR_of ok hil hs e7 e6)
      cases t
      · exact key _ hR
      · exact key _ hR
    · rw [Cx.valOf hi]
      show Value.slice _ _ _ = _
      rw [hv]
/-- a slice written out that nobody will write -/
def nr {α : Type} [Dat α] (n : Nat) (t : Bool) (E : TypeId) (l : List α) (qs : List Kv) (hq : ∀ G H, allR qs G H → ∀ x ∈ l, Dat.good H x) (arr : Gh → Array Value) : Hint P where
  d := { val := fun G => .slice (atB (G n).b) l.length l.length, facts := fun G => [fs t l ⟨atB (G n).b, l.length, l.length⟩] }
  τ := Option (Result Next) × Nat × List Value × Bool × Bool × List (Option (Bool × (Ent → Heaplet → Prop)) × Bool)
  lhs c i G _ w := (c.R.ex P G i w, i, (arr G).toList, decide (l.length ≤ maxLen), tOk t qs, qs.map (Kv.chk c i G))
  rhs _ _ G _ w := (some (.ok (.value (.slice (atB w.heap.size) l.length l.length)) { w with heap := w.heap.push (.cells (arr G) E) }), n, (rows l).flatten, true, true, qs.map (Kv.want G))
  sound c i ok hil hi h := fun o ho G w hs => by
    have h0 := h G {} w
    simp only [Prod.mk.injEq, RC.ex, ho, Option.map_some, Option.some.injEq] at h0
    obtain ⟨e1, rfl, e4, e5, e6, e7⟩ := h0
    unfold Does
    rw [e1]
    have hv := Cx.vis_self (c := c) (i := i) (G := G) { b := w.heap.size, H := entH (some (w.heap.size, .cells (arr G) E)) }
    have hfr : ∀ b, entH (some (w.heap.size, .cells (arr G) E)) b ≠ none → w.heap.size ≤ b := entH_new (w0 := w) fun b o he => by cases he; exact Nat.le_refl _
    obtain ⟨a1, a2, a3, a4⟩ := ahead ok hil hs (g := { b := w.heap.size, H := entH (some (w.heap.size, .cells (arr G) E)) }) hfr
    refine ⟨{ b := w.heap.size, H := entH (some (w.heap.size, .cells (arr G) E)) }, left_grow ok hil hi hs rfl (base_push _ _) (entH_agrees (e := some (w.heap.size, .cells (arr G) E)) fun b o he => by cases he; exact push_get) hfr (fun f hf => ?_) trivial ?_⟩
    · have hf : f = fs t l ⟨atB (c.R.vis i (RC.put G i { b := w.heap.size, H := entH (some (w.heap.size, .cells (arr G) E)) }) i).b, l.length, l.length⟩ := by simpa using hf
      rw [hv] at hf
      subst hf
      have key : ∀ H K, Sub H K → Sub (entH (some (w.heap.size, .cells (arr G) E))) K → (∀ x ∈ l, Dat.good H x) → RSl K l (.slice (atB w.heap.size) l.length l.length) := fun H K k1 k2 hg => (OSl.lit (E := E) (g := w.heap.size) hg (by rw [e4, e5])).frozen k1 k2
      have hR := hq G _ (allR_of ok hil hs e7 e6)
      show bif t then _ else _
      cases t
      · exact key _ _ a2 a4 hR
      · exact key _ _ a1 a3 hR
    · rw [Cx.valOf hi]
      show Value.slice _ _ _ = _
      rw [hv]
/-- a store into the block of entry r: le is the block behind it -/
def st (r : Nat) (le : Gh → LE) : Hint P where
  d := { val := fun _ => undef, news := [(r, le, fun _ => none)] }
  τ := Option (TypeId × Value × Value) × Option Nat × Bool × Ent × Ent × Bool × Bool
  lhs c i G g _ := (c.R.str G i, sizeT P (c.R.stt i), decide (c.R.sta G i + (c.R.stv G i).cells.toList.length ≤ (entA (c.R.entAt G i r)).size), c.R.entAt G i r, (le (c.R.vis i (RC.put G i g))).ent none, (c.R.stv G i).cells.toList.all cell1, (le (c.R.vis i (RC.put G i g))).own?.isNone)
  rhs c i G _ _ := (some (c.R.stt i, .pointer (some ⟨entB (c.R.entAt G i r), c.R.sta G i, none⟩), c.R.stv G i), some (c.R.stv G i).cells.toList.length, true, some (entB (c.R.entAt G i r), .cells (entA (c.R.entAt G i r)) (entT (c.R.entAt G i r))), some (entB (c.R.entAt G i r), .cells (writeA (entA (c.R.entAt G i r)) (c.R.sta G i) (c.R.stv G i).cells.toList) (entT (c.R.entAt G i r))), true, true)
  sound c i ok hil hi h := fun o ho G w hs => by
    have h0 := h G {} w
    simp only [Prod.mk.injEq] at h0
    obtain ⟨e1, e2, e3, e5, e6, e4, e7⟩ := h0
    have hw : c.R.wrE r i = true := by unfold RC.wrE; rw [Cx.upsOf hi]; simp
    obtain ⟨hb, _⟩ := hs.ent r (by rw [hw]; simp) _ _ e5
    have hlt := RC.heap_lt hb
    generalize hA : entA (c.R.entAt G i r) = arr at *
    generalize hB : entB (c.R.entAt G i r) = b at *
    generalize hT : entT (c.R.entAt G i r) = T at *
    generalize hO : c.R.sta G i = off at *
    generalize hV : c.R.stv G i = u at *
    unfold RC.str at e1
    rw [ho] at e1
    have hg : Grows (some (b, .cells arr T)) (some (b, .cells (writeA arr off u.cells.toList) T)) w (setBlk w b (.cells (writeA arr off u.cells.toList) T)) :=
      ⟨fun b' o' hbo => by cases hbo; simp [setBlk, hlt], fun b' o' hbo => by cases hbo; exact .inr ⟨_, rfl⟩, ⟨rfl, rfl, rfl, by simp [setBlk], fun j hj hn => by
        have : b ≠ j := fun e => hn (by subst e; simp)
        simp [setBlk, Array.getElem?_setIfInBounds_ne this]⟩⟩
    have hlat : (le (c.R.vis i (RC.put G i {}))).at none (c.J i G true) (c.J i G false) := by
      cases hle : le (c.R.vis i (RC.put G i {})) with
      | own t p m q hq => rw [hle] at e7; simp [LE.own?] at e7
      | _ => trivial
    have hL : c.R.Left w (setBlk w b (.cells (writeA arr off u.cells.toList) T)) G i {} undef := left_turn ok hil hi hs (g := {}) rfl rfl e5 hg e6 hlat rfl rfl (by rw [Cx.valOf hi])
    obtain ⟨dst, op, type, pos, after, guard⟩ := o
    cases op <;> simp only [Option.map_some] at e1 <;> first | cases e1 | skip
    case store t' a x =>
      simp only [Option.some.injEq, Prod.mk.injEq] at e1
      obtain ⟨ht, ha, hx⟩ := e1
      rw [← ht] at e2
      have hst := storeCells_run (P := P) u.cells.toList 0 off arr w hb (by have := of_decide_eq_true e3; omega) (fun v hv => List.all_eq_true.1 e4 v hv)
      have hr : (execOp (c.R.evalAt G i) { dst, op := .store t' a x, type, pos, after, guard }).run P w = .ok .skip (setBlk w b (.cells (writeA arr off u.cells.toList) T)) := by
        simp only [Array.length_toList, Nat.add_zero] at e2 hst
        simp [execOp, Instr.storeAt, ha, hx, Instr.sureAddr, storeVar, run_sizeOf e2, hst]
      unfold Does
      rw [hr]
      exact ⟨{}, hL⟩
end Hint
end Kb
