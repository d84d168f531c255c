/- Texts for the claim, put together (part 2 of 7): contracts of the functions that the law reaches. -/
import Derived.Test.YtjcgaaalpcofhaaZysa
import Derived.LoopN
import Derived.Laws.Cover3
import Derived.MapKept
import Derived.Lib.AppendZeros
set_option linter.unusedVariables false
set_option linter.unusedSectionVars false
set_option linter.unusedSimpArgs false
namespace Kb
open Go
section
variable {P : Program} {c : Cx P} {i : Nat} {h : HintD} {G : Gh} {w w' : World}
/-- an operation that turns one entry -/
theorem left_turn (ok : c.Ok) (hil : i < c.ops.size) (hi : c.hs[i]? = some h) (hs : c.R.Sees c.w0 c.X G i w) {g : Rec} {r : Nat} {le : Gh → LE} {en : Gh → Ent} (hn : h.news = [(r, le, en)]) (hH : g.H = fun _ => none) {e0 e1 : Ent} (hE : c.R.entAt G i r = e0) (hg : Grows e0 e1 w w')
    (he : (le (c.R.vis i (RC.put G i g))).ent (en (c.R.vis i (RC.put G i g))) = e1) (hat : (le (c.R.vis i (RC.put G i g))).at (en (c.R.vis i (RC.put G i g))) (c.J i G true) (c.J i G false)) (hf : h.facts (c.R.vis i (RC.put G i g)) = []) (hp : h.pu (c.R.vis i (RC.put G i g)) = []) {v : Value} (hv : c.R.val i (RC.put G i g) = v) : c.R.Left w w' G i g v := by
  have hup := Cx.upsOf hi
  rw [hn] at hup
  have hfr : ∀ b, g.H b ≠ none → w.heap.size ≤ b := fun b hb => by rw [hH] at hb; exact absurd rfl hb
  obtain ⟨a1, a2, _⟩ := ahead ok hil hs hfr
  refine ⟨hv.symm, fact_of ok hil hi hs hfr (fun f hm => ?_) (fun q hq => ?_) ?_, ?_, (fun b o hb => by rw [hH] at hb; cases hb), hfr, fun p hp' b o hb => ?_, fun p hp' q hq b o o' _ _ => ?_⟩
  · rw [hf] at hm; cases hm
  · rw [hn] at hq
    have : q = (r, le, en) := by simpa using hq
    subst this
    exact LE.mono hat a1 a2
  · rw [hp]; trivial
  · refine ⟨hg.base.os, hg.base.tape, hg.base.output, hg.base.size, fun k hk hnk => hg.base.keep k hk fun hm => hnk ?_⟩
    unfold RC.touched
    rw [hup]
    simpa [hE] using hm
  · rw [hup] at hp'
    have : p = (r, fun G => (le (c.R.vis i G)).ent (en (c.R.vis i G))) := by simpa using hp'
    subst this
    simp only at hb
    rw [he] at hb
    exact ⟨hg.in' b o hb, by
      rcases hg.from' b o hb with h1 | ⟨o', h1⟩
      · exact .inl h1
      · exact .inr ⟨_, by rw [hup]; exact List.mem_singleton.2 rfl, o', by rw [← h1]; exact hE⟩, by rw [hH]⟩
  · rw [hup] at hp' hq
    have h1 : p = (r, fun G => (le (c.R.vis i G)).ent (en (c.R.vis i G))) := by simpa using hp'
    have h2 : q = (r, fun G => (le (c.R.vis i G)).ent (en (c.R.vis i G))) := by simpa using hq
    rw [h1, h2]
theorem grows_push {e0 : Ent} {o : Obj} : Grows e0 (some (w.heap.size, o)) w { w with heap := w.heap.push o } :=
  ⟨fun b o' hb => by cases hb; exact push_get, fun b o' hb => by cases hb; exact .inl (Nat.le_refl _), base_push _ _⟩
/-- an operation that leaves new read-only memory -/
theorem left_grow (ok : c.Ok) (hil : i < c.ops.size) (hi : c.hs[i]? = some h) (hs : c.R.Sees c.w0 c.X G i w) {g : Rec} (hn : h.news = []) (hb : Base [] w w') (ha : Agrees w' g.H) (hfr : ∀ b, g.H b ≠ none → w.heap.size ≤ b)
    (hf : ∀ f ∈ h.facts (c.R.vis i (RC.put G i g)), f.at (JV (c.R.vis i (RC.put G i g)) c.N c.ops.size) (JV (c.R.vis i (RC.put G i g)) (hun c.N c.H) c.ops.size)) (hp : conjL (h.pu (c.R.vis i (RC.put G i g)))) {v : Value} (hv : c.R.val i (RC.put G i g) = v) : c.R.Left w w' G i g v := by
  have hup := Cx.upsOf hi
  rw [hn] at hup
  rw [← hv]
  exact RC.Left.grow hup (fact_of ok hil hi hs hfr hf (fun q hq => by rw [hn] at hq; cases hq) hp) hb ha hfr
end
/-- can the slices be read in H? -/
def allR (qs : List Kv) (G : Gh) (H : Heaplet) : Prop := conjL (qs.map fun q => q.at G H)
def Kv.chk {P : Program} (c : Cx P) (i : Nat) (G : Gh) (q : Kv) : Option (Bool × (Ent → Heaplet → Prop)) × Bool := q.κ.lhs c i G
def Kv.want (G : Gh) (q : Kv) : Option (Bool × (Ent → Heaplet → Prop)) × Bool := q.κ.rhs G
theorem map_eq {α β : Type _} {f g : α → β} : ∀ {l : List α}, l.map f = l.map g → ∀ x ∈ l, f x = g x
  | [], _, x, h => by cases h
  | y :: l, h, x, hx => by
    simp only [List.map_cons, List.cons.injEq] at h
    rcases List.mem_cons.1 hx with rfl | hx
    · exact h.1
    · exact map_eq h.2 x hx
/-- t: all of them lie in new memory -/
def tOk (t : Bool) (qs : List Kv) : Bool := qs.all fun q => q.κ.f && (!t || q.κ.t)
theorem allR_of {P : Program} {c : Cx P} {i : Nat} {G : Gh} {w : World} (ok : c.Ok) (hil : i < c.ops.size) (hs : c.R.Sees c.w0 c.X G i w) {qs : List Kv} (h : qs.map (Kv.chk c i G) = qs.map (Kv.want G)) {t : Bool} (ht : tOk t qs = true) : allR qs G (c.J i G t) := by
  refine conjL_of fun p hp => ?_
  obtain ⟨q, hq, rfl⟩ := List.mem_map.1 hp
  have hq' := List.all_eq_true.1 ht q hq
  rw [Bool.and_eq_true] at hq'
  obtain ⟨e, h1, _⟩ := Src.get ok hil hs (map_eq h q hq)
  refine (q.κ.rj hq'.1 G e _ h1).mono ?_
  cases t with
  | false => exact Cx.J_le_false hs _
  | true => have := hq'.2; simp at this; rw [this]; exact Sub.refl _
def os {α : Type} [Dat α] (t : Bool) (E : TypeId) (l : List α) (s : SV) : LE := ow t E l s.v
def fs {α : Type} [Dat α] (t : Bool) (l : List α) (s : SV) : FP := fr t l s.v
def atB (b : Nat) : Option Addr := some ⟨b, 0, none⟩
def RC.stt (R : RC) (i : Nat) : TypeId := match (R.ops[i]?).map (fun o : Oper => o.op) with
  | some (.store t _ _) => t
  | _ => 0
def addrOf : Value → Addr
  | .pointer (some a) => a
  | _ => default
def RC.sta (R : RC) (G : Gh) (i : Nat) : Nat := match R.str G i with
  | some (_, a, _) => (addrOf a).off
  | none => 0
def RC.stv (R : RC) (G : Gh) (i : Nat) : Value := match R.str G i with
  | some (_, _, u) => u
  | none => undef
namespace Hint
variable {P : Program}
/-- a new block, entry r -/
def nb (n r : Nat) (mk : Nat → Value) (T : TypeId) (arr : Gh → Array Value) : Hint P where
  d := { val := fun G => mk (G n).b, news := [(r, fun G => .blk (G n).b (arr G) T, fun _ => none)] }
  τ := Option (Result Next) × Nat × Array Value
  lhs c i G g w := (c.R.ex P G i w, i, arr (c.R.vis i (RC.put G i g)))
  rhs _ _ G _ w := (some (.ok (.value (mk w.heap.size)) { w with heap := w.heap.push (.cells (arr G) T) }), n, arr G)
  sound c i ok hil hi h := fun o ho G w hs => by
    have h0 := h G { b := w.heap.size } w
    simp only [Prod.mk.injEq, RC.ex, ho, Option.map_some, Option.some.injEq] at h0
    obtain ⟨e1, rfl, e3⟩ := h0
    unfold Does
    rw [e1]
    have hv := Cx.vis_self (c := c) (i := i) (G := G) { b := w.heap.size }
    refine ⟨{ b := w.heap.size }, left_turn ok hil hi hs (e1 := some (w.heap.size, .cells (arr G) T)) rfl rfl rfl grows_push ?_ ?_ rfl rfl ?_⟩
    · show some _ = _
      rw [hv, e3]
    · trivial
    · rw [Cx.valOf hi]
      show mk _ = _
      rw [hv]
/-- a slice written out, the call's own -/
def nl {α : Type} [Dat α] (n r : Nat) (t : Bool) (E : TypeId) (l : List α) (qs : List Kv) (hq : ∀ G H, allR qs G H → ∀ x ∈ l, Dat.good H x) (arr : Gh → Array Value) : Hint P where
  d := { val := fun G => .slice (atB (G n).b) l.length l.length, news := [(r, fun G => os t E l ⟨atB (G n).b, l.length, l.length⟩, fun G => some ((G n).b, .cells (arr G) E))] }
  τ := Option (Result Next) × Nat × Array Value × List Value × Bool × Bool × List (Option (Bool × (Ent → Heaplet → Prop)) × Bool)
  lhs c i G g w := (c.R.ex P G i w, i, arr (c.R.vis i (RC.put G i g)), (arr G).toList, decide (l.length ≤ maxLen), tOk t qs, qs.map (Kv.chk c i G))
  rhs _ _ G _ w := (some (.ok (.value (.slice (atB w.heap.size) l.length l.length)) { w with heap := w.heap.push (.cells (arr G) E) }), n, arr G, (rows l).flatten, true, true, qs.map (Kv.want G))
  sound c i ok hil hi h := fun o ho G w hs => by
    have h0 := h G { b := w.heap.size } w
    simp only [Prod.mk.injEq, RC.ex, ho, Option.map_some, Option.some.injEq] at h0
    obtain ⟨e1, rfl, e3, e4, e5, e6, e7⟩ := h0
    unfold Does
    rw [e1]
    have hv := Cx.vis_self (c := c) (i := i) (G := G) { b := w.heap.size }
    refine ⟨{ b := w.heap.size }, left_turn ok hil hi hs (e1 := some (w.heap.size, .cells (arr G) E)) rfl rfl rfl grows_push ?_ ?_ rfl rfl ?_⟩
    · show some _ = _
      rw [hv, e3]
    · show bif t then OSl E _ l _ _ else OSl E _ l _ _
      rw [hv, e3]
      have key : ∀ H, (∀ x ∈ l, Dat.good H x) → OSl E H l (.slice (atB w.heap.size) l.length l.length) (some (w.heap.size, .cells (arr G) E)) := fun H hg => OSl.lit hg (by rw [e4, e5])
      have hR := hq G _ (allR_of ok hil hs e7 e6)
      cases t
      · exact key _ hR
      · exact key _ hR
    · rw [Cx.valOf hi]
      show Value.slice _ _ _ = _
      rw [hv]
/-- a slice written out that nobody will write -/
def nr {α : Type} [Dat α] (n : Nat) (t : Bool) (E : TypeId) (l : List α) (qs : List Kv) (hq : ∀ G H, allR qs G H → ∀ x ∈ l, Dat.good H x) (arr : Gh → Array Value) : Hint P where
  d := { val := fun G => .slice (atB (G n).b) l.length l.length, facts := fun G => [fs t l ⟨atB (G n).b, l.length, l.length⟩] }
  τ := Option (Result Next) × Nat × List Value × Bool × Bool × List (Option (Bool × (Ent → Heaplet → Prop)) × Bool)
  lhs c i G _ w := (c.R.ex P G i w, i, (arr G).toList, decide (l.length ≤ maxLen), tOk t qs, qs.map (Kv.chk c i G))
  rhs _ _ G _ w := (some (.ok (.value (.slice (atB w.heap.size) l.length l.length)) { w with heap := w.heap.push (.cells (arr G) E) }), n, (rows l).flatten, true, true, qs.map (Kv.want G))
  sound c i ok hil hi h := fun o ho G w hs => by
    have h0 := h G {} w
    simp only [Prod.mk.injEq, RC.ex, ho, Option.map_some, Option.some.injEq] at h0
    obtain ⟨e1, rfl, e4, e5, e6, e7⟩ := h0
    unfold Does
    rw [e1]
    have hv := Cx.vis_self (c := c) (i := i) (G := G) { b := w.heap.size, H := entH (some (w.heap.size, .cells (arr G) E)) }
    have hfr : ∀ b, entH (some (w.heap.size, .cells (arr G) E)) b ≠ none → w.heap.size ≤ b := entH_new (w0 := w) fun b o he => by cases he; exact Nat.le_refl _
    obtain ⟨a1, a2, a3, a4⟩ := ahead ok hil hs (g := { b := w.heap.size, H := entH (some (w.heap.size, .cells (arr G) E)) }) hfr
    refine ⟨{ b := w.heap.size, H := entH (some (w.heap.size, .cells (arr G) E)) }, left_grow ok hil hi hs rfl (base_push _ _) (entH_agrees (e := some (w.heap.size, .cells (arr G) E)) fun b o he => by cases he; exact push_get) hfr (fun f hf => ?_) trivial ?_⟩
    · have hf : f = fs t l ⟨atB (c.R.vis i (RC.put G i { b := w.heap.size, H := entH (some (w.heap.size, .cells (arr G) E)) }) i).b, l.length, l.length⟩ := by simpa using hf
      rw [hv] at hf
      subst hf
      have key : ∀ H K, Sub H K → Sub (entH (some (w.heap.size, .cells (arr G) E))) K → (∀ x ∈ l, Dat.good H x) → RSl K l (.slice (atB w.heap.size) l.length l.length) := fun H K k1 k2 hg => (OSl.lit (E := E) (g := w.heap.size) hg (by rw [e4, e5])).frozen k1 k2
      have hR := hq G _ (allR_of ok hil hs e7 e6)
      show bif t then _ else _
      cases t
      · exact key _ _ a2 a4 hR
      · exact key _ _ a1 a3 hR
    · rw [Cx.valOf hi]
      show Value.slice _ _ _ = _
      rw [hv]
/-- a store into the block of entry r: le is the block behind it -/
def st (r : Nat) (le : Gh → LE) : Hint P where
  d := { val := fun _ => undef, news := [(r, le, fun _ => none)] }
  τ := Option (TypeId × Value × Value) × Option Nat × Bool × Ent × Ent × Bool × Bool
  lhs c i G g _ := (c.R.str G i, sizeT P (c.R.stt i), decide (c.R.sta G i + (c.R.stv G i).cells.toList.length ≤ (entA (c.R.entAt G i r)).size), c.R.entAt G i r, (le (c.R.vis i (RC.put G i g))).ent none, (c.R.stv G i).cells.toList.all cell1, (le (c.R.vis i (RC.put G i g))).own?.isNone)
  rhs c i G _ _ := (some (c.R.stt i, .pointer (some ⟨entB (c.R.entAt G i r), c.R.sta G i, none⟩), c.R.stv G i), some (c.R.stv G i).cells.toList.length, true, some (entB (c.R.entAt G i r), .cells (entA (c.R.entAt G i r)) (entT (c.R.entAt G i r))), some (entB (c.R.entAt G i r), .cells (writeA (entA (c.R.entAt G i r)) (c.R.sta G i) (c.R.stv G i).cells.toList) (entT (c.R.entAt G i r))), true, true)
  sound c i ok hil hi h := fun o ho G w hs => by
    have h0 := h G {} w
    simp only [Prod.mk.injEq] at h0
    obtain ⟨e1, e2, e3, e5, e6, e4, e7⟩ := h0
    have hw : c.R.wrE r i = true := by unfold RC.wrE; rw [Cx.upsOf hi]; simp
    obtain ⟨hb, _⟩ := hs.ent r (by rw [hw]; simp) _ _ e5
    have hlt := RC.heap_lt hb
    generalize hA : entA (c.R.entAt G i r) = arr at *
    generalize hB : entB (c.R.entAt G i r) = b at *
    generalize hT : entT (c.R.entAt G i r) = T at *
    generalize hO : c.R.sta G i = off at *
    generalize hV : c.R.stv G i = u at *
    unfold RC.str at e1
    rw [ho] at e1
    have hg : Grows (some (b, .cells arr T)) (some (b, .cells (writeA arr off u.cells.toList) T)) w (setBlk w b (.cells (writeA arr off u.cells.toList) T)) :=
      ⟨fun b' o' hbo => by cases hbo; simp [setBlk, hlt], fun b' o' hbo => by cases hbo; exact .inr ⟨_, rfl⟩, ⟨rfl, rfl, rfl, by simp [setBlk], fun j hj hn => by
        have : b ≠ j := fun e => hn (by subst e; simp)
        simp [setBlk, Array.getElem?_setIfInBounds_ne this]⟩⟩
    have hlat : (le (c.R.vis i (RC.put G i {}))).at none (c.J i G true) (c.J i G false) := by
      cases hle : le (c.R.vis i (RC.put G i {})) with
      | own t p m q hq => rw [hle] at e7; simp [LE.own?] at e7
      | _ => trivial
    have hL : c.R.Left w (setBlk w b (.cells (writeA arr off u.cells.toList) T)) G i {} undef := left_turn ok hil hi hs (g := {}) rfl rfl e5 hg e6 hlat rfl rfl (by rw [Cx.valOf hi])
    obtain ⟨dst, op, type, pos, after, guard⟩ := o
    cases op <;> simp only [Option.map_some] at e1 <;> first | cases e1 | skip
    case store t' a x =>
      simp only [Option.some.injEq, Prod.mk.injEq] at e1
      obtain ⟨ht, ha, hx⟩ := e1
      rw [← ht] at e2
      have hst := storeCells_run (P := P) u.cells.toList 0 off arr w hb (by have := of_decide_eq_true e3; omega) (fun v hv => List.all_eq_true.1 e4 v hv)
      have hr : (execOp (c.R.evalAt G i) { dst, op := .store t' a x, type, pos, after, guard }).run P w = .ok .skip (setBlk w b (.cells (writeA arr off u.cells.toList) T)) := by
        simp only [Array.length_toList, Nat.add_zero] at e2 hst
        simp [execOp, Instr.storeAt, ha, hx, Instr.sureAddr, storeVar, run_sizeOf e2, hst]
      unfold Does
      rw [hr]
      exact ⟨{}, hL⟩
end Hint
end Kb
set_option linter.unusedVariables false
set_option linter.unusedSectionVars false
set_option linter.unusedSimpArgs false
namespace Kb
open Go
def RC.apt (R : RC) (G : Gh) (i : Nat) : TypeId := match R.apr G i with
  | some (t, _) => t
  | none => 0
def nilOr {α : Type} [Dat α] (t : Bool) (E : TypeId) (l : List α) (s : SV) : Bool → LE
  | true => .no
  | false => os t E l s
theorem nilOr_own {α : Type} [Dat α] {t : Bool} {E : TypeId} {l : List α} {s : SV} {z : Bool} (hz : z = true → l = [] ∧ s = {}) {e : Ent} {N K : Heaplet} (h : (nilOr t E l s z).at e N K) : OwnS E (Dat.size α) (rows l) s.v ((nilOr t E l s z).ent e) ∧ (∀ x ∈ l, Dat.good (bif t then N else K) x) := by
  cases z with
  | true =>
    obtain ⟨rfl, rfl⟩ := hz rfl
    exact ⟨OwnS.nil _ _, fun x hx => by cases hx⟩
  | false =>
    unfold nilOr os ow LE.at at h
    cases t
    · exact ⟨h.sl, h.good⟩
    · exact ⟨h.sl, h.good⟩
theorem own_sv {E : TypeId} {size : Nat} {rs : List (List Value)} {v : Value} {e : Ent} (h : OwnS E size rs v e) : ∃ s : SV, v = s.v := by
  rcases h.val with ⟨rfl, rfl, _⟩ | ⟨g, cap, cur, rfl, _⟩
  · exact ⟨{}, rfl⟩
  · exact ⟨⟨_, _, cap⟩, rfl⟩
theorem append_does {P : Program} {R : RC} {G : Gh} {i : Nat} {w : World} {o : Oper} (ho : R.ops[i]? = some o) {t E : TypeId} {size bytes : Nat} {rs news : List (List Value)} {v x : Value} {e : Ent} {H : Heaplet}
    (e1 : R.apr G i = some (t, t, v, x)) (e2 : sliceOf P t = some E) (e3 : infoOf P E = some (size, bytes, some size)) (hsz : 0 < size) (hby : 0 < bytes) (own : OwnS E size rs v e) (he : EntIn w e) (hx : HSlice H size news x) (hA : Agrees w H) (hbytes : (rs.length + news.length) * bytes ≤ 140737488355328) :
    ∃ v' e' w', (execOp (R.evalAt G i) o).run P w = .ok (.value v') w' ∧ OwnS E size (rs ++ news) v' e' ∧ Grows e e' w w' := by
  have h63 : rs.length + news.length ≤ maxLen := by
    have : rs.length + news.length ≤ (rs.length + news.length) * bytes := Nat.le_mul_of_pos_right _ hby
    simp only [maxLen]; omega
  have hu := slice_of e2
  unfold infoOf at e3
  cases hi : P.info? E with
  | none => simp [hi] at e3
  | some inf =>
    simp only [hi, Option.map_some, Option.some.injEq, Prod.mk.injEq] at e3
    obtain ⟨i1, i2, i3⟩ := e3
    cases hz : inf.zero with
    | none => simp [hz] at i3
    | some z =>
      simp only [hz, Option.map_some, Option.some.injEq] at i3
      obtain ⟨v', e', w', hr, ho', hg⟩ := append_run (w := w) (ty := o.type) hu hi hz i1 i2 i3 hsz own he hx hA hbytes h63
      refine ⟨v', e', w', ?_, ho', hg⟩
      unfold RC.apr at e1
      rw [ho] at e1
      obtain ⟨dst, op, type, pos, after, guard⟩ := o
      simp only [Option.map_some] at e1
      split at e1
      · rename_i args argTypes heq
        simp only [Option.some.injEq] at heq
        subst heq
        split at e1
        · rename_i x y t' u' hx ht
          simp only [Option.some.injEq, Prod.mk.injEq] at e1
          obtain ⟨rfl, rfl, hv, hxv⟩ := e1
          obtain ⟨l, rfl⟩ : ∃ l : List Operand, args = l.toArray := ⟨args.toList, by simp⟩
          obtain ⟨l2, rfl⟩ : ∃ l : List TypeId, argTypes = l.toArray := ⟨argTypes.toList, by simp⟩
          simp only at hx ht
          subst hx ht
          simp only at hr
          simp [execOp, resolve, invoke, builtin, hv, hxv, hr]
        · cases e1
      · cases e1
theorem make_does {P : Program} {R : RC} {G : Gh} {i : Nat} {w : World} {o : Oper} (ho : R.ops[i]? = some o) {t E : TypeId} {size bytes : Nat} {n : Int} {row : List Value} (e1 : R.mkr G i = some (t, .int .i64 n, .int .i64 n)) (e2 : sliceOf P t = some E) (e3 : zeroOf P E = some (size, bytes, some row)) (e7 : row.length = size) (e8 : row.all cell1 = true)
    (hn0 : 0 ≤ n) (hn63 : n ≤ 9223372036854775807) (hbytes : bytes * n ≤ 281474976710656) :
    ∃ o', (execOp (R.evalAt G i) o).run P w = .ok (.value (.slice (atB w.heap.size) n.toNat n.toNat)) { w with heap := w.heap.push o' } ∧ OwnS E size (List.replicate n.toNat row) (.slice (atB w.heap.size) n.toNat n.toNat) (some (w.heap.size, o')) := by
  have hu := slice_of e2
  subst e7
  unfold zeroOf at e3
  cases hi : P.info? E with
  | none => simp [hi] at e3
  | some inf =>
    simp only [hi, Option.map_some, Option.some.injEq, Prod.mk.injEq] at e3
    obtain ⟨i1, i2, i3⟩ := e3
    cases hz : inf.zero with
    | none => simp [hz] at i3
    | some z =>
      simp only [hz, Option.map_some, Option.some.injEq] at i3
      obtain ⟨m, rfl⟩ : ∃ m : Nat, n = m := ⟨n.toNat, by omega⟩
      have h63 : m ≤ maxLen := by simp only [maxLen]; omega
      have hmk := run_make (P := P) w t E inf z hu hi hz .i64 .i64 m m (by omega) (Int.le_refl _) (by rw [i2]; exact hbytes) hn63
      unfold RC.mkr at e1
      rw [ho] at e1
      obtain ⟨dst, op, type, pos, after, guard⟩ := o
      cases op <;> simp only [Option.map_some] at e1 <;> first | cases e1 | skip
      case makeSlice t' l c =>
        simp only [Option.some.injEq, Prod.mk.injEq] at e1
        obtain ⟨rfl, hl, hc⟩ := e1
        have hcells : z.cells = row.toArray := by rw [← i3]
        rw [i1, hcells] at hmk
        simp only [Int.toNat_natCast] at hmk ⊢
        refine ⟨.cells (madeCells row.toArray (m * row.length)) E, ?_, made_own (fun u hu => List.all_eq_true.1 e8 u hu) h63⟩
        show _ = Result.ok (Next.value (.slice (some ⟨w.heap.size, 0, none⟩) m m)) (w.alloc (.cells (madeCells row.toArray (m * row.length)) E))
        simp [execOp, hl, hc, hmk]
theorem storeOwn_does {P : Program} {R : RC} {G : Gh} {i : Nat} {w : World} {o : Oper} (ho : R.ops[i]? = some o) {t E : TypeId} {size off k : Nat} {rs : List (List Value)} {row vs : List Value} {v u : Value} {e : Ent} {a : Addr} (e1 : R.str G i = some (t, .pointer (some a), u)) (ha : a = (elemAddr v (k * size)).add off) (e2 : sizeT P t = some vs.length) (e0 : u.cells.toList = vs)
    (own : OwnS E size rs v e) (he : EntIn w e) (hk : rs[k]? = some row) (hoff : off + vs.length ≤ size) (h1 : vs.all cell1 = true) :
    ∃ e' w', (execOp (R.evalAt G i) o).run P w = .ok .skip w' ∧ OwnS E size (rs.set k (writeL row off vs)) v e' ∧ Grows e e' w w' := by
  subst ha
  obtain ⟨e', w', hst, ho', hg⟩ := own_store (P := P) (w := w) own he hk hoff (fun u hu => List.all_eq_true.1 h1 u hu)
  refine ⟨e', w', ?_, ho', hg⟩
  unfold RC.str at e1
  rw [ho] at e1
  obtain ⟨dst, op, type, pos, after, guard⟩ := o
  cases op <;> simp only [Option.map_some] at e1 <;> first | cases e1 | skip
  case store t' a x =>
    simp only [Option.some.injEq, Prod.mk.injEq] at e1
    obtain ⟨rfl, ha, hx⟩ := e1
    have hx' : (R.evalAt G i x).cells.toList = vs := by rw [hx]; exact e0
    have hsz : (R.evalAt G i x).cells.size = vs.length := by rw [← Array.length_toList, hx']
    simp [execOp, Instr.storeAt, ha, Instr.sureAddr, storeVar, run_sizeOf e2, hsz, hx', hst]
/-- where a part of a slice lies -/
def SV.sub (s : SV) (size lo hi : Nat) : SV := ⟨if s.c = lo then s.a else s.a.map (·.add (lo * size)), hi - lo, s.c - lo⟩
theorem sub_eq {s : SV} {size lo hi : Nat} : subV s.v size lo hi = (s.sub size lo hi).v := rfl
theorem slice_does {P : Program} {R : RC} {G : Gh} {i : Nat} {w : World} {o : Oper} (ho : R.ops[i]? = some o) {t E : TypeId} {size n : Nat} {v : Value} {lo hi : Option Int} {l h : Int} (e1 : R.slr G i = some (t, v, lo.map (.int .i64 ·), hi.map (.int .i64 ·), true)) (e2 : sliceOf P t = some E) (e3 : sizeT P E = some size)
    (hlo : l = lo.getD 0) (hhi : h = hi.getD n) (hv : IsSl v n) (b1 : 0 ≤ l) (b2 : l ≤ h) (b3 : h ≤ n) : (execOp (R.evalAt G i) o).run P w = .ok (.value (subV v size l.toNat h.toNat)) w := by
  obtain ⟨a, c, rfl, _, hc⟩ := hv
  have hu := slice_of e2
  unfold RC.slr at e1
  rw [ho] at e1
  obtain ⟨dst, op, type, pos, after, guard⟩ := o
  cases op <;> simp only [Option.map_some] at e1 <;> first | cases e1 | skip
  case slice t' x lo' hi' mx =>
    simp only [Option.some.injEq, Prod.mk.injEq] at e1
    obtain ⟨rfl, hx, hl, hh, hm⟩ := e1
    have hmx : mx = none := by simpa using hm
    subst hmx
    have hc' : (h : Int) ≤ (c : Int) := by omega
    have h0' : 0 ≤ h := by omega
    have hbd : (Instr.sliceBounds true n c (lo'.map (R.evalAt G i)) (hi'.map (R.evalAt G i)) none).run P w = .ok (l.toNat, h.toNat, c) w := by
      rw [hl, hh]
      have hlh : l ≤ (h.toNat : Int) := by omega
      cases lo <;> cases hi <;> simp only [Option.getD_none, Option.getD_some] at hlo hhi <;> subst hlo hhi <;>
        simp [Instr.sliceBounds, Instr.sliceBound, asIntOf, h0', hc', b1, hlh] <;> omega
    simp [execOp, Instr.sliceAt, underlying, hu, hx, Instr.slice, hbd, run_sizeOf e3, subV]
def RC.slt (R : RC) (i : Nat) : TypeId := match (R.ops[i]?).map (fun o : Oper => o.op) with
  | some (.slice t _ _ _ _) => t
  | _ => 0
def RC.mkt (R : RC) (i : Nat) : TypeId := match (R.ops[i]?).map (fun o : Oper => o.op) with
  | some (.makeSlice t _ _) => t
  | _ => 0
namespace Hint
variable {P : Program}
/-- append to an owned slice (z: to nil, entry r is free) -/
def ap {α : Type} [Dat α] {m : List α} {s2 : Gh → SV} (n r : Nat) (E : TypeId) (bytes : Nat) (z t : Bool) (l : List α) (s : Gh → SV) (κ : Kw α m s2) (t2 : Bool) (l2 : List α) (hl : l2 = l ++ m) (hb : (l.length + m.length) * bytes ≤ 140737488355328)
    (hz : z = true → l = [] ∧ ∀ G, s G = {}) (ht : (t2 = true → t = true ∧ κ.t = true) ∨ ∀ (H : Heaplet) (x : α), Dat.good H x) : Hint P where
  d := { val := fun G => (G n).s.v, news := [(r, fun G => os t2 E l2 (G n).s, fun G => (G n).e)], rds := κ.rdr }
  τ := Option (TypeId × TypeId × Value × Value) × Option TypeId × Option (Nat × Nat × Option Nat) × Option LE × Nat × Bool × Bool × (Option (Bool × (Ent → Heaplet → Prop)) × Bool)
  lhs c i G _ _ := (c.R.apr G i, sliceOf P (c.R.apt G i), infoOf P E, c.leAt i r G, i, decide (0 < Dat.size α), decide (0 < bytes), κ.lhs c i G)
  rhs c i G _ _ := (some (c.R.apt G i, c.R.apt G i, (s G).v, κ.v G), some E, some (Dat.size α, bytes, some (Dat.size α)), some (nilOr t E l (s G) z), n, true, true, κ.rhs G)
  sound c i ok hil hi h := fun o ho G w hs => by
    have h0 := h G {} w
    simp only [Prod.mk.injEq] at h0
    obtain ⟨e1, e2, e3, e4, rfl, e6, e7, e8⟩ := h0
    have hw : c.R.wrE r i = true := by unfold RC.wrE; rw [Cx.upsOf hi]; simp
    obtain ⟨en, a1, a2, a3⟩ := Cx.own_at ok hil hs e4 (by rw [hw]; simp)
    obtain ⟨own, hgood⟩ := nilOr_own (fun hz' => ⟨(hz hz').1, (hz hz').2 G⟩) a2
    obtain ⟨e', q1, q2, _⟩ := Src.get ok hil hs e8
    have hx := κ.rd G e' _ _ q1 (Cx.J_le hs κ.t) (entH_agrees q2)
    obtain ⟨v', en', w', hr, ho', hg⟩ := append_does ho e1 e2 e3 (of_decide_eq_true e6) (of_decide_eq_true e7) own a3 hx.sl (fun _ _ h => h) (by simpa using hb)
    obtain ⟨s', rfl⟩ := own_sv ho'
    unfold Does
    rw [hr]
    have hv := Cx.vis_self (c := c) (i := i) (G := G) { s := s', e := en' }
    refine ⟨{ s := s', e := en' }, left_turn ok hil hi hs rfl rfl a1 hg ?_ ?_ rfl rfl ?_⟩
    · show (c.R.vis i (RC.put G i { s := s', e := en' }) i).e = _
      rw [hv]
    · show bif t2 then OSl E _ l2 _ _ else OSl E _ l2 _ _
      rw [hv]
      have ho2 : OwnS E (Dat.size α) (rows l2) s'.v en' := by rw [hl, rows_append] at *; exact ho'
      have hgm : ∀ x ∈ m, Dat.good (c.J i G κ.t) x := κ.gd G e' _ q1
      have fin : ∀ x ∈ l2, Dat.good (c.J i G t2) x := fun x hx => by
        rcases ht with ht | ht
        · rw [hl] at hx
          rcases List.mem_append.1 hx with hx | hx
          · cases t2 with
            | true => have := hgood x hx; rw [(ht rfl).1] at this; exact this
            | false =>
              have := hgood x hx
              cases t
              · exact this
              · exact Dat.mono _ _ _ (Cx.J_true_le hs false) this
          · cases t2 with
            | true => have := hgm x hx; rw [(ht rfl).2] at this; exact this
            | false => exact Dat.mono _ _ _ (Cx.J_le_false hs _) (hgm x hx)
        · exact ht _ x
      cases t2
      · exact ⟨ho2, fin⟩
      · exact ⟨ho2, fin⟩
    · rw [Cx.valOf hi]
      show SV.v _ = _
      rw [hv]
/-- make -/
def mks {α : Type} [Dat α] (n r : Nat) (E : TypeId) (bytes : Nat) (k : Int) (l2 : List α) (hl : l2 = List.replicate k.toNat default) (h0 : 0 ≤ k) (h63 : k ≤ 9223372036854775807) (hb : bytes * k ≤ 281474976710656) : Hint P where
  d := { val := fun G => (G n).s.v, news := [(r, fun G => os true E l2 (G n).s, fun G => (G n).e)] }
  τ := Option (TypeId × Value × Value) × Option TypeId × Option (Nat × Nat × Option (List Value)) × Nat × List Value × Bool
  lhs c i G _ _ := (c.R.mkr G i, sliceOf P (c.R.mkt i), zeroOf P E, i, Dat.cells (default : α), (Dat.cells (default : α)).all cell1)
  rhs c i _ _ _ := (some (c.R.mkt i, .int .i64 k, .int .i64 k), some E, some (Dat.size α, bytes, some (Dat.cells (default : α))), n, Dat.cells (default : α), true)
  sound c i ok hil hi h := fun o ho G w hs => by
    have h1 := h G {} w
    simp only [Prod.mk.injEq] at h1
    obtain ⟨e1, e2, e3, rfl, _, e8⟩ := h1
    obtain ⟨o', hr, ho'⟩ := make_does (w := w) ho e1 e2 e3 (Dat.len _) e8 h0 h63 hb
    unfold Does
    rw [hr]
    have hv := Cx.vis_self (c := c) (i := i) (G := G) { s := ⟨atB w.heap.size, k.toNat, k.toNat⟩, e := some (w.heap.size, o') }
    refine ⟨{ s := ⟨atB w.heap.size, k.toNat, k.toNat⟩, e := some (w.heap.size, o') }, left_turn ok hil hi hs rfl rfl rfl grows_push ?_ ?_ rfl rfl ?_⟩
    · show (c.R.vis i (RC.put G i { s := ⟨atB w.heap.size, k.toNat, k.toNat⟩, e := some (w.heap.size, o') }) i).e = _
      rw [hv]
    · show OSl E _ l2 _ _
      rw [hv]
      refine ⟨?_, fun x hx => ?_⟩
      · have : rows l2 = List.replicate k.toNat (Dat.cells (default : α)) := by rw [hl]; simp [rows]
        rw [this]; exact ho'
      · rw [hl] at hx
        rw [(List.eq_of_mem_replicate hx : x = default)]
        exact Dat.zero _
    · rw [Cx.valOf hi]
      show SV.v _ = _
      rw [hv]
/-- a store into an element (or into cells of it) of an owned slice -/
def se {α : Type} [Dat α] {g : Prop} (Γ : GdI g) (n r : Nat) (E : TypeId) (t : Bool) (l : List α) (s : Gh → SV) (k : Int) (off : Option Nat) (x x' : α) (hx : x = l.getD k.toNat default) (t2 : Bool) (l2 : List α) (hl : l2 = l.set k.toNat x') (h : g → 0 ≤ k ∧ k < l.length)
    (ht : t2 = true → t = true) (qs : List Kv) (hq : ∀ G H, (∀ x ∈ l, Dat.good H x) → allR qs G H → Dat.good H x') : Hint P where
  d := { val := fun _ => undef, news := [(r, fun G => os t2 E l2 (s G), fun G => (G n).e)] }
  τ := Option (TypeId × Value × Value) × Option Nat × Bool × Option LE × Nat × Bool × List Value × Bool × List (Option (Bool × (Ent → Heaplet → Prop)) × Bool) × SV × Option Bool
  lhs c i G g _ := (c.R.str G i, sizeT P (c.R.stt i), decide (off.getD 0 + (c.R.stv G i).cells.toList.length ≤ Dat.size α), c.leAt i r G, i, (c.R.stv G i).cells.toList.all cell1, Dat.cells x', tOk t2 qs, qs.map (Kv.chk c i G), s (c.R.vis i (RC.put G i g)), Γ.B.map fun _ => c.R.gd G i)
  rhs c i G _ _ := (some (c.R.stt i, .pointer (some (offA (elemAddr (s G).v (k.toNat * Dat.size α)) off)), c.R.stv G i), some (c.R.stv G i).cells.toList.length, true, some (os t E l (s G)), n, true, writeL (Dat.cells x) (off.getD 0) (c.R.stv G i).cells.toList, true, qs.map (Kv.want G), s G, Γ.B)
  sound c i ok hil hi h0 := fun o ho G w hs => by
    have h1 := fun g => h0 G g w
    simp only [Prod.mk.injEq] at h1
    obtain ⟨e1, e2, e3, e4, rfl, e6, e7, e8, e9, _, e11⟩ := h1 {}
    obtain ⟨b0, b1⟩ := h (Cx.gdOk Γ hs e11)
    have hw : c.R.wrE r i = true := by unfold RC.wrE; rw [Cx.upsOf hi]; simp
    obtain ⟨en, a1, a2, a3⟩ := Cx.own_at ok hil hs e4 (by rw [hw]; simp)
    have own : OwnS E (Dat.size α) (rows l) (s G).v en ∧ ∀ x ∈ l, Dat.good (c.J i G t) x := by
      unfold os ow LE.at at a2
      cases t
      · exact ⟨a2.sl, a2.good⟩
      · exact ⟨a2.sl, a2.good⟩
    obtain ⟨en', w', hr, ho', hg⟩ := storeOwn_does (w := w) (k := k.toNat) (row := Dat.cells x) ho e1 (offA_eq _ _) e2 rfl own.1 a3 (get_map' (by omega) hx) (of_decide_eq_true e3) e6
    unfold Does
    rw [hr]
    have hv := Cx.vis_self (c := c) (i := i) (G := G) { e := en' }
    have hsv := (h1 { e := en' }).2.2.2.2.2.2.2.2.2.1
    refine ⟨{ e := en' }, left_turn ok hil hi hs rfl rfl a1 hg ?_ ?_ rfl rfl (by rw [Cx.valOf hi])⟩
    · show (c.R.vis i (RC.put G i { e := en' }) i).e = _
      rw [hv]
    · show bif t2 then OSl E _ l2 _ _ else OSl E _ l2 _ _
      rw [hv, hsv]
      have ho2 : OwnS E (Dat.size α) (rows l2) (s G).v en' := by
        have : rows l2 = (rows l).set k.toNat (writeL (Dat.cells x) (off.getD 0) (c.R.stv G i).cells.toList) := by rw [hl, ← e7]; simp [rows, List.map_set]
        rw [this]; exact ho'
      have hgl : ∀ x ∈ l, Dat.good (c.J i G t2) x := fun y hy => by
        cases t2 with
        | true => rw [← ht rfl]; exact own.2 y hy
        | false => exact Dat.mono _ _ _ (Cx.J_le_false hs _) (own.2 y hy)
      have fin : ∀ x ∈ l2, Dat.good (c.J i G t2) x := fun y hy => by
        rw [hl] at hy
        rcases List.mem_or_eq_of_mem_set hy with hy | hy
        · exact hgl y hy
        · rw [hy]; exact hq G _ hgl (allR_of ok hil hs e9 e8)
      cases t2
      · exact ⟨ho2, fin⟩
      · exact ⟨ho2, fin⟩
/-- a part of a slice that can be read -/
def sl {α : Type} [Dat α] {l : List α} {s : Gh → SV} {g : Prop} (Γ : GdI g) (κ : Kw α l s) (hf : κ.f = true) (lo hi : Option Int) (a b : Int) (ha : a = lo.getD 0) (hb : b = hi.getD l.length) (l2 : List α) (hl : l2 = (l.take b.toNat).drop a.toNat) (h : g → 0 ≤ a ∧ a ≤ b ∧ b ≤ l.length) : Hint P where
  d := { val := fun G => ((s G).sub (Dat.size α) a.toNat b.toNat).v, facts := fun G => [fs κ.t l2 ((s G).sub (Dat.size α) a.toNat b.toNat)], rds := κ.rdr }
  τ := Option (TypeId × Value × Option Value × Option Value × Bool) × Option Nat × SV × Option Bool × (Option (Bool × (Ent → Heaplet → Prop)) × Bool)
  lhs c i G g _ := (c.R.slr G i, (sliceOf P (c.R.slt i)).bind (sizeT P), s (c.R.vis i (RC.put G i g)), Γ.B.map fun _ => c.R.gd G i, κ.lhs c i G)
  rhs c i G _ _ := (some (c.R.slt i, κ.v G, lo.map (.int .i64 ·), hi.map (.int .i64 ·), true), some (Dat.size α), s G, Γ.B, κ.rhs G)
  sound c i ok hil hi h0 := fun o ho G w hs => by
    have h1 := h0 G {} w
    simp only [Prod.mk.injEq] at h1
    obtain ⟨e1, e2, e3, e4, e5⟩ := h1
    obtain ⟨b0, b1, b2⟩ := h (Cx.gdOk Γ hs e4)
    simp only [Option.bind_eq_some_iff] at e2
    obtain ⟨E, e2, e6⟩ := e2
    obtain ⟨en, q1, q2, _⟩ := Src.get ok hil hs e5
    have hr := κ.rj hf G en _ q1
    have hrun := slice_does (w := w) ho e1 e2 e6 ha hb hr.isSl b0 b1 b2
    unfold Does
    rw [hrun]
    obtain ⟨a1, a2, _⟩ := ahead ok hil hs (g := {}) no_H
    refine ⟨{}, left_grow ok hil hi hs rfl (Base.refl _ _) (fun b o h => by cases h) no_H (fun f hf' => ?_) trivial ?_⟩
    · have hf' : f = fs κ.t l2 ((s (c.R.vis i (RC.put G i {}))).sub (Dat.size α) a.toNat b.toNat) := by simpa using hf'
      rw [e3] at hf'
      subst hf'
      have hsub := hr.sub (lo := a.toNat) (hi := b.toNat) (by omega) (by omega)
      rw [← hl] at hsub
      have key : ∀ H, RSl H l2 (subV (κ.v G) (Dat.size α) a.toNat b.toNat) → RSl H l2 ((s G).sub (Dat.size α) a.toNat b.toNat).v := fun H hh => hh
      show bif κ.t then _ else _
      generalize κ.t = t at *
      cases t
      · exact (key _ hsub).mono a2
      · exact (key _ hsub).mono a1
    · rw [Cx.valOf hi]
      show SV.v _ = _
      rw [e3]; rfl
/-- the length of a slice -/
def ln {α : Type} [Dat α] {l : List α} {s : Gh → SV} (κ : Kw α l s) : Hint P where
  d := { val := fun _ => .int .i64 (l.length : Int), rds := κ.rdr }
  τ := (World → Option (Result Next)) × Value × (Option (Bool × (Ent → Heaplet → Prop)) × Bool)
  lhs c i G _ _ := (fun w => c.R.ex P G i w, c.R.val i (RC.put G i {}), κ.lhs c i G)
  rhs _ _ G _ _ := (fun w => some (.ok (.value (.int .i64 ((s G).n : Int))) w), .int .i64 (l.length : Int), κ.rhs G)
  sound c i ok hil hi h0 := fun o ho G w hs => by
    have h1 := h0 G {} w
    simp only [Prod.mk.injEq] at h1
    obtain ⟨e1, e2, e3⟩ := h1
    have e1 := congrFun e1 w
    simp only [RC.ex, ho, Option.map_some, Option.some.injEq] at e1
    have hr := κ.read ok hil hs e3
    obtain ⟨a, c', e, _⟩ := hr.isSl
    have hn : (s G).n = l.length := by
      unfold Kw.v SV.v at e
      injection e
    rw [hn] at e1
    exact still_does hi rfl (fun g => conj_nil hi rfl (fun _ => ⟨rfl, rfl⟩) _) e1 e2
end Hint
end Kb
set_option linter.unusedVariables false
set_option linter.unusedSectionVars false
set_option linter.unusedSimpArgs false
namespace Kb
open Go
def blks (es : List Ent) : List Nat := es.filterMap (·.map (·.1))
def Kv.fp (G : Gh) (q : Kv) : FP := fs true (q.l G) (q.s G)
/-- what a call has left: g are its choices -/
structure CPost (w w' : World) (H : Heaplet) (olds : List Ent) (V : Rec → Value) (F' : Rec → List FP) (L' : Rec → List LE) (pu : Rec → List Prop) (e : Ending) (g : Rec) : Prop where
  ret : e = .returned (V g)
  base : Base (blks olds) w w'
  agr : Agrees w' g.H
  new : New w g.H
  facts : ∀ f ∈ F' g, f.at g.H (hun g.H H)
  ent : ∀ (k b : Nat) (o : Obj), (ents (L' g) g.es)[k]? = some (some (b, o)) → w'.heap[b]? = some o ∧ (w.heap.size ≤ b ∨ b ∈ blks olds) ∧ g.H b = none
  dis : ∀ (k l b : Nat) (o o' : Obj), (ents (L' g) g.es)[k]? = some (some (b, o)) → (ents (L' g) g.es)[l]? = some (some (b, o')) → k = l
  own : ∀ (k : Nat) (x : LE), (L' g)[k]? = some x → x.at (g.es k) g.H (hun g.H H)
  pu : conjL (pu g)
/-- a contract: what must be readable, entries that are handed over, the result, what can be read of it, the entries behind the call -/
def Ct (P : Program) (f : FuncId) (args : Array Value) (F : List FP) (L : List LE) (V : Rec → Value) (F' : Rec → List FP) (L' : Rec → List LE) (pu : Rec → List Prop) : Prop :=
  ∀ (w : World) (H : Heaplet) (ε : Nat → Ent), Agrees w H → (∀ q ∈ F, q.p H) → StW w (blks (ents L ε)) [H] (ents L ε) w → (∀ (r : Nat) (x : LE), L[r]? = some x → x.at (ε r) H H) →
    Calls P f args w fun e w' => ∃ g, CPost w w' H (ents L ε) V F' L' pu e g
/-- a function that only computes -/
abbrev Cp (P : Program) (f : FuncId) (args : Array Value) (F : List FP) (v : Value) : Prop := Ct P f args F [] (fun _ => v) (fun _ => []) (fun _ => []) (fun _ => [])
theorem Ct.conv {P : Program} {f : FuncId} {args : Array Value} {F : List FP} {L : List LE} {V V' : Rec → Value} {F' F'' : Rec → List FP} {L' L'' : Rec → List LE} {pu pu' : Rec → List Prop} (h : Ct P f args F L V F' L' pu) (e1 : ∀ g, V g = V' g) (e2 : ∀ g, F' g = F'' g) (e3 : ∀ g, L' g = L'' g) (e4 : ∀ g, pu g = pu' g) : Ct P f args F L V' F'' L'' pu' := by
  rw [← funext e1, ← funext e2, ← funext e3, ← funext e4]; exact h
def LE.drop : LE → LE
  | .own _ p m q hq => .own false p m q hq
  | x => x
def newsOf (n : Nat) (L' : Gh → Rec → List LE) : List Nat → Nat → List (Nat × (Gh → LE) × (Gh → Ent))
  | [], _ => []
  | r :: l, k => (r, (fun G => ((L' G (G n))[k]?).getD .no), fun G => (G n).es k) :: newsOf n L' l (k + 1)
theorem newsOf_mem {n : Nat} {L' : Gh → Rec → List LE} : ∀ {rs : List Nat} {k0 : Nat} {q : Nat × (Gh → LE) × (Gh → Ent)}, q ∈ newsOf n L' rs k0 → ∃ k, rs[k]? = some q.1 ∧ q.2.1 = (fun G => ((L' G (G n))[k0 + k]?).getD .no) ∧ q.2.2 = fun G => (G n).es (k0 + k)
  | r :: l, k0, q, h => by
    rcases List.mem_cons.1 h with rfl | h
    · exact ⟨0, rfl, rfl, rfl⟩
    · obtain ⟨k, h1, h2, h3⟩ := newsOf_mem h
      exact ⟨k + 1, h1, by rw [h2]; funext G; rw [show k0 + 1 + k = k0 + (k + 1) by omega], by rw [h3]; funext G; rw [show k0 + 1 + k = k0 + (k + 1) by omega]⟩
theorem newsOf_fst {n : Nat} {L' : Gh → Rec → List LE} : ∀ {rs : List Nat} {k0 : Nat}, (newsOf n L' rs k0).map (·.1) = rs
  | [], _ => rfl
  | r :: l, k0 => by simp [newsOf, newsOf_fst]
theorem ents_ent {L : List LE} {ε : Nat → Ent} {k : Nat} : (((ents L ε)[k]?).getD none) = ((L[k]?).getD .no).ent (ε k) := by
  rw [ents_get]
  cases L[k]? <;> rfl
def wholeBut (w : World) (bs : List Nat) : Heaplet := fun b => if b ∈ bs then none else w.heap[b]?
theorem JV_none {G : Gh} {B : Heaplet} {b : Nat} (hB : B b = none) : ∀ n, (∀ j, j < n → (G j).H b = none) → JV G B n b = none
  | 0, _ => hB
  | n + 1, h => by simp only [JV, hun, h n (by omega), JV_none hB n fun j hj => h j (by omega)]
theorem sub_but {w : World} {H : Heaplet} {bs : List Nat} (h : Sub H (whole w)) (k : ∀ b ∈ bs, H b = none) : Sub H (wholeBut w bs) := fun b o e => by
  unfold wholeBut
  split
  · rename_i hb; rw [k b hb] at e; cases e
  · exact h b o e
def srcNot (rs : List Nat) : Src → Bool
  | .o r => !rs.contains r
  | _ => true
def LE.tag : LE → Bool
  | .own t _ _ _ _ => t
  | _ => true
def nodup : List Nat → Bool
  | [] => true
  | a :: l => !l.contains a && nodup l
theorem nodup_inj : ∀ {l : List Nat}, nodup l = true → ∀ {i j x : Nat}, l[i]? = some x → l[j]? = some x → i = j
  | a :: l, h, 0, 0, x, _, _ => rfl
  | a :: l, h, 0, j + 1, x, h1, h2 => by
    simp at h1; subst h1
    simp only [nodup, Bool.and_eq_true, Bool.not_eq_true', List.getElem?_cons_succ] at h h2
    have := List.mem_of_getElem? h2
    simp [this] at h
  | a :: l, h, i + 1, 0, x, h1, h2 => by
    simp at h2; subst h2
    simp only [nodup, Bool.and_eq_true, Bool.not_eq_true', List.getElem?_cons_succ] at h h1
    have := List.mem_of_getElem? h1
    simp [this] at h
  | a :: l, h, i + 1, j + 1, x, h1, h2 => by
    simp only [nodup, Bool.and_eq_true] at h
    have := nodup_inj h.2 (i := i) (j := j) (by simpa using h1) (by simpa using h2)
    omega
def qrds : List Kv → List Nat
  | [] => []
  | q :: l => q.κ.rdr ++ qrds l
theorem qrds_mem {q : Kv} {r : Nat} : ∀ {qs : List Kv}, q ∈ qs → q.κ.src = .o r → r ∈ qrds qs
  | q' :: l, h, hs => by
    unfold qrds
    rcases List.mem_cons.1 h with rfl | h
    · simp [Kq.rdr, hs]
    · exact List.mem_append_right _ (qrds_mem h hs)
/-- may the call be made so? ex: its results may hold what it was given to read -/
def sideOk (ex : Bool) (rs ns : List Nat) (qs : List Kv) (F' : List FP) (L' : List LE) : Bool :=
  nodup (rs ++ ns) && (L'.length == (rs ++ ns).length) && qs.all (fun q => srcNot rs q.κ.src) && (bif ex then qs.all (fun q => q.κ.f) else F'.all (·.t) && L'.all LE.tag)
namespace Hint
variable {P : Program}
def call {g : Prop} (Γ : GdI g) (n f : Nat) (ex : Bool) (rs ns : List Nat) (qs : List Kv) (args : Gh → Array Value) (L : Gh → List LE) (V : Gh → Rec → Value) (F' : Gh → Rec → List FP) (L' : Gh → Rec → List LE) (pu : Gh → Rec → List Prop)
    (ct : g → ∀ G, Ct P f (args G) (qs.map (Kv.fp G)) (L G) (V G) (F' G) (L' G) (pu G)) : Hint P where
  d := { val := fun G => V G (G n), facts := fun G => F' G (G n), news := newsOf n L' (rs ++ ns) 0, rds := qrds qs, pu := fun G => pu G (G n) }
  τ := Option (Result Next) × Nat × Value × List FP × List LE × List Prop × List (Option LE) × List (Option (Bool × (Ent → Heaplet → Prop)) × Bool) × Bool × Option Bool
  lhs c i G g w := (c.R.ex P G i w, i, V (c.R.vis i (RC.put G i g)) g, F' (c.R.vis i (RC.put G i g)) g, L' (c.R.vis i (RC.put G i g)) g, pu (c.R.vis i (RC.put G i g)) g, rs.map (fun r => (c.leAt i r G).map LE.drop), qs.map (Kv.chk c i G), sideOk ex rs ns qs (F' G g) (L' G g), Γ.B.map fun _ => c.R.gd G i)
  rhs _ _ G g w := (some (.ok (.enter f (args G)) w), n, V G g, F' G g, L' G g, pu G g, (L G).map some, qs.map (Kv.want G), true, Γ.B)
  sound c i ok hil hi h := fun o ho G w hs => by
    have h0 := h G {} w
    simp only [Prod.mk.injEq, RC.ex, ho, Option.map_some, Option.some.injEq] at h0
    obtain ⟨e1, rfl, _, _, _, _, e7, e8, _, e10⟩ := h0
    have hct := ct (Cx.gdOk Γ hs e10) G
    have hup := Cx.upsOf hi
    have hfst : (c.R.ups i).map (·.1) = rs ++ ns := by rw [hup, List.map_map]; exact newsOf_fst
    have hwr : ∀ r ∈ rs, c.R.wrE r i = true := fun r hr => by
      have : r ∈ (c.R.ups i).map (·.1) := by rw [hfst]; exact List.mem_append_left _ hr
      obtain ⟨p, hp, rfl⟩ := List.mem_map.1 this
      exact List.any_eq_true.2 ⟨p, hp, by simp⟩
    let olds := rs.map (c.R.entAt G i)
    let ε : Nat → Ent := fun k => c.R.entAt G i (rs.getD k 0)
    have hlen : (L G).length = rs.length := by have := congrArg List.length e7; simpa using this.symm
    have hLk : ∀ k r : Nat, rs[k]? = some r → ∃ x', c.leAt i r G = some x' ∧ (L G)[k]? = some x'.drop := fun k r hk => by
      have := congrArg (fun l : List (Option LE) => l[k]?) e7
      simp only [List.getElem?_map, hk, Option.map_some] at this
      cases hl : (L G)[k]? with
      | none => rw [hl] at this; cases this
      | some x =>
        rw [hl] at this
        simp only [Option.map_some, Option.some.injEq, Option.map_eq_some_iff] at this
        obtain ⟨x', h1, h2⟩ := this
        exact ⟨x', h1, by rw [h2]⟩
    have hdrop : ∀ (x : LE) e, x.drop.ent e = x.ent e := fun x e => by cases x <;> rfl
    have holds : ents (L G) ε = olds := by
      refine List.ext_getElem? fun k => ?_
      rw [ents_get]
      show _ = (rs.map (c.R.entAt G i))[k]?
      rw [List.getElem?_map]
      cases hk : rs[k]? with
      | none =>
        have : (L G)[k]? = none := by rw [List.getElem?_eq_none_iff] at hk ⊢; omega
        rw [this]; rfl
      | some r =>
        obtain ⟨x', h1, h2⟩ := hLk k r hk
        obtain ⟨e, a1, _, _⟩ := Cx.own_at ok hil hs h1 (by rw [hwr r (List.mem_of_getElem? hk)]; simp)
        have hε : ε k = c.R.entAt G i r := by show c.R.entAt G i (rs.getD k 0) = _; rw [List.getD_eq_getElem?_getD, hk]; rfl
        rw [h2]
        simp only [Option.map_some, Option.some.injEq]
        rw [hdrop, hε, a1]
        cases x' <;> rfl
    -- what the callee may read
    have hside : ∀ g, sideOk ex rs ns qs (F' G g) (L' G g) = true := fun g => by
      have := h G g w
      simp only [Prod.mk.injEq] at this
      exact this.2.2.2.2.2.2.2.2.1
    have hs0 := hside {}
    unfold sideOk at hs0
    simp only [Bool.and_eq_true] at hs0
    obtain ⟨⟨⟨hnd, _⟩, hsrc⟩, hex⟩ := hs0
    have hblk : ∀ b ∈ blks olds, ∃ r ∈ rs, ∃ o, c.R.entAt G i r = some (b, o) := fun b hb => by
      obtain ⟨x, hx, hxb⟩ := List.mem_filterMap.1 hb
      obtain ⟨r, hr, rfl⟩ := List.mem_map.1 hx
      cases he : c.R.entAt G i r with
      | none => rw [he] at hxb; cases hxb
      | some p => rw [he] at hxb; simp at hxb; subst hxb; exact ⟨r, hr, p.2, he⟩
    have hent := fun r hr => hs.ent r (by rw [hwr r hr]; simp)
    have hJnone : ∀ t, ∀ b ∈ blks olds, c.J i G t b = none := fun t b hb => by
      obtain ⟨r, hr, o', he⟩ := hblk b hb
      obtain ⟨_, _, h3, h4⟩ := hent r hr b o' he
      refine JV_none ?_ _ fun j _ => ?_
      · have hK : hun c.N c.H b = none := h3 _ (by show _ ∈ [_]; simp)
        cases t
        · exact hK
        · cases hN : c.N b with
          | none => exact hN
          | some o'' => unfold hun at hK; rw [hN] at hK; cases hK
      · unfold Cx.pre
        cases hb' : c.R.bef i j with
        | false => rfl
        | true => exact h4 j hb'
    let Hc : Heaplet := bif ex then c.J i G false else wholeBut w (blks olds)
    have hJc : ∀ t, Sub (c.J i G t) Hc := fun t => by
      cases hx : ex with
      | true => show Sub _ (bif ex then _ else _); rw [hx]; exact Cx.J_le_false hs t
      | false => show Sub _ (bif ex then _ else _); rw [hx]; exact sub_but (Cx.J_le hs t) (hJnone t)
    have hCw : Agrees w Hc := by
      cases hx : ex with
      | true => show Agrees w (bif ex then _ else _); rw [hx]; exact Cx.J_le hs false
      | false =>
        show Agrees w (bif ex then _ else _); rw [hx]
        intro b o e
        simp only [cond_false, wholeBut] at e
        split at e
        · cases e
        · exact e
    have hCn : ∀ b ∈ blks olds, Hc b = none := fun b hb => by
      cases hx : ex with
      | true => show (bif ex then _ else _ : Heaplet) b = none; rw [hx]; exact hJnone false b hb
      | false => show (bif ex then _ else _ : Heaplet) b = none; rw [hx]; simp only [cond_false, wholeBut]; rw [if_pos hb]
    have hfacts : ∀ q ∈ qs.map (Kv.fp G), q.p Hc := fun p hp => by
      obtain ⟨q, hq, rfl⟩ := List.mem_map.1 hp
      have hm : q.κ.src.what c i G = (some (q.κ.t, q.κ.p G), true) := map_eq e8 q hq
      obtain ⟨e, a1, a2, a3, a4⟩ := Src.get ok hil hs hm
      cases hx : ex with
      | true =>
        rw [hx] at hex
        simp only [cond_true] at hex
        exact (q.κ.rj (List.all_eq_true.1 hex q hq) G e _ a1).mono (hJc _)
      | false =>
        refine q.κ.rd G e _ _ a1 (hJc _) ?_
        show Sub _ (bif ex then _ else _)
        rw [hx]
        refine sub_but (entH_agrees a2) fun b hb => ?_
        by_cases hsr : ∃ r, q.κ.src = .o r
        · obtain ⟨r, hsr⟩ := hsr
          have hE := a3 r hsr
          have hr : r ∉ rs := by
            have := List.all_eq_true.1 hsrc q hq
            rw [hsr] at this
            simpa [srcNot] using this
          obtain ⟨r', hr', o', he⟩ := hblk b hb
          cases hne : entH e b with
          | none => rfl
          | some o'' =>
            exfalso
            have hb2 : c.R.entAt G i r = some (b, o'') := by
              rw [hE]
              cases e with
              | none => cases hne
              | some p =>
                unfold entH at hne
                simp only at hne
                split at hne
                · rename_i hbe; subst hbe; cases hne; rfl
                · cases hne
            have hrd : ((c.R.c i).rds.contains r || c.R.wrE r i) = true := by
              rw [Cx.c_of hi]
              have : (qrds qs).contains r = true := by simpa using qrds_mem hq hsr
              show ((qrds qs).contains r || _) = true
              rw [this]; rfl
            have := hs.dis r r' b o'' o' hrd (by rw [hwr r' hr']; simp) hb2 he
            subst this; exact hr hr'
        · rw [a4 fun r hr => hsr ⟨r, hr⟩]; rfl
    have hst : StW w (blks olds) [Hc] olds w := by
      refine ⟨Base.refl _ _, fun K hK => ?_, fun k b o hk => ?_, fun k l b o o' hk hl => ?_⟩
      · have : K = Hc := by simpa using hK
        subst this; exact hCw
      · have hm : some (b, o) ∈ olds := List.mem_of_getElem? hk
        obtain ⟨r, hr, he⟩ := List.mem_map.1 hm
        have hbb : b ∈ blks olds := List.mem_filterMap.2 ⟨_, hm, rfl⟩
        refine ⟨(hent r hr b o he).1, .inr hbb, fun K hK => ?_⟩
        have : K = Hc := by simpa using hK
        subst this; exact hCn b hbb
      · have h1 : (rs.map (c.R.entAt G i))[k]? = some (some (b, o)) := hk
        have h2 : (rs.map (c.R.entAt G i))[l]? = some (some (b, o')) := hl
        simp only [List.getElem?_map, Option.map_eq_some_iff] at h1 h2
        obtain ⟨r, hr, he⟩ := h1
        obtain ⟨r', hr', he'⟩ := h2
        have hm := List.mem_of_getElem? hr
        have hm' := List.mem_of_getElem? hr'
        have := hs.dis r r' b o o' (by rw [hwr r hm]; simp) (by rw [hwr r' hm']; simp) he he'
        subst this
        refine nodup_inj (l := rs ++ ns) hnd (x := r) ?_ ?_
        · rw [List.getElem?_append_left (List.getElem?_eq_some_iff.1 hr).1]; exact hr
        · rw [List.getElem?_append_left (List.getElem?_eq_some_iff.1 hr').1]; exact hr'
    have hown : ∀ (k : Nat) (x : LE), (L G)[k]? = some x → x.at (ε k) Hc Hc := fun k x hx => by
      have hk : k < rs.length := by have := (List.getElem?_eq_some_iff.1 hx).1; omega
      have hk' : rs[k]? = some rs[k] := List.getElem?_eq_getElem hk
      obtain ⟨x', h1, h2⟩ := hLk k _ hk'
      rw [hx] at h2
      cases h2
      obtain ⟨e, a1, a2, _⟩ := Cx.own_at ok hil hs h1 (by rw [hwr _ (List.getElem_mem hk)]; simp)
      have hε : ε k = c.R.entAt G i rs[k] := by show c.R.entAt G i (rs.getD k 0) = _; rw [List.getD_eq_getElem?_getD, hk']; rfl
      cases x' with
      | own t p m q hq =>
        rw [hε, a1]
        show p e Hc
        cases t
        · exact m _ _ _ (hJc false) a2
        · exact m _ _ _ (hJc true) a2
      | _ => trivial
    have hcall := hct w Hc ε hCw hfacts (by rw [holds]; exact hst) hown
    rw [holds] at hcall
    unfold Does
    rw [e1]
    refine hcall.mono ?_
    rintro e w' ⟨g, C⟩
    refine ⟨_, C.ret, g, ?_⟩
    have hg := h G g w
    simp only [Prod.mk.injEq] at hg
    obtain ⟨_, _, f1, f2, f3, f4, _, _, f5, _⟩ := hg
    unfold sideOk at f5
    simp only [Bool.and_eq_true, beq_iff_eq] at f5
    obtain ⟨⟨⟨_, hll⟩, _⟩, hex'⟩ := f5
    have hv := Cx.vis_self (c := c) (i := i) (G := G) g
    obtain ⟨a1, a2, a3, a4⟩ := ahead ok hil hs C.new
    -- where the callee's facts hold
    have to2 : ex = true → Sub (hun g.H Hc) (JV (c.R.vis i (RC.put G i g)) (hun c.N c.H) c.ops.size) := fun hx => hun_sub a4 (by
      show Sub (bif ex then _ else _) _
      rw [hx]; exact a2)
    have hentk : ∀ k : Nat, (((L' (c.R.vis i (RC.put G i g)) g)[k]?).getD .no).ent (g.es k) = ((ents (L' G g) g.es)[k]?).getD none := fun k => by rw [f3, ents_ent]
    have hp2 : ∀ p ∈ c.R.ups i, ∃ k : Nat, (rs ++ ns)[k]? = some p.1 ∧ p.2 (RC.put G i g) = ((ents (L' G g) g.es)[k]?).getD none := fun p hp => by
      rw [hup] at hp
      obtain ⟨q, hq, rfl⟩ := List.mem_map.1 hp
      obtain ⟨k, h1, h2, h3⟩ := newsOf_mem hq
      refine ⟨k, h1, ?_⟩
      show (q.2.1 _).ent (q.2.2 _) = _
      rw [h2, h3, ← hentk k]
      simp only [hv, Nat.zero_add]
    refine ⟨?_, fact_of ok hil hi hs C.new (fun f hf => ?_) (fun q hq => ?_) ?_, ?_, C.agr, C.new, fun p hp b o hb => ?_, fun p hp q hq b o o' hb hb' => ?_⟩
    · rw [Cx.valOf hi]
      show _ = V _ (c.R.vis i (RC.put G i g) i)
      rw [hv, f1]
    · have hf' : f ∈ F' (c.R.vis i (RC.put G i g)) (c.R.vis i (RC.put G i g) i) := hf
      rw [hv, f2] at hf'
      have hc := C.facts f hf'
      unfold FP.at at hc ⊢
      cases ht : f.t with
      | true => rw [ht] at hc; exact f.m _ _ a3 hc
      | false =>
        rw [ht] at hc
        cases hx : ex with
        | true => exact f.m _ _ (to2 hx) hc
        | false =>
          rw [hx] at hex'
          simp only [cond_false, Bool.and_eq_true] at hex'
          have := List.all_eq_true.1 hex'.1 f hf'
          rw [ht] at this; cases this
    · obtain ⟨k, h1, h2, h3⟩ := newsOf_mem hq
      rw [h2, h3]
      simp only [hv, Nat.zero_add]
      rw [f3]
      cases hk : (L' G g)[k]? with
      | none => trivial
      | some x =>
        have hc := C.own k x hk
        simp only [Option.getD_some]
        cases x with
        | own t p m q hq =>
          cases t with
          | true => exact m _ _ _ a3 hc
          | false =>
            cases hx : ex with
            | true => exact m _ _ _ (to2 hx) hc
            | false =>
              rw [hx] at hex'
              simp only [cond_false, Bool.and_eq_true] at hex'
              have := List.all_eq_true.1 hex'.2 _ (List.mem_of_getElem? hk)
              simp [LE.tag] at this
        | _ => trivial
    · show conjL (pu _ (c.R.vis i (RC.put G i g) i))
      rw [hv, f4]; exact C.pu
    · refine ⟨C.base.os, C.base.tape, C.base.output, C.base.size, fun b hb hnb => C.base.keep b hb fun hm => hnb ?_⟩
      obtain ⟨r, hr, o', he⟩ := hblk b hm
      have : r ∈ (c.R.ups i).map (·.1) := by rw [hfst]; exact List.mem_append_left _ hr
      obtain ⟨p, hp, hpr⟩ := List.mem_map.1 this
      exact List.mem_filterMap.2 ⟨p, hp, by rw [hpr, he]; rfl⟩
    · obtain ⟨k, h1, h2⟩ := hp2 p hp
      rw [h2] at hb
      cases hk : (ents (L' G g) g.es)[k]? with
      | none => rw [hk] at hb; cases hb
      | some x =>
        rw [hk] at hb
        simp only [Option.getD_some] at hb
        subst hb
        obtain ⟨b1, b2, b3⟩ := C.ent k b o hk
        refine ⟨b1, ?_, b3⟩
        rcases b2 with b2 | b2
        · exact .inl b2
        · obtain ⟨r, hr, o', he⟩ := hblk b b2
          have : r ∈ (c.R.ups i).map (·.1) := by rw [hfst]; exact List.mem_append_left _ hr
          obtain ⟨q, hq, hqr⟩ := List.mem_map.1 this
          exact .inr ⟨q, hq, o', by rw [hqr]; exact he⟩
    · obtain ⟨k, h1, h2⟩ := hp2 p hp
      obtain ⟨l, h3, h4⟩ := hp2 q hq
      rw [h2] at hb
      rw [h4] at hb'
      have get : ∀ (k b : Nat) (o : Obj), ((ents (L' G g) g.es)[k]?).getD none = some (b, o) → (ents (L' G g) g.es)[k]? = some (some (b, o)) := fun k b o hh => by
        cases hk : (ents (L' G g) g.es)[k]? with
        | none => rw [hk] at hh; cases hh
        | some x => rw [hk] at hh; simp only [Option.getD_some] at hh; rw [hh]
      have := C.dis k l b o o' (get k b o hb) (get l b o' hb')
      subst this
      rw [h1] at h3
      exact Option.some.inj h3
end Hint
end Kb
set_option linter.unusedVariables false
set_option linter.unusedSectionVars false
set_option linter.unusedSimpArgs false
namespace Kb
open Go
/-! ### code with its stack -/
inductive Fr where
  | seq (c : Code)
  | block (id : Nat)
  | rnd (Z : Act → World → Prop)
  | rndN (c : Code) (n : Nat)
section
variable (P : Program) (Q : Exit → Act → World → Prop)
def run : List Fr → Exit → Act → World → Prop
  | [] => Q
  | .seq c :: K => Exit.then (fun a w => c.wp P (run K) a w) (run K)
  | .block id :: K => Exit.inBlock id (run K)
  | .rnd Z :: K => Exit.then Z (run K)
  | .rndN c n :: K => Exit.then (Code.rounds P c (run K) n) (run K)
inductive Stop where
  | reg (id : Nat) (ops : Array Oper) (draw : Bool) (K : List Fr)
  | cond (c : Operand) (x y : Code) (K : List Fr)
  | loop (b : Code) (K : List Fr)
  | rnd (Z : Act → World → Prop) (K : List Fr)
  | rndN (c : Code) (n : Nat) (K : List Fr)
  | fin (e : Exit)
  | no
def Stop.wp : Stop → Act → World → Prop
  | .reg id ops d K => (Code.region id ops d).wp P (run P Q K)
  | .cond c x y K => (Code.cond c x y).wp P (run P Q K)
  | .loop b K => (Code.loop b).wp P (run P Q K)
  | .rnd Z _ => Z
  | .rndN c n K => Code.rounds P c (run P Q K) n
  | .fin e => Q e
  | .no => fun _ _ => False
end
/-- the next place where something is done: code, or an exit through the stack -/
def norm : Nat → Code ⊕ Exit → List Fr → Stop
  | 0, _, _ => .no
  | n + 1, .inl c, K => match c with
    | .seq x y => norm n (.inl x) (.seq y :: K)
    | .block id x => norm n (.inl x) (.block id :: K)
    | .skip => norm n (.inr .normal) K
    | .ret => norm n (.inr .ret) K
    | .exit i => norm n (.inr (.exit i)) K
    | .region id ops d => .reg id ops d K
    | .cond c x y => .cond c x y K
    | .loop b => .loop b K
    | _ => .no
  | n + 1, .inr e, K => match K with
    | [] => .fin e
    | .seq c :: K => match e with
      | .normal => norm n (.inl c) K
      | .ret => norm n (.inr .ret) K
      | .exit i => norm n (.inr (.exit i)) K
      | _ => .no
    | .block id :: K => match e with
      | .normal => norm n (.inr .normal) K
      | .ret => norm n (.inr .ret) K
      | .exit i => bif Nat.beq i id then norm n (.inr .normal) K else norm n (.inr (.exit i)) K
      | _ => .no
    | .rnd Z :: K => match e with
      | .normal => .rnd Z K
      | .ret => norm n (.inr .ret) K
      | .exit i => norm n (.inr (.exit i)) K
      | _ => .no
    | .rndN c m :: K => match e with
      | .normal => .rndN c m K
      | .ret => norm n (.inr .ret) K
      | .exit i => norm n (.inr (.exit i)) K
      | _ => .no
section
variable {P : Program} {Q : Exit → Act → World → Prop}
def wpx (P : Program) (Q : Exit → Act → World → Prop) (x : Code ⊕ Exit) (K : List Fr) : Act → World → Prop := match x with
  | .inl c => c.wp P (run P Q K)
  | .inr e => run P Q K e
theorem norm_sound : ∀ n (x : Code ⊕ Exit) K a w, (norm n x K).wp P Q a w → wpx P Q x K a w
  | 0, _, _, _, _, h => h.elim
  | n + 1, .inl c, K, a, w, h => by
    cases c <;> simp only [norm] at h <;> first | exact h.elim | exact h | skip
    case skip => exact wp_skip (norm_sound n _ _ _ _ h)
    case seq x y => exact wp_seq (norm_sound n _ _ _ _ h)
    case block id x => exact wp_block (norm_sound n _ _ _ _ h)
    case exit i => exact wp_exit (norm_sound n _ _ _ _ h)
    case ret => exact wp_ret (norm_sound n _ _ _ _ h)
  | n + 1, .inr e, K, a, w, h => by
    cases K with
    | nil => exact h
    | cons f K =>
      cases f with
      | seq c => cases e <;> simp only [norm] at h <;> first | exact h.elim | (have := norm_sound n _ _ _ _ h; exact this)
      | rndN c m => cases e <;> simp only [norm] at h <;> first | exact h.elim | exact h | (have := norm_sound n _ _ _ _ h; exact this)
      | rnd Z => cases e <;> simp only [norm] at h <;> first | exact h.elim | exact h | (have := norm_sound n _ _ _ _ h; exact this)
      | block id =>
        cases e <;> simp only [norm] at h <;> first | exact h.elim | skip
        case normal => have := norm_sound n _ _ _ _ h; exact this
        case ret => have := norm_sound n _ _ _ _ h; exact this
        case exit i =>
          show if i = id then _ else _
          by_cases hi : i = id
          · rw [if_pos hi]
            have : Nat.beq i id = true := by subst hi; exact Nat.beq_refl i
            rw [this] at h
            have := norm_sound n _ _ _ _ h; exact this
          · rw [if_neg hi]
            have : Nat.beq i id = false := by
              cases hb : Nat.beq i id with
              | false => rfl
              | true => exact absurd (Nat.eq_of_beq_eq_true hb) hi
            rw [this] at h
            have := norm_sound n _ _ _ _ h; exact this
end
structure Env (P : Program) where
  nt : Nat
  w0 : World
  X : List Nat
  H : Heaplet
  Q : Exit → Act → World → Prop
  mo : P.follows .mixedOrders = true
def V {P : Program} (E : Env P) (S : Stop) (t : St) : Prop := ∀ N ε a w, t.In E.nt E.w0 E.X E.H N ε a w → S.wp P E.Q a w
namespace Stop
def rid : Stop → Nat
  | .reg id _ _ _ => id
  | _ => 0
def ops : Stop → Array Oper
  | .reg _ ops _ _ => ops
  | _ => #[]
def dr : Stop → Bool
  | .reg _ _ d _ => d
  | _ => false
def K : Stop → List Fr
  | .reg _ _ _ K => K
  | .cond _ _ _ K => K
  | .loop _ K => K
  | .rnd _ K => K
  | .rndN _ _ K => K
  | _ => []
def x : Stop → Code
  | .cond _ x _ _ => x
  | .loop b _ => b
  | .rndN c _ _ => c
  | _ => .skip
def y : Stop → Code
  | .cond _ _ y _ => y
  | _ => .skip
def cn : Stop → Operand
  | .cond c _ _ _ => c
  | _ => .const undef
def next (S : Stop) : Stop := norm 200 (.inr .normal) S.K
def inX (S : Stop) : Stop := norm 200 (.inl S.x) S.K
def inY (S : Stop) : Stop := norm 200 (.inl S.y) S.K
end Stop

/-! ### regions -/
section
variable {P : Program}
def Prods : List (Hint P) → Type
  | [] => Unit
  | h :: l => (Gh → Rec → World → h.τ) × Prods l
def lhsAll (c : Cx P) : (l : List (Hint P)) → Nat → Prods l
  | [], _ => ()
  | h :: l, i => (h.lhs c i, lhsAll c l (i + 1))
def rhsAll (c : Cx P) : (l : List (Hint P)) → Nat → Prods l
  | [], _ => ()
  | h :: l, i => (h.rhs c i, rhsAll c l (i + 1))
theorem all_get {c : Cx P} : ∀ {l : List (Hint P)} {k : Nat}, lhsAll c l k = rhsAll c l k → ∀ (j : Nat) (h : Hint P), l[j]? = some h → ∀ G g w, h.lhs c (k + j) G g w = h.rhs c (k + j) G g w
  | h' :: l, k, e, 0, h, hj, G, g, w => by
    have e1 := congrArg (fun p : (Gh → Rec → World → h'.τ) × Prods l => p.1) e
    simp at hj; subst hj
    exact congrFun (congrFun (congrFun e1 G) g) w
  | h' :: l, k, e, j + 1, h, hj, G, g, w => by
    have e2 : lhsAll c l (k + 1) = rhsAll c l (k + 1) := congrArg (fun p : (Gh → Rec → World → h'.τ) × Prods l => p.2) e
    have := all_get e2 j h (by simpa using hj) G g w
    rwa [show k + 1 + j = k + (j + 1) by omega] at this
def cxOf (E : Env P) (S : Stop) (t : St) (hs : List (Hint P)) (N : Heaplet) (ε : Nat → Ent) : Cx P := ⟨E.nt, E.w0, E.X, E.H, N, ε, t, S.ops, hs.map (·.d)⟩
variable (c : Cx P) (G : Gh)
def Cx.sure (j : Nat) {α : Type _} (f : HintD → List α) : List α := bif (c.R.grd j).isNone then ((c.hs[j]?).map f).getD [] else []
def Cx.leFin (r : Nat) : LE := match lastW (c.R.wrE r) c.ops.size with
  | some k => ((c.hs[k]?).bind fun h => (h.news.find? fun q => q.1 == r).map fun q => q.2.1 (c.R.vis k G)).getD .no
  | none => (c.t.L[r]?).getD .no
/-- the state behind a region -/
def post : St where
  sl := (c.ops.toList.filterMap (·.dst)).map (fun s => (s, c.R.fin G s)) ++ c.t.sl
  F := c.t.F ++ (List.range c.ops.size).flatMap fun j => c.sure j fun h => h.facts (c.R.vis j G)
  L := (List.range c.t.L.length).map (c.leFin G)
/-- what else is known then -/
def Cx.know : List Prop := ((List.range c.ops.size).flatMap fun j => c.sure j fun h => h.pu (c.R.vis j G)) ++ ((List.range c.ops.size).flatMap fun j => c.sure j fun h => (h.facts (c.R.vis j G)).map (·.q)) ++ (List.range c.t.L.length).flatMap fun r => (c.leFin G r).lim
end
section
variable {P : Program} {c : Cx P} {G : Gh} {a : Act} {w : World}
theorem Cx.sure_mem {α : Type _} {j : Nat} {f : HintD → List α} {x : α} (ok : c.Ok) (hj : j < c.ops.size) (h : x ∈ c.sure j f) : (∀ G, c.R.gd G j = true) ∧ ∃ d, c.hs[j]? = some d ∧ x ∈ f d := by
  unfold sure at h
  cases hg : (c.R.grd j).isNone with
  | false => rw [hg] at h; cases h
  | true =>
    rw [hg] at h
    refine ⟨fun G => ?_, ?_⟩
    · rw [RC.gd_eq ok.hc]
      cases hgr : c.R.grd j with
      | none => rfl
      | some p => rw [hgr] at hg; cases hg
    · cases hd : c.hs[j]? with
      | none => rw [hd] at h; simp at h
      | some d => rw [hd] at h; exact ⟨d, rfl, by simpa using h⟩
theorem post_in (ok : c.Ok) (d : c.R.Done c.nt c.w0 c.X G a w) :
    (post c G).In c.nt c.w0 c.X c.H (JV G c.N c.ops.size) (fun r => c.R.entF G r) a w ∧ conjL (c.know G) := by
  have hAll : ∀ j, j < c.ops.size → Agrees w (G j).H := fun j hj => by
    have := (d.st (List.range c.ops.size) fun i hi => List.mem_range.1 hi).agr (G j).H (List.mem_append_left _ (List.mem_map.2 ⟨j, List.mem_range.2 hj, rfl⟩))
    exact this
  have hst := d.st (List.range c.ops.size) fun i hi => List.mem_range.1 hi
  have hK : Agrees w (hun c.N c.H) := hst.agr _ (List.mem_append_right _ (by show _ ∈ [_]; simp))
  have hB : ∀ t, Sub (c.B0 t) (whole w) := fun t => (Cx.B0_le t).trans hK
  have hJ : ∀ t, Sub (JV G (c.B0 t) c.ops.size) (whole w) := fun t => JV_le (hB t) _ hAll
  have hb : ∀ t, Sub (c.B0 t) (JV G (c.B0 t) c.ops.size) := fun t => JV_base (hB t) _ hAll
  have hvis : ∀ j, j < c.ops.size → ∀ t, Sub (JV (c.R.vis j G) (c.B0 t) c.ops.size) (JV G (c.B0 t) c.ops.size) := fun j hj t =>
    JV_mono (hB t) _ hAll (fun k hk => by
      unfold RC.vis
      cases hbj : (c.R.bef j k || k == j) with
      | false => exact .inl rfl
      | true => exact .inr rfl) (Sub.refl _)
  have eK : hun (JV G c.N c.ops.size) c.H = JV G (hun c.N c.H) c.ops.size := (JV_hun _).symm
  have opf : ∀ j h, j < c.ops.size → c.hs[j]? = some h → c.R.gd G j = true → (∀ f ∈ h.facts (c.R.vis j G), f.at (JV G c.N c.ops.size) (JV G (hun c.N c.H) c.ops.size)) ∧ (∀ q ∈ h.news, (q.2.1 (c.R.vis j G)).at (q.2.2 (c.R.vis j G)) (JV G c.N c.ops.size) (JV G (hun c.N c.H) c.ops.size)) ∧ conjL (h.pu (c.R.vis j G)) := fun j h hj hh hg => by
    have hf := d.fact j hj hg
    rw [Cx.factOf hh] at hf
    have hf := conjL_mem hf
    refine ⟨fun f hm => FP.mono (hf _ (by simp only [List.mem_append, List.mem_map]; exact .inl (.inl ⟨f, hm, rfl⟩))) (hvis j hj true) (hvis j hj false), fun q hq => LE.mono (LE.ats_at.1 (conjL_of fun p hp => hf _ ?_)) (hvis j hj true) (hvis j hj false), conjL_of fun p hp => hf _ (by simp only [List.mem_append]; exact .inr hp)⟩
    simp only [List.mem_append, List.mem_flatMap]
    exact .inl (.inr ⟨q, hq, hp⟩)
  have gdw : ∀ r k, lastW (c.R.wrE r) c.ops.size = some k → k < c.ops.size ∧ c.R.gd G k = true ∧ c.R.wrE r k = true := fun r k hl => by
    obtain ⟨hk, hw, _⟩ := lastW_some hl
    refine ⟨hk, ?_, hw⟩
    obtain ⟨o', ho'⟩ := Cx.opAt ok hk
    have C' := RC.chk ok.hc ho'
    cases hg : c.R.grd k with
    | none => rw [RC.gd_eq ok.hc, hg]
    | some jw =>
      obtain ⟨j, want⟩ := jw
      obtain ⟨o'', ho'', hgo⟩ := RC.grd_some hg
      rw [ho'] at ho''; cases ho''
      rcases (C'.grd j want hgo).2.2.1 with hu | hu
      · obtain ⟨p, _, hp, _⟩ := RC.wrE_find hw
        rw [hu] at hp; cases hp
      · exact RC.gd_sure ok.hc G k hu
  -- an entry behind the region
  have hle : ∀ r, r < c.t.L.length → (c.leFin G r).ent (c.R.entF G r) = c.R.entF G r ∧ (c.leFin G r).at (c.R.entF G r) (JV G c.N c.ops.size) (JV G (hun c.N c.H) c.ops.size) := fun r hr => by
    unfold Cx.leFin RC.entF
    show LE.ent (match lastW (c.R.wrE r) c.R.ops.size with | some k => c.R.entOf G k r | none => (c.R.L[r]?).getD none) _ = _ ∧ _
    have e0 : c.R.ops.size = c.ops.size := rfl
    rw [e0]
    cases hl : lastW (c.R.wrE r) c.ops.size with
    | none =>
      simp only []
      have hx : c.t.L[r]? = some c.t.L[r] := List.getElem?_eq_getElem hr
      have he : (c.R.L[r]?).getD none = (c.t.L[r]).ent (c.ε r) := by
        show ((ents c.t.L c.ε)[r]?).getD none = _
        rw [ents_get, hx]; rfl
      rw [he, hx]
      simp only [Option.getD_some]
      have h1 := LE.mono (ok.own r _ hx) (hb true) (hb false)
      cases hle : c.t.L[r] with
      | own t p m q hq => rw [hle] at h1; exact ⟨rfl, h1⟩
      | _ => exact ⟨rfl, trivial⟩
    | some k =>
      simp only []
      obtain ⟨hk, hg, hw⟩ := gdw r k hl
      have hlen : k < c.hs.length := by rw [ok.len]; exact hk
      have hh : c.hs[k]? = some c.hs[k] := List.getElem?_eq_getElem hlen
      have hfind : ∃ q, (c.hs[k]).news.find? (fun q => q.1 == r) = some q := by
        obtain ⟨p, _, hp, hpr⟩ := RC.wrE_find hw
        rw [Cx.upsOf hh] at hp
        obtain ⟨q, hq, rfl⟩ := List.mem_map.1 hp
        have : ((c.hs[k]).news.find? (fun q => q.1 == r)).isSome = true := List.find?_isSome.2 ⟨q, hq, by simpa using hpr⟩
        exact Option.isSome_iff_exists.1 this
      obtain ⟨q, hq⟩ := hfind
      have he : c.R.entOf G k r = (q.2.1 (c.R.vis k G)).ent (q.2.2 (c.R.vis k G)) := by
        unfold RC.entOf
        rw [Cx.upsOf hh, List.find?_map]
        have : ((c.hs[k]).news.find? ((fun p : Nat × (Gh → Ent) => p.1 == r) ∘ fun q => (q.1, fun G => (q.2.1 (c.R.vis k G)).ent (q.2.2 (c.R.vis k G))))) = some q := hq
        rw [this]; rfl
      have hf := (opf k _ hk hh hg).2.1 q (List.mem_of_find?_eq_some hq)
      rw [he, hh]
      simp only [Option.bind_some, hq, Option.map_some, Option.getD_some]
      cases hle : q.2.1 (c.R.vis k G) with
      | own t p m q' hq' => rw [hle] at hf; exact ⟨rfl, hf⟩
      | _ => exact ⟨rfl, trivial⟩
  have hLk : ∀ r x, (post c G).L[r]? = some x → r < c.t.L.length ∧ x = c.leFin G r := fun r x hx => by
    have hx : ((List.range c.t.L.length).map (c.leFin G))[r]? = some x := hx
    rw [List.getElem?_map] at hx
    rcases Nat.lt_or_ge r c.t.L.length with h | h
    · rw [List.getElem?_range h] at hx; exact ⟨h, (by simpa using hx.symm)⟩
    · rw [List.getElem?_eq_none (by simpa using h)] at hx; cases hx
  have hents : ∀ r b o, (ents (post c G).L fun r => c.R.entF G r)[r]? = some (some (b, o)) → ((List.range c.R.L.length).map (c.R.entF G))[r]? = some (some (b, o)) := fun r b o h => by
    rw [ents_get, Option.map_eq_some_iff] at h
    obtain ⟨x, hx, he⟩ := h
    obtain ⟨hr, rfl⟩ := hLk r x hx
    rw [(hle r hr).1] at he
    have hl : c.R.L.length = c.t.L.length := ents_len _ _
    rw [List.getElem?_map, List.getElem?_range (by rw [hl]; exact hr)]
    simp [he]
  refine ⟨⟨?_, ⟨hst.base, fun K hk => ?_, fun r b o he => ?_, fun r r' b o o' he he' => hst.dis r r' b o o' (hents _ _ _ he) (hents _ _ _ he')⟩, JV_new ok.new _ fun j hj => d.newG j hj, fun f hf => ?_, fun r x hx => ?_⟩, conjL_of fun p hp => ?_⟩
  · have hdst : ∀ s ∈ c.ops.toList.filterMap (·.dst), (lastW (c.R.wrS s) c.R.ops.size).isSome = true := fun s hs => by
      obtain ⟨o, ho, hd⟩ := List.mem_filterMap.1 hs
      obtain ⟨k, hk⟩ := List.getElem?_of_mem ho
      have hk' : c.ops[k]? = some o := by simpa using hk
      have hlt : k < c.ops.size := (Array.getElem?_eq_some_iff.1 hk').1
      cases hl : lastW (c.R.wrS s) c.R.ops.size with
      | some _ => rfl
      | none =>
        have := lastW_none hl k hlt
        unfold RC.wrS RC.dst at this
        have h3 : c.R.ops[k]? = some o := hk'
        rw [h3] at this
        simp [hd] at this
    have s1 := d.slots (c.ops.toList.filterMap (·.dst)) fun s hs => .inl (hdst s hs)
    refine ⟨s1.defers, s1.size, fun s v hv => ?_⟩
    have hv : ((c.ops.toList.filterMap (·.dst)).map (fun s => (s, c.R.fin G s)) ++ c.t.sl).lookup s = some v := hv
    rw [List.lookup_append] at hv
    cases hl : ((c.ops.toList.filterMap (·.dst)).map (fun s => (s, c.R.fin G s))).lookup s with
    | some u => rw [hl] at hv; simp at hv; subst hv; exact s1.slot s u hl
    | none =>
      rw [hl] at hv
      simp at hv
      have s2 := d.slots [s] fun s' hs' => .inr (by
        have : s' = s := by simpa using hs'
        subst this
        show (c.t.sl.lookup s').isSome = true
        rw [hv]; rfl)
      refine s2.slot s v ?_
      simp only [List.map_cons, List.map_nil, List.lookup_cons, beq_self_eq_true]
      congr 1
      unfold RC.fin
      have hn : lastW (c.R.wrS s) c.R.ops.size = none := by
        cases hw : lastW (c.R.wrS s) c.R.ops.size with
        | none => rfl
        | some k =>
          exfalso
          obtain ⟨hk, hws, _⟩ := lastW_some hw
          unfold RC.wrS RC.dst at hws
          have hk' : c.R.ops[k]? = some (c.R.ops[k]) := Array.getElem?_eq_getElem hk
          rw [hk'] at hws
          have hd : (c.R.ops[k]).dst = some s := by simpa using hws
          have hm : s ∈ c.ops.toList.filterMap (·.dst) := List.mem_filterMap.2 ⟨c.R.ops[k], by
            have : c.R.ops[k] ∈ c.ops := Array.getElem_mem hk
            simpa using this, hd⟩
          have : ∀ (l : List Nat), s ∈ l → (l.map (fun s => (s, c.R.fin G s))).lookup s ≠ none := by
            intro l
            induction l with
            | nil => intro h; cases h
            | cons x l ih =>
              intro h
              simp only [List.map_cons, List.lookup_cons]
              by_cases e : s = x
              · subst e; simp
              · have e' : (s == x) = false := by simpa using e
                rw [e']
                rcases List.mem_cons.1 h with h | h
                · exact absurd h e
                · exact ih h
          exact this _ hm hl
      rw [hn]
      show (c.t.sl.lookup s).getD undef = v
      rw [hv]; rfl
  · have : K = hun (JV G c.N c.ops.size) c.H := by simpa using hk
    subst this
    rw [eK]; exact hJ false
  · obtain ⟨h1, h2, h3⟩ := hst.ent r b o (hents _ _ _ he)
    refine ⟨h1, h2, fun K hk => ?_⟩
    have : K = hun (JV G c.N c.ops.size) c.H := by simpa using hk
    subst this
    rw [eK]
    exact JV_none (h3 _ (List.mem_append_right _ (by show _ ∈ [_]; simp))) _ fun j hj => h3 _ (List.mem_append_left _ (List.mem_map.2 ⟨j, List.mem_range.2 hj, rfl⟩))
  · rw [eK]
    rcases List.mem_append.1 hf with hf | hf
    · exact FP.mono (ok.facts f hf) (hb true) (hb false)
    · obtain ⟨j, hj, hf⟩ := List.mem_flatMap.1 hf
      obtain ⟨hg, h, hh, hf⟩ := Cx.sure_mem ok (List.mem_range.1 hj) hf
      exact (opf j h (List.mem_range.1 hj) hh (hg G)).1 f hf
  · rw [eK]
    obtain ⟨hr, rfl⟩ := hLk r x hx
    exact (hle r hr).2
  · unfold Cx.know at hp
    simp only [List.mem_append, List.mem_flatMap] at hp
    rcases hp with (⟨j, hj, hp⟩ | ⟨j, hj, hp⟩) | ⟨r, hr, hp⟩
    · obtain ⟨hg, h, hh, hp⟩ := Cx.sure_mem ok (List.mem_range.1 hj) hp
      exact conjL_mem (opf j h (List.mem_range.1 hj) hh (hg G)).2.2 p hp
    · obtain ⟨hg, h, hh, hp⟩ := Cx.sure_mem ok (List.mem_range.1 hj) hp
      obtain ⟨f, hf, rfl⟩ := List.mem_map.1 hp
      exact FP.lim_of ((opf j h (List.mem_range.1 hj) hh (hg G)).1 f hf)
    · exact LE.lim_of (hle r (List.mem_range.1 hr)).2 p hp
end
end Kb
set_option linter.unusedVariables false
set_option linter.unusedSectionVars false
set_option linter.unusedSimpArgs false
namespace Kb
open Go
section
variable {P : Program} {E : Env P} {S : Stop} {t : St}
/-- a region, by its hints -/
theorem V.reg (hs : List (Hint P)) (hk : ∀ N ε, (S, (cxOf E S t hs N ε).R.check E.nt, hs.length, lhsAll (cxOf E S t hs N ε) hs 0) = (.reg S.rid S.ops S.dr S.K, true, S.ops.size, rhsAll (cxOf E S t hs N ε) hs 0))
    (k : ∀ N ε G, Knw ((cxOf E S t hs N ε).know G) → let S' := S.next; let t' := post (cxOf E S t hs N ε) G; V E S' t') : V E S t := fun N ε a w hin => by
  have h0 := hk N ε
  have e1 := congrArg (fun p : Stop × Bool × Nat × Prods hs => p.1) h0
  have e2 := congrArg (fun p : Stop × Bool × Nat × Prods hs => p.2.1) h0
  have e3 := congrArg (fun p : Stop × Bool × Nat × Prods hs => p.2.2.1) h0
  have e4 := congrArg (fun p : Stop × Bool × Nat × Prods hs => p.2.2.2) h0
  simp only at e1 e2 e3 e4
  have ok : (cxOf E S t hs N ε).Ok := ⟨e2, by show (hs.map (·.d)).length = _; rw [List.length_map]; exact e3, hin.new, hin.facts, hin.own⟩
  have hone : ∀ i, One (cxOf E S t hs N ε).R P E.w0 E.X i := fun i => by
    rcases Nat.lt_or_ge i S.ops.size with hi | hi
    · have hl : hs[i]? = some (hs[i]'(by rw [e3]; exact hi)) := List.getElem?_eq_getElem _
      refine (hs[i]'(by rw [e3]; exact hi)).sound (cxOf E S t hs N ε) i ok hi (by show (hs.map (·.d))[i]? = _; rw [List.getElem?_map, hl]; rfl) fun G g w => ?_
      have := all_get e4 i _ hl G g w
      rwa [Nat.zero_add] at this
    · intro o ho
      have : (cxOf E S t hs N ε).R.ops[i]? = none := Array.getElem?_eq_none hi
      rw [this] at ho; cases ho
  rw [e1]
  show (Code.region S.rid S.ops S.dr).wp P (run P E.Q S.K) a w
  refine RC.region (R := (cxOf E S t hs N ε).R) E.mo e2 hone hin.slots hin.st fun G a' w' d => ?_
  obtain ⟨h1, h2⟩ := post_in ok d
  exact norm_sound 200 (.inr .normal) S.K a' w' (k N ε G ⟨h2⟩ _ _ a' w' h1)
/-- what a condition says -/
def cval (t : St) : Operand → Option Value
  | .tmp s => t.sl.lookup s
  | .const v => some v
  | _ => none
theorem V.cond {b : Bool} {φ ψ : Prop} (hb : b = true ↔ φ) (hb' : b = false ↔ ψ) (hk : (S, cval t S.cn) = (.cond S.cn S.x S.y S.K, some (.bool b))) (k1 : φ → V E S.inX t) (k2 : ψ → V E S.inY t) : V E S t := fun N ε a w hin => by
  simp only [Prod.mk.injEq] at hk
  obtain ⟨e1, e2⟩ := hk
  rw [e1]
  have hv : a.eval S.cn = .bool b := by
    cases hc : S.cn with
    | tmp s =>
      rw [hc] at e2
      have := hin.slots.slot s _ e2
      simp [Act.eval, Array.getD_eq_getD_getElem?, this]
    | const v =>
      rw [hc] at e2
      simp only [cval, Option.some.injEq] at e2
      subst e2; rfl
    | _ => rw [hc] at e2; cases e2
  exact wp_cond_split hv (fun h => norm_sound 200 (.inl S.x) S.K a w (k1 (hb.1 h) N ε a w hin)) (fun h => norm_sound 200 (.inl S.y) S.K a w (k2 (hb'.1 h) N ε a w hin))
/-- the same, where the condition is known -/
theorem V.condT (hk : (S, cval t S.cn) = (.cond S.cn S.x S.y S.K, some (.bool true))) (k1 : V E S.inX t) : V E S t :=
  V.cond (φ := True) (ψ := False) (by simp) (by simp) hk (fun _ => k1) fun h => h.elim
theorem V.condF (hk : (S, cval t S.cn) = (.cond S.cn S.x S.y S.K, some (.bool false))) (k1 : V E S.inY t) : V E S t :=
  V.cond (φ := False) (ψ := True) (by simp) (by simp) hk (fun h => h.elim) fun _ => k1
/-! ### states that say less -/
def FP.drop (f : FP) : FP := { f with t := false }
theorem FP.drop_at {f : FP} {N K : Heaplet} (h : f.at N K) (hNK : Sub N K) : f.drop.at N K := by
  unfold FP.at at h
  cases e : f.t <;> rw [e] at h
  · exact h
  · exact f.m _ _ hNK h
theorem LE.drop_at {x : LE} {e : Ent} {N K : Heaplet} (h : x.at e N K) (hNK : Sub N K) : x.drop.at e N K := by
  cases x with
  | own t p m q hq =>
    cases t
    · exact h
    · exact m _ _ _ hNK h
  | _ => trivial
def matchF (x y : FP) : FP := bif y.t then x else x.drop
def matchL (x y : LE) : LE := match y with
  | .no => .no
  | .own false _ _ _ _ => x.drop
  | _ => x
def leSt (fi : List Nat) (t t' : St) : List (Option Value) × List (Option FP) × List LE × Nat × Nat :=
  (t'.sl.map (fun p => t.sl.lookup p.1), (fi.zip t'.F).map (fun p => (t.F[p.1]?).map fun x => matchF x p.2), (t.L.zip t'.L).map (fun p => matchL p.1 p.2), fi.length, t.L.length)
def leSt' (t' : St) : List (Option Value) × List (Option FP) × List LE × Nat × Nat :=
  (t'.sl.map (fun p => some p.2), t'.F.map some, t'.L, t'.F.length, t'.L.length)
theorem St.In.le {t t' : St} {nt : Nat} {w0 : World} {X : List Nat} {H N : Heaplet} {ε : Nat → Ent} {a : Act} {w : World} (h : t.In nt w0 X H N ε a w) {fi : List Nat} (hk : leSt fi t t' = leSt' t') : t'.In nt w0 X H N ε a w := by
  simp only [leSt, leSt', Prod.mk.injEq] at hk
  obtain ⟨h1, h2, h3, h4, h5⟩ := hk
  have hNK : Sub N (hun N H) := hun_left
  have hL : ∀ (r : Nat) (y : LE), t'.L[r]? = some y → ∃ x, t.L[r]? = some x ∧ y = matchL x y := fun r y hy => by
    have := congrArg (fun l : List LE => l[r]?) h3
    simp only [List.getElem?_map, hy] at this
    cases hz : (t.L.zip t'.L)[r]? with
    | none => rw [hz] at this; cases this
    | some p =>
      rw [hz] at this
      rw [List.getElem?_zip_eq_some] at hz
      rw [hy] at hz
      obtain ⟨z1, z2⟩ := hz
      simp only [Option.some.injEq] at z2
      simp only [Option.map_some, Option.some.injEq] at this
      rw [← z2] at this
      exact ⟨p.1, z1, this.symm⟩
  have hent : ∀ (x y : LE) (e : Ent) (p : Nat × Obj), y = matchL x y → y.ent e = some p → x.ent e = some p := fun x y e p hy hp => by
    rw [hy] at hp
    cases y with
    | no => cases hp
    | blk b arr T => exact hp
    | own t' q m r hr =>
      cases t'
      · simp only [matchL] at hp
        cases x <;> exact hp
      · exact hp
  have hents : ∀ (r b : Nat) (o : Obj), (ents t'.L ε)[r]? = some (some (b, o)) → (ents t.L ε)[r]? = some (some (b, o)) := fun r b o he => by
    rw [ents_get, Option.map_eq_some_iff] at he ⊢
    obtain ⟨y, hy, he⟩ := he
    obtain ⟨x, hx, hxy⟩ := hL r y hy
    exact ⟨x, hx, hent x y _ _ hxy he⟩
  refine ⟨h.slots.sub h1, ⟨h.st.base, h.st.agr, fun r b o he => h.st.ent r b o (hents _ _ _ he), fun r r' b o o' he he' => h.st.dis r r' b o o' (hents _ _ _ he) (hents _ _ _ he')⟩, h.new, fun f hf => ?_, fun r y hy => ?_⟩
  · obtain ⟨k, hk⟩ := List.getElem?_of_mem hf
    have := congrArg (fun l : List (Option FP) => l[k]?) h2
    simp only [List.getElem?_map, hk, Option.map_some] at this
    cases hz : (fi.zip t'.F)[k]? with
    | none => rw [hz] at this; cases this
    | some p =>
      rw [hz] at this
      rw [List.getElem?_zip_eq_some] at hz
      rw [hk] at hz
      obtain ⟨_, z2⟩ := hz
      simp only [Option.some.injEq] at z2
      simp only [Option.map_some, Option.some.injEq, Option.map_eq_some_iff] at this
      obtain ⟨x, hx, hxf⟩ := this
      rw [← z2] at hxf
      have hat := h.facts x (List.mem_of_getElem? hx)
      rw [← hxf]
      unfold matchF
      cases f.t
      · exact FP.drop_at hat hNK
      · exact hat
  · obtain ⟨x, hx, hxy⟩ := hL r y hy
    have hat := h.own r x hx
    rw [hxy]
    cases y with
    | no => trivial
    | blk b arr T => exact hat
    | own t' q m r' hr =>
      cases t'
      · exact LE.drop_at hat hNK
      · exact hat
theorem V.le {t' : St} (fi : List Nat) (hk : leSt fi t t' = leSt' t') (k : V E S t') : V E S t := fun N ε a w hin => k N ε a w (hin.le hk)
def St.know (t : St) : List Prop := t.F.map (·.q) ++ t.L.flatMap LE.lim
theorem St.In.know {nt : Nat} {w0 : World} {X : List Nat} {H N : Heaplet} {ε : Nat → Ent} {a : Act} {w : World} (h : t.In nt w0 X H N ε a w) : conjL t.know := conjL_of fun p hp => by
  rcases List.mem_append.1 hp with hp | hp
  · obtain ⟨f, hf, rfl⟩ := List.mem_map.1 hp
    exact FP.lim_of (h.facts f hf)
  · obtain ⟨x, hx, hp⟩ := List.mem_flatMap.1 hp
    obtain ⟨r, hr⟩ := List.getElem?_of_mem hx
    exact LE.lim_of (h.own r x hr) p hp
/-! ### loops, meeting places -/
/-- Z takes every state I g with F g and a lesser measure -/
def Takes {P : Program} {γ : Type} (E : Env P) (I : γ → St) (F : γ → Prop) (M : γ → Prop) (Z : Act → World → Prop) : Prop := ∀ g, F g → M g → ∀ N ε a w, (I g).In E.nt E.w0 E.X E.H N ε a w → Z a w
theorem loop_ghost {P : Program} {Q : Exit → Act → World → Prop} {c : Code} {a : Act} {w : World} {γ : Type} (I : γ → Act → World → Prop) (μ : γ → Nat) (g : γ) (h0 : I g a w)
    (round : ∀ g a w, I g a w → c.wp P (Exit.then (fun a' w' => ∃ g', I g' a' w' ∧ μ g' < μ g) Q) a w) : (Code.loop c).wp P Q a w := by
  classical
  let S : Act → World → Nat → Prop := fun a w n => ∃ g, I g a w ∧ μ g = n
  have least : ∀ a w, (∃ n, S a w n) → ∃ n, S a w n ∧ ∀ m, S a w m → n ≤ m := fun a w ⟨n, hn⟩ => by
    induction n using Nat.strongRecOn with
    | _ n ih =>
      by_cases h : ∃ m, m < n ∧ S a w m
      · obtain ⟨m, hm, hS⟩ := h
        exact ih m hm hS
      · exact ⟨n, hn, fun m hm => Nat.le_of_not_lt fun hlt => h ⟨m, hlt, hm⟩⟩
  let M : Act → World → Nat := fun a w => if h : ∃ n, S a w n then Classical.choose (least a w h) else 0
  refine wp_loop (fun a w => ∃ g, I g a w) M ⟨g, h0⟩ fun a w ⟨g, hg⟩ => ?_
  have hex : ∃ n, S a w n := ⟨μ g, g, hg, rfl⟩
  have hM : M a w = Classical.choose (least a w hex) := dif_pos hex
  obtain ⟨⟨g1, hg1, hm1⟩, _⟩ := Classical.choose_spec (least a w hex)
  refine Go.wp_mono (round g1 a w hg1) fun e a' w' hq => ?_
  cases e with
  | normal =>
    obtain ⟨g2, hg2, hlt⟩ := hq
    refine ⟨⟨g2, hg2⟩, ?_⟩
    have hex2 : ∃ n, S a' w' n := ⟨μ g2, g2, hg2, rfl⟩
    have hM2 : M a' w' = Classical.choose (least a' w' hex2) := dif_pos hex2
    have := (Classical.choose_spec (least a' w' hex2)).2 (μ g2) ⟨g2, hg2, rfl⟩
    rw [hM2, hM, ← hm1]
    omega
  | _ => exact hq
theorem V.loop {γ : Type} (I : γ → St) (F : γ → Prop) (μ : γ → Nat) (g : γ) (hk : S = .loop S.x S.K) (fi : List Nat) (h0 : leSt fi t (I g) = leSt' (I g)) (hF : F g)
    (round : ∀ g, F g → Knw (I g).know → ∀ Z, Takes E I F (fun g' => μ g' < μ g) Z → V E (norm 200 (.inl S.x) (.rnd Z :: S.K)) (I g)) : V E S t := fun N ε a w hin => by
  rw [hk]
  show (Code.loop S.x).wp P (run P E.Q S.K) a w
  have hin := hin.le h0
  refine loop_ghost (fun g a w => F g ∧ ∃ N ε, (I g).In E.nt E.w0 E.X E.H N ε a w) μ g ⟨hF, N, ε, hin⟩ fun g a w ⟨hF, N, ε, hin⟩ => ?_
  exact norm_sound 200 (.inl S.x) (.rnd (fun a' w' => ∃ g', (F g' ∧ ∃ N ε, (I g').In E.nt E.w0 E.X E.H N ε a' w') ∧ μ g' < μ g) :: S.K) a w (round g hF ⟨hin.know⟩ _ (fun g' hF' hm N ε a w h => ⟨g', ⟨hF', N, ε, h⟩, hm⟩) N ε a w hin)
def Stop.rz : Stop → Option (Act → World → Prop)
  | .rnd Z _ => some Z
  | _ => none
/-- the end of a round -/
theorem V.rnd {γ : Type} {I : γ → St} {F : γ → Prop} {M : γ → Prop} {Z : Act → World → Prop} (hZ : Takes E I F M Z) (g : γ) (fi : List Nat) (hk : (S.rz, leSt fi t (I g)) = (some Z, leSt' (I g))) (hF : F g) (hM : M g) : V E S t := fun N ε a w hin => by
  simp only [Prod.mk.injEq] at hk
  obtain ⟨e1, e2⟩ := hk
  cases S with
  | rnd Z' K =>
    simp only [Stop.rz, Option.some.injEq] at e1
    subst e1
    exact hZ g hF hM N ε a w (hin.le e2)
  | _ => cases e1
def Stop.withZ (Z : Act → World → Prop) : Stop → Stop
  | .reg i o d K => .reg i o d (.rnd Z :: K)
  | .cond c x y K => .cond c x y (.rnd Z :: K)
  | .loop b K => .loop b (.rnd Z :: K)
  | S => S
/-- a place where ways meet: what follows is shown once -/
theorem V.cut {γ : Type} (I : γ → St) (F : γ → Prop) (rest : ∀ g, F g → Knw (I g).know → V E S.next (I g)) (k : ∀ Z, Takes E I F (fun _ => True) Z → V E (S.withZ Z) t) : V E S t := fun N ε a w hin => by
  have h := k (fun a w => ∃ g N ε, F g ∧ (I g).In E.nt E.w0 E.X E.H N ε a w) (fun g hF _ N ε a w h => ⟨g, N, ε, hF, h⟩) N ε a w hin
  have key : ∀ (K : List Fr), S.next = norm 200 (.inr .normal) K → ∀ e a w, run P E.Q (.rnd (fun a w => ∃ g N ε, F g ∧ (I g).In E.nt E.w0 E.X E.H N ε a w) :: K) e a w → run P E.Q K e a w := fun K hK e a w hq => by
    cases e with
    | normal =>
      obtain ⟨g, N, ε, hF, hi⟩ := hq
      have := rest g hF ⟨hi.know⟩ N ε a w hi
      rw [hK] at this
      exact norm_sound 200 (.inr .normal) K a w this
    | _ => exact hq
  cases S with
  | reg i o d K => exact Go.wp_mono h (key K rfl)
  | cond c x y K => exact Go.wp_mono h (key K rfl)
  | loop b K => exact Go.wp_mono h (key K rfl)
  | _ => exact h
/-! ### the whole of a function -/
/-- what is asked at a function's end -/
def fnEnv {P : Program} (mo : P.follows .mixedOrders = true) (fn : Func) (nt : Nat) (w : World) (H : Heaplet) (olds : List Ent) (V : Rec → Value) (F' : Rec → List FP) (L' : Rec → List LE) (pu : Rec → List Prop) : Env P :=
  { nt, w0 := w, X := blks olds, H, Q := bodyPost P fn fun e w' => ∃ g, CPost w w' H olds V F' L' pu e g, mo }
theorem ents_more {ε : Nat → Ent} {L : List LE} {n r b : Nat} {o : Obj} (h : (ents (L ++ List.replicate n .no) ε)[r]? = some (some (b, o))) : (ents L ε)[r]? = some (some (b, o)) := by
  rw [ents_get, Option.map_eq_some_iff] at h ⊢
  obtain ⟨x, hx, he⟩ := h
  rw [List.getElem?_append] at hx
  split at hx
  · exact ⟨x, hx, he⟩
  · rw [List.getElem?_replicate] at hx
    split at hx
    · cases hx; cases he
    · cases hx
theorem W_calls {P : Program} {f : FuncId} {fn : Func} {c : Code} {args : Array Value} {w : World} {R : Ending → World → Prop} (hf : P.funcs[f]? = some fn) (hb : fn.body = some c) (nt : Nat) (hnt : (args ++ Array.replicate (fn.ntmps - args.size) undef).size = nt)
    (h : ∀ a, SlotsOK nt (args.toList.zipIdx.map fun p => (p.2, p.1)) a → c.wp P (bodyPost P fn R) a w) : Calls P f args w R := by
  refine calls_of_wp hf hb (h _ ⟨rfl, hnt, fun s v hv => ?_⟩)
  have key : ∀ (l : List Value) (k : Nat), ((l.zipIdx k).map fun p => (p.2, p.1)).lookup s = some v → k ≤ s ∧ l[s - k]? = some v := by
    intro l
    induction l with
    | nil => intro k h; cases h
    | cons x l ih =>
      intro k h
      simp only [List.zipIdx_cons, List.map_cons, List.lookup_cons] at h
      by_cases e : s = k
      · subst e; simp at h; simp [h]
      · have e' : (s == k) = false := by simpa using e
        rw [e'] at h
        obtain ⟨h1, h2⟩ := ih (k + 1) h
        refine ⟨by omega, ?_⟩
        rw [show s - k = (s - (k + 1)) + 1 from by omega]
        simpa using h2
  have := (key args.toList 0 hv).2
  simp only [Nat.sub_zero, Array.getElem?_toList] at this
  have hlt := (Array.getElem?_eq_some_iff.1 this).1
  rw [Array.getElem?_append_left hlt]; exact this
theorem V.fn {f : FuncId} {args : Array Value} {F : List FP} {L : List LE} {V' : Rec → Value} {F' : Rec → List FP} {L' : Rec → List LE} {pu : Rec → List Prop} (mo : P.follows .mixedOrders = true) {fn : Func} (hf : P.funcs[f]? = some fn) (nt n : Nat)
    (hk : (fn.body.isSome, (args ++ Array.replicate (fn.ntmps - args.size) undef).size) = (true, nt))
    (h : ∀ w H ε, Knw (F.map (·.q) ++ L.flatMap LE.lim) → V (fnEnv mo fn nt w H (ents L ε) V' F' L' pu) (norm 200 (.inl (body fn)) []) ⟨args.toList.zipIdx.map fun p => (p.2, p.1), F.map FP.drop, L.map LE.drop ++ List.replicate n .no⟩) : Ct P f args F L V' F' L' pu := fun w H ε hA hF hst hown => by
  simp only [Prod.mk.injEq] at hk
  obtain ⟨hb, hnt⟩ := hk
  have hb' : fn.body = some (body fn) := by
    unfold body
    cases hc : fn.body with
    | none => rw [hc] at hb; cases hb
    | some c => rfl
  have hlim : conjL (F.map (·.q) ++ L.flatMap LE.lim) := conjL_of fun p hp => by
    rcases List.mem_append.1 hp with hp | hp
    · obtain ⟨q, hq, rfl⟩ := List.mem_map.1 hp
      exact q.hq _ (hF q hq)
    · obtain ⟨x, hx, hp⟩ := List.mem_flatMap.1 hp
      obtain ⟨r, hr⟩ := List.getElem?_of_mem hx
      exact LE.lim_of (hown r x hr) p hp
  have hV := h w H ε ⟨hlim⟩
  have eH : hun (fun _ => none) H = H := rfl
  have hdr : ∀ (x : LE) e, x.drop.ent e = x.ent e := fun x e => by cases x <;> rfl
  have hent : ∀ (r b : Nat) (o : Obj), (ents (L.map LE.drop ++ List.replicate n .no) ε)[r]? = some (some (b, o)) → (ents L ε)[r]? = some (some (b, o)) := fun r b o he => by
    have := ents_more he
    rw [ents_get, List.getElem?_map, Option.map_eq_some_iff] at this
    obtain ⟨x, hx, he⟩ := this
    obtain ⟨y, hy, rfl⟩ := Option.map_eq_some_iff.1 hx
    rw [ents_get, hy]
    rw [hdr] at he
    simp [he]
  refine W_calls hf hb' nt hnt fun a hs => ?_
  refine norm_sound 200 (.inl (body fn)) [] a w (hV (fun _ => none) ε a w ⟨hs, ⟨hst.base, hst.agr, fun r b o he => hst.ent r b o (hent _ _ _ he), fun r r' b o o' he he' => hst.dis r r' b o o' (hent _ _ _ he) (hent _ _ _ he')⟩, new_none, fun q hq => ?_, fun r x hx => ?_⟩)
  · obtain ⟨q', hq', rfl⟩ := List.mem_map.1 hq
    exact hF q' hq'
  · rw [List.getElem?_append] at hx
    split at hx
    · rw [List.getElem?_map] at hx
      obtain ⟨y, hy, rfl⟩ := Option.map_eq_some_iff.1 hx
      have := hown r y hy
      cases y with
      | own t p m q hq => cases t <;> exact this
      | _ => trivial
    · rw [List.getElem?_replicate] at hx
      split at hx
      · cases hx; trivial
      · cases hx
/-- one result -/
def resV (P : Program) (t : St) : ResultVar × Nat → Value
  | (.tmp s, _) => (t.sl.lookup s).getD undef
  | (.cell s T, r) => wrapT P T ((List.range ((sizeT P T).getD 0)).map fun j => (entA (((t.L[r]?).getD .no).ent none)).getD ((addrOf ((t.sl.lookup s).getD undef)).off + j) undef)
def resC (P : Program) (t : St) : ResultVar × Nat → Option Value × Bool × Bool × Ent
  | (.tmp s, _) => (t.sl.lookup s, true, true, none)
  | (.cell s T, r) => (t.sl.lookup s, (P.underlying T).isSome && (sizeT P T).isSome && (aggB P T || (sizeT P T).getD 0 == 1), decide ((addrOf ((t.sl.lookup s).getD undef)).off + (sizeT P T).getD 0 ≤ (entA (((t.L[r]?).getD .no).ent none)).size), ((t.L[r]?).getD .no).ent none)
def resC' (P : Program) (t : St) : ResultVar × Nat → Option Value × Bool × Bool × Ent
  | (.tmp s, r) => (some (resV P t (.tmp s, r)), true, true, none)
  | (.cell s _, r) => (some (.pointer (some ⟨entB (((t.L[r]?).getD .no).ent none), (addrOf ((t.sl.lookup s).getD undef)).off, none⟩)), true, true, some (entB (((t.L[r]?).getD .no).ent none), .cells (entA (((t.L[r]?).getD .no).ent none)) (entT (((t.L[r]?).getD .no).ent none))))
def tupV : List Value → Value
  | [v] => v
  | vs => .tuple vs.toArray
def Stop.isEnd : Stop → Bool
  | .fin .ret => true
  | .fin .normal => true
  | _ => false
theorem res_run {w : World} {nt : Nat} {w0 : World} {X : List Nat} {H N : Heaplet} {ε : Nat → Ent} {a : Act} (hin : t.In nt w0 X H N ε a w) {p : ResultVar × Nat} (h : resC P t p = resC' P t p) : (resOf a.tmps p.1).run P w = .ok (resV P t p) w := by
  obtain ⟨rv, r⟩ := p
  cases rv with
  | tmp s =>
    simp only [resC, resC', Prod.mk.injEq] at h
    exact res_tmp h.1 hin.slots
  | cell s T =>
    simp only [resC, resC', Prod.mk.injEq, Bool.and_eq_true] at h
    obtain ⟨h1, ⟨⟨h2, h3⟩, h4⟩, h5, h6⟩ := h
    obtain ⟨n, hn⟩ := Option.isSome_iff_exists.1 h3
    rw [hn] at h4 h5
    simp only [Option.getD_some] at h4 h5
    have he : (ents t.L ε)[r]? = some (some (entB (((t.L[r]?).getD .no).ent none), .cells (entA (((t.L[r]?).getD .no).ent none)) (entT (((t.L[r]?).getD .no).ent none)))) := by
      rw [ents_get]
      cases hr : t.L[r]? with
      | none => rw [hr] at h6; cases h6
      | some x =>
        cases x with
        | blk b arr T' => rfl
        | _ => rw [hr] at h6; cases h6
    have hb := (hin.st.ent r _ _ he).1
    have hp := slot_getD h1 hin.slots
    have h5 := of_decide_eq_true h5
    have hl := loadVar_run (P := P) (w := w) (t := T) (a := ⟨entB (((t.L[r]?).getD .no).ent none), (addrOf ((t.sl.lookup s).getD undef)).off, none⟩) (vs := (List.range n).map fun j => (entA (((t.L[r]?).getD .no).ent none)).getD ((addrOf ((t.sl.lookup s).getD undef)).off + j) undef) h2 (by simpa using hn) (fun hb => by rw [hb] at h4; simpa using h4) fun j v hj => by
      simp only [List.getElem?_map, Option.map_eq_some_iff] at hj
      obtain ⟨k, hk, rfl⟩ := hj
      obtain ⟨hlt, rfl⟩ := List.getElem?_eq_some_iff.1 hk
      simp only [List.length_range] at hlt
      simp only [List.getElem_range]
      rw [add_eq rfl]
      have : (addrOf ((t.sl.lookup s).getD undef)).off + j < (entA (((t.L[r]?).getD .no).ent none)).size := by omega
      simp [World.cell?, hb, this]
    show (do loadVar T (← asAddr (a.tmps.getD s undef)) : Sem Value).run P w = _
    rw [hp]
    simp only [resV, hn, Option.getD_some]
    simp [asAddr, hl]
/-- a function's end -/
theorem V.ret {mo : P.follows .mixedOrders = true} {fn : Func} {nt : Nat} {w0 : World} {H : Heaplet} {olds : List Ent} {V' : Rec → Value} {F' : Rec → List FP} {L' : Rec → List LE} {pu : Rec → List Prop} (rr : List Nat) (ss : List SV) (sls : List (Nat → SV)) (bs : List Nat) (fi li : List Nat) (v : Value)
    (hk : ∀ N es, (S.isEnd, fn.results.size == rr.length, (fn.results.toList.zip rr).map (resC P t), tupV ((fn.results.toList.zip rr).map (resV P t)), fi.length, (fi.zip (F' { H := N, ss := fun k => ss.getD k {}, sl := fun k => sls.getD k (fun _ => {}), bs := fun k => bs.getD k 0, es := es })).map (fun p => (t.F[p.1]?).map fun x => matchF x p.2), nodup li, li.length, (li.zip (L' { H := N, ss := fun k => ss.getD k {}, sl := fun k => sls.getD k (fun _ => {}), bs := fun k => bs.getD k 0, es := es })).map (fun p => (t.L[p.1]?).map fun x => matchL x p.2)) =
      (true, true, (fn.results.toList.zip rr).map (resC' P t), v, (F' { H := N, ss := fun k => ss.getD k {}, sl := fun k => sls.getD k (fun _ => {}), bs := fun k => bs.getD k 0, es := es }).length, (F' { H := N, ss := fun k => ss.getD k {}, sl := fun k => sls.getD k (fun _ => {}), bs := fun k => bs.getD k 0, es := es }).map some, true, (L' { H := N, ss := fun k => ss.getD k {}, sl := fun k => sls.getD k (fun _ => {}), bs := fun k => bs.getD k 0, es := es }).length, (L' { H := N, ss := fun k => ss.getD k {}, sl := fun k => sls.getD k (fun _ => {}), bs := fun k => bs.getD k 0, es := es }).map some))
    (hv : ∀ N es, v = V' { H := N, ss := fun k => ss.getD k {}, sl := fun k => sls.getD k (fun _ => {}), bs := fun k => bs.getD k 0, es := es }) (hp : ∀ N es, conjL (pu { H := N, ss := fun k => ss.getD k {}, sl := fun k => sls.getD k (fun _ => {}), bs := fun k => bs.getD k 0, es := es })) : V (fnEnv mo fn nt w0 H olds V' F' L' pu) S t := fun N ε a w hin => by
  have h0 := hk N fun k => ε (li.getD k 0)
  have hv := hv N fun k => ε (li.getD k 0)
  have hp := hp N fun k => ε (li.getD k 0)
  generalize hg : ({ H := N, ss := fun k => ss.getD k {}, sl := fun k => sls.getD k (fun _ => {}), bs := fun k => bs.getD k 0, es := fun k => ε (li.getD k 0) } : Rec) = g at h0 hv hp
  have gH : g.H = N := by rw [← hg]
  have gE : g.es = fun k => ε (li.getD k 0) := by rw [← hg]
  simp only [Prod.mk.injEq, beq_iff_eq] at h0
  obtain ⟨e1, e2, e3, e4, e5, e6, e7, e8, e9⟩ := h0
  have hNK : Sub N (hun N H) := hun_left
  have hK : Agrees w (hun N H) := hin.st.agr _ (by simp [fnEnv])
  have hLk : ∀ (k : Nat) (y : LE), (L' g)[k]? = some y → ∃ x, t.L[li.getD k 0]? = some x ∧ y = matchL x y ∧ li[k]? = some (li.getD k 0) := fun k y hy => by
    have := congrArg (fun l : List (Option LE) => l[k]?) e9
    simp only [List.getElem?_map, hy, Option.map_some] at this
    cases hz : (li.zip (L' g))[k]? with
    | none => rw [hz] at this; cases this
    | some p =>
      rw [hz] at this
      rw [List.getElem?_zip_eq_some] at hz
      obtain ⟨z1, z2⟩ := hz
      rw [hy] at z2
      simp only [Option.some.injEq] at z2
      simp only [Option.map_some, Option.some.injEq, Option.map_eq_some_iff] at this
      obtain ⟨x, hx, hxy⟩ := this
      rw [← z2] at hxy
      have : li.getD k 0 = p.1 := by rw [List.getD_eq_getElem?_getD, z1]; rfl
      rw [this]
      exact ⟨x, hx, hxy.symm, z1⟩
  have hent : ∀ (x y : LE) (e : Ent) (p : Nat × Obj), y = matchL x y → y.ent e = some p → x.ent e = some p := fun x y e p hy hp => by
    rw [hy] at hp
    cases y with
    | no => cases hp
    | blk b arr T => exact hp
    | own t' q m r hr =>
      cases t'
      · simp only [matchL] at hp
        cases x <;> exact hp
      · exact hp
  have hents : ∀ (k b : Nat) (o : Obj), (ents (L' g) g.es)[k]? = some (some (b, o)) → (ents t.L ε)[li.getD k 0]? = some (some (b, o)) ∧ li[k]? = some (li.getD k 0) := fun k b o he => by
    rw [ents_get, Option.map_eq_some_iff] at he
    obtain ⟨y, hy, he⟩ := he
    obtain ⟨x, hx, hxy, hl⟩ := hLk k y hy
    rw [gE] at he
    refine ⟨?_, hl⟩
    rw [ents_get, hx, Option.map_some, hent x y _ _ hxy he]
  have hall : All2 (fun r v => (resOf a.tmps r).run P w = .ok v w) fn.results.toList ((fn.results.toList.zip rr).map (resV P t)) := by
    have : ∀ (rs : List ResultVar) (rr : List Nat), rs.length = rr.length → ((rs.zip rr).map (resC P t) = (rs.zip rr).map (resC' P t)) → All2 (fun r v => (resOf a.tmps r).run P w = .ok v w) rs ((rs.zip rr).map (resV P t)) := by
      intro rs
      induction rs with
      | nil => intro rr _ _; cases rr <;> trivial
      | cons r rs ih =>
        intro rr hl he
        cases rr with
        | nil => cases hl
        | cons k rr =>
          simp only [List.zip_cons_cons, List.map_cons, List.cons.injEq] at he ⊢
          exact ⟨res_run hin he.1, ih rr (by simpa using hl) he.2⟩
    exact this _ _ (by simpa using e2) e3
  have hres : (results fn a.tmps).run P w = .ok v w := by
    rw [← e4]
    obtain ⟨rs, hrs⟩ : ∃ rs : List ResultVar, fn.results = rs.toArray := ⟨fn.results.toList, by simp⟩
    rw [hrs] at hall ⊢
    simp only [List.toList_toArray] at hall ⊢
    match rs, (rs.zip rr).map (resV P t), hall, hrs with
    | [r], [u], h, hrs => exact results_one hrs h.1
    | [], [], h, hrs => exact results_many hrs (by simp) h
    | r :: r' :: rs, u :: u' :: us, h, hrs => exact results_many hrs (by simp) h
  have fin : bodyPost P fn (fun e w' => ∃ g, CPost w0 w' H olds V' F' L' pu e g) .ret a w := by
    refine ⟨hin.slots.defers, v, hres, g, ⟨by rw [hv], hin.st.base, ?_, ?_, fun f hf => ?_, fun k b o he => ?_, fun k l b o o' h1 h2 => ?_, fun k y hy => ?_, hp⟩⟩
    · rw [gH]; exact hNK.trans hK
    · rw [gH]; exact hin.new
    · rw [gH]
      obtain ⟨k, hk⟩ := List.getElem?_of_mem hf
      have := congrArg (fun l : List (Option FP) => l[k]?) e6
      simp only [List.getElem?_map, hk, Option.map_some] at this
      cases hz : (fi.zip (F' g))[k]? with
      | none => rw [hz] at this; cases this
      | some p =>
        rw [hz] at this
        rw [List.getElem?_zip_eq_some] at hz
        rw [hk] at hz
        obtain ⟨_, z2⟩ := hz
        simp only [Option.some.injEq] at z2
        simp only [Option.map_some, Option.some.injEq, Option.map_eq_some_iff] at this
        obtain ⟨x, hx, hxf⟩ := this
        rw [← z2] at hxf
        have hat := hin.facts x (List.mem_of_getElem? hx)
        rw [← hxf]
        unfold matchF
        cases f.t
        · exact FP.drop_at hat hNK
        · exact hat
    · obtain ⟨h1, _⟩ := hents k b o he
      obtain ⟨b1, b2, b3⟩ := hin.st.ent _ b o h1
      refine ⟨b1, b2, ?_⟩
      rw [gH]
      have := b3 (hun N H) (by simp [fnEnv])
      unfold hun at this
      cases hN : N b with
      | none => rfl
      | some o' => rw [hN] at this; cases this
    · obtain ⟨a1, c1⟩ := hents k b o h1
      obtain ⟨a2, c2⟩ := hents l b o' h2
      have := hin.st.dis _ _ b o o' a1 a2
      rw [this] at c1
      exact nodup_inj e7 c1 c2
    · obtain ⟨x, hx, hxy, _⟩ := hLk k y hy
      have hat := hin.own _ x hx
      rw [gH, gE, hxy]
      cases y with
      | no => trivial
      | blk b arr T => exact hat
      | own t' q m r' hr =>
        cases t'
        · exact LE.drop_at hat hNK
        · exact hat
  cases S with
  | fin e =>
    cases e with
    | ret => exact fin
    | normal => exact fin
    | _ => cases e1
  | _ => cases e1
end
end Kb
set_option linter.unusedVariables false
set_option linter.unusedSectionVars false
set_option linter.unusedSimpArgs false
namespace Kb
open Go
abbrev iv (n : Int) : Value := .int .i64 n
abbrev bv (b : Bool) : Value := .bool b
abbrev tv (s : ByteArray) : Value := .string s
def ca {α : Type} [Dat α] (x : α) : Array Value := (Dat.cells x).toArray
def ag {α : Type} [Dat α] (x : α) : Value := .agg (ca x)
abbrev pp (b off : Nat) : Value := .pointer (some ⟨b, off, none⟩)
theorem nm {α : Type _} {p : Prop} (e : α) (k : ∀ x, x = e → p) : p := k e rfl
theorem kn {l : List Prop} {b : Prop} (h : Knw l) (e : conjL l = b) : b := e ▸ h.h
theorem iQT {a b : Bool} {P Q : Prop} (h : a = true ↔ P) (k : b = true ↔ Q) : (a == b) = true ↔ (P ↔ Q) := by rw [beq_iff_eq, Bool.eq_iff_iff, h, k]
theorem iQF {a b : Bool} {P Q : Prop} (h : a = true ↔ P) (k : b = true ↔ Q) : (a == b) = false ↔ ¬ (P ↔ Q) := by rw [← Bool.not_eq_true, iQT h k]
theorem iTT : true = true ↔ True := by simp
theorem iTF : true = false ↔ False := by simp
theorem iFT : false = true ↔ False := by simp
theorem iFF : false = false ↔ True := by simp
section
variable {P : Program} {E : Env P} {S : Stop} {t : St}
theorem set_get {L : List LE} {r k : Nat} {x y : LE} (hy : (L.set r x)[k]? = some y) : (k = r ∧ y = x) ∨ (k ≠ r ∧ L[k]? = some y) := by
  by_cases e : r = k
  · subst e
    have := (List.getElem?_eq_some_iff.1 hy).1
    rw [List.length_set] at this
    rw [List.getElem?_set_self this] at hy
    exact .inl ⟨rfl, (Option.some.inj hy).symm⟩
  · rw [List.getElem?_set_ne e] at hy; exact .inr ⟨fun h => e h.symm, hy⟩
/-- a free entry becomes an owned slice: nil -/
theorem V.on {α : Type} [Dat α] (r : Nat) (T : TypeId) (hr : t.L[r]? = some .no) (k : V E S ⟨t.sl, t.F, t.L.set r (os true T ([] : List α) {})⟩) : V E S t := fun N ε a w hin => by
  let ε' : Nat → Ent := fun j => if j = r then none else ε j
  have hne : ∀ j, j ≠ r → ε' j = ε j := fun j hj => if_neg hj
  have her : ε' r = none := if_pos rfl
  have hents : ∀ (j b : Nat) (o : Obj), (ents (t.L.set r (os true T ([] : List α) {})) ε')[j]? = some (some (b, o)) → (ents t.L ε)[j]? = some (some (b, o)) := fun j b o h => by
    rw [ents_get, Option.map_eq_some_iff] at h
    obtain ⟨y, hy, he⟩ := h
    rcases set_get hy with ⟨rfl, rfl⟩ | ⟨hj, hy⟩
    · rw [her] at he; cases he
    · rw [ents_get, hy, ← he, hne j hj]; rfl
  refine k N ε' a w ⟨hin.slots, ⟨hin.st.base, hin.st.agr, fun j b o h => hin.st.ent j b o (hents j b o h), fun j j' b o o' h h' => hin.st.dis j j' b o o' (hents _ _ _ h) (hents _ _ _ h')⟩, hin.new, hin.facts, fun j y hy => ?_⟩
  rcases set_get hy with ⟨rfl, rfl⟩ | ⟨hj, hy⟩
  · rw [her]
    show OSl T N ([] : List α) (.slice none 0 0) none
    exact OSl.nil
  · rw [hne j hj]; exact hin.own j y hy
/-- an owned slice is only read from here on -/
theorem V.frz {α : Type} [Dat α] (r : Nat) (b : Bool) (T : TypeId) (l : List α) (s : SV) (hr : (t.L[r]?, E.X) = (some (os b T l s), [])) (k : V E S ⟨t.sl, t.F ++ [fs b l s], t.L.set r .no⟩) : V E S t := fun N ε a w hin => by
  simp only [Prod.mk.injEq] at hr
  obtain ⟨hr, hX⟩ := hr
  have hown := hin.own r _ hr
  have he : (ents t.L ε)[r]? = some (ε r) := by rw [ents_get, hr]; rfl
  have hK : Agrees w (hun N E.H) := hin.st.agr _ (by simp)
  have hE : Agrees w (entH (ε r)) := entH_agrees fun b o hb => (hin.st.ent r b o (by rw [he, hb])).1
  have s1 : Sub N (hun (entH (ε r)) N) := hun_right' (U := whole w) hE (hun_left.trans hK)
  have eK : hun (hun (entH (ε r)) N) E.H = hun (entH (ε r)) (hun N E.H) := hun_assoc _ _ _
  have s2 : Sub (hun N E.H) (hun (hun (entH (ε r)) N) E.H) := by rw [eK]; exact hun_right' (U := whole w) hE hK
  have hents : ∀ (j b : Nat) (o : Obj), (ents (t.L.set r .no) ε)[j]? = some (some (b, o)) → j ≠ r ∧ (ents t.L ε)[j]? = some (some (b, o)) := fun j b o h => by
    rw [ents_get, Option.map_eq_some_iff] at h
    obtain ⟨y, hy, he⟩ := h
    rcases set_get hy with ⟨rfl, rfl⟩ | ⟨hj, hy⟩
    · cases he
    · exact ⟨hj, by rw [ents_get, hy, ← he]; rfl⟩
  refine k (hun (entH (ε r)) N) ε a w ⟨hin.slots, ⟨hin.st.base, fun K hk => ?_, fun j b o h => ?_, fun j j' b o o' h h' => hin.st.dis j j' b o o' (hents _ _ _ h).2 (hents _ _ _ h').2⟩, fun b hb => ?_, fun f hf => ?_, fun j y hy => ?_⟩
  · have : K = hun (hun (entH (ε r)) N) E.H := by simpa using hk
    subst this
    rw [eK]; exact hun_agrees hE hK
  · obtain ⟨hj, h⟩ := hents j b o h
    obtain ⟨h1, h2, h3⟩ := hin.st.ent j b o h
    refine ⟨h1, h2, fun K hk => ?_⟩
    have : K = hun (hun (entH (ε r)) N) E.H := by simpa using hk
    subst this
    rw [eK]
    have hn : entH (ε r) b = none := by
      cases hh : entH (ε r) b with
      | none => rfl
      | some o' =>
        exfalso
        unfold entH at hh
        cases hp : ε r with
        | none => rw [hp] at hh; cases hh
        | some p =>
          rw [hp] at hh
          simp only at hh
          split at hh
          · rename_i hb; subst hb
            exact hj (hin.st.dis j r p.1 o p.2 h (by rw [he, hp]))
          · cases hh
    simp only [hun, hn]
    exact h3 (hun N E.H) (by simp)
  · cases hh : entH (ε r) b with
    | none =>
      simp only [hun, hh] at hb
      exact hin.new b hb
    | some o' =>
      unfold entH at hh
      cases hp : ε r with
      | none => rw [hp] at hh; cases hh
      | some p =>
        rw [hp] at hh
        simp only at hh
        split at hh
        · rename_i hb'; subst hb'
          rcases (hin.st.ent r p.1 p.2 (by rw [he, hp])).2.1 with h1 | h1
          · exact h1
          · rw [hX] at h1; cases h1
        · cases hh
  · rcases List.mem_append.1 hf with hf | hf
    · exact FP.mono (hin.facts f hf) s1 s2
    · have : f = fs b l s := by simpa using hf
      subst this
      have key : ∀ J J' : Heaplet, Sub J J' → Sub (entH (ε r)) J' → OSl T J l s.v (ε r) → RSl J' l s.v := fun J J' h1 h2 h => h.frozen h1 h2
      unfold os ow LE.at at hown
      show bif b then RSl _ l _ else RSl _ l _
      cases b
      · exact key _ _ s2 (by rw [eK]; exact hun_left) hown
      · exact key _ _ s1 hun_left hown
  · rcases set_get hy with ⟨rfl, rfl⟩ | ⟨hj, hy⟩
    · trivial
    · exact LE.mono (hin.own j y hy) s1 s2
end
/-- a good datum, as a fact -/
def gf {α : Type} [Dat α] (b : Bool) (x : α) : FP := ⟨b, fun H => Dat.good H x, fun _ _ k h => Dat.mono _ _ _ k h, Dat.q x, fun H h => Dat.hq H x h⟩
/-- a region, where nothing but the state is wanted behind it -/
theorem V.go {P : Program} {E : Env P} {S : Stop} {t : St} (hs : List (Hint P)) (hk : ∀ N ε, (S, (cxOf E S t hs N ε).R.check E.nt, hs.length, lhsAll (cxOf E S t hs N ε) hs 0) = (.reg S.rid S.ops S.dr S.K, true, S.ops.size, rhsAll (cxOf E S t hs N ε) hs 0))
    (k : ∀ N ε G, let S' := S.next; let t' := post (cxOf E S t hs N ε) G; V E S' t') : V E S t := V.reg hs hk fun N ε G _ => k N ε G
/-- the state, said otherwise -/
theorem V.alt {P : Program} {E : Env P} {S : Stop} {t : St} {α : Type} (F : α → St) {a b : α} (h : a = b) (fi : List Nat) (hk : leSt fi t (F a) = leSt' (F a)) (k : V E S (F b)) : V E S t := by
  subst h; exact V.le fi hk k
/-- nil can be read -/
theorem V.nilF {P : Program} {E : Env P} {S : Stop} {t : St} {α : Type} [Dat α] (k : V E S ⟨t.sl, t.F ++ [fs true ([] : List α) {}], t.L⟩) : V E S t := fun N ε a w hin => k N ε a w ⟨hin.slots, hin.st, hin.new, fun f hf => by
  rcases List.mem_append.1 hf with hf | hf
  · exact hin.facts f hf
  · have : f = fs true ([] : List α) {} := by simpa using hf
    subst this
    show RSl N ([] : List α) (.slice none 0 0)
    exact RSl.nil, hin.own⟩
/-- a loop, one round written out -/
theorem V.unroll {P : Program} {E : Env P} {S : Stop} {t : St} (n : Nat) (hk : S = .loop S.x S.K) (k : V E (norm 200 (.inl S.x) (.rndN S.x n :: S.K)) t) : V E S t := fun N ε a w hin => by
  rw [hk]
  exact wp_loop_rounds (n + 1) (norm_sound 200 (.inl S.x) (.rndN S.x n :: S.K) a w (k N ε a w hin))
theorem V.again {P : Program} {E : Env P} {S : Stop} {t : St} (n : Nat) (hk : S = .rndN S.x (n + 1) S.K) (k : V E (norm 200 (.inl S.x) (.rndN S.x n :: S.K)) t) : V E S t := fun N ε a w hin => by
  rw [hk]
  exact norm_sound 200 (.inl S.x) (.rndN S.x n :: S.K) a w (k N ε a w hin)
namespace Hint
variable {P : Program}
def mn (x y : Int) : Hint P := e g0 (.int .i64 (if y < x then y else x)) (.int .i64 (min x y)) fun _ => by rw [min_if]
def mx (x y : Int) : Hint P := e g0 (.int .i64 (if y > x then y else x)) (.int .i64 (max x y)) fun _ => by rw [max_if]
/-- numbers, without a name -/
def a (t : Int) (lo : -9223372036854775808 ≤ t) (hi : t ≤ 9223372036854775807) : Hint P := ar t t rfl lo hi
def ag' {g : Prop} (Γ : GdI g) (t : Int) (h : g → -9223372036854775808 ≤ t ∧ t ≤ 9223372036854775807) : Hint P := arg Γ t t rfl h
def ng (x n : Int) (hn : n = -x) (lo : -9223372036854775808 ≤ n) (hi : n ≤ 9223372036854775807) : Hint P := ar (0 - x) n (by omega) lo hi
/-- a Boolean that gets a name -/
def andn {g : Prop} (Γ : GdI g) (u : Bool) (b1 b2 b : Bool) (hb : b = (b1 && b2)) : Hint P where
  d := { val := fun _ => .bool b }
  τ := Option (Value × Value × Value) × Value × Option Bool
  lhs c i G _ _ := (c.R.pkr G i, c.R.val i (RC.put G i {}), Γ.B.map fun _ => c.R.gd G i)
  rhs _ _ _ _ _ := (some (.bool b1, (bif u then .bool b2 else bif (Γ.B.getD true && (b1 == true)) then .bool b2 else undef), .bool false), .bool b, Γ.B)
  sound c i ok hi h := by
    subst hb
    exact (and Γ u b1 b2).sound c i ok hi h
def orn {g : Prop} (Γ : GdI g) (u : Bool) (b1 b2 b : Bool) (hb : b = (b1 || b2)) : Hint P where
  d := { val := fun _ => .bool b }
  τ := Option (Value × Value × Value) × Value × Option Bool
  lhs c i G _ _ := (c.R.pkr G i, c.R.val i (RC.put G i {}), Γ.B.map fun _ => c.R.gd G i)
  rhs _ _ _ _ _ := (some (.bool b1, .bool true, (bif u then .bool b2 else bif (Γ.B.getD true && (b1 == false)) then .bool b2 else undef)), .bool b, Γ.B)
  sound c i ok hi h := by
    subst hb
    exact (or Γ u b1 b2).sound c i ok hi h
/-- texts that are equal, or not -/
def seq (a b : ByteArray) : Hint P := e g0 (.bool (a.toList == b.toList)) (.bool (decide (a = b))) fun _ => by rw [toList_bytes]
def sne (a b : ByteArray) : Hint P := e g0 (.bool (!(a.toList == b.toList))) (.bool (!(decide (a = b)))) fun _ => by rw [toList_bytes]
/-- structs that are equal, or not -/
def aeq (neq : Bool) (t : TypeId) (xs ys : Array Value) (b : Bool) (he : ∀ w, (Op.equal t (.agg xs) (.agg ys)).run P w = .ok b w) : Hint P where
  d := { val := fun _ => .bool (bif neq then !b else b) }
  τ := Option (Bool × TypeId × Value × Value) × Bool × Value
  lhs c i G _ _ := (c.R.bir G i, P.eqGuardType P.depth t, c.R.val i (RC.put G i {}))
  rhs _ _ _ _ _ := (some (neq, t, .agg xs, .agg ys), false, .bool (bif neq then !b else b))
  sound c i _ _ hi h := fun o ho G w hs => by
    have h0 := h G {} w
    simp only [Prod.mk.injEq] at h0
    obtain ⟨e1, e2, e3⟩ := h0
    refine Cx.still hi rfl (fun _ => ⟨rfl, rfl⟩) ho ?_ e3
    unfold RC.bir at e1
    rw [ho] at e1
    obtain ⟨dst, op, type, pos, after, guard⟩ := o
    have he' : ∀ w, (Op.equalIn 10000 t (.agg xs) (.agg ys)).run P w = .ok b w := he
    simp only [Option.map_some] at e1
    split at e1
    · rename_i t' x y ty heq
      simp only [Option.some.injEq] at heq
      subst heq
      simp only [Option.some.injEq, Prod.mk.injEq] at e1
      obtain ⟨rfl, rfl, hx, hy⟩ := e1
      simp [execOp, hx, hy, run_eqGuard_agg w .eql t' x y xs ys e2, run_eql_struct, he']
    · rename_i t' x y ty heq
      simp only [Option.some.injEq] at heq
      subst heq
      simp only [Option.some.injEq, Prod.mk.injEq] at e1
      obtain ⟨rfl, rfl, hx, hy⟩ := e1
      simp [execOp, hx, hy, run_eqGuard_agg w .neq t' x y xs ys e2, run_neq_struct, he']
    · cases e1
/-- a slice held against nil -/
def isn (neq : Bool) (s : Gh → SV) : Hint P where
  d := { val := fun G => .bool (bif neq then !(s G).a.isNone else (s G).a.isNone) }
  τ := Option (Bool × TypeId × Value × Value) × Bool × Value
  lhs c i G _ _ := (c.R.bir G i, ((c.R.bir G i).bind fun p => sliceOf P p.2.1).isSome, c.R.val i (RC.put G i {}))
  rhs c i G _ _ := (some (neq, ((c.R.bir G i).elim 0 fun p => p.2.1), (s G).v, .slice none 0 0), true, .bool (bif neq then !(s G).a.isNone else (s G).a.isNone))
  sound c i _ _ hi h := fun o ho G w hs => by
    have h0 := h G {} w
    simp only [Prod.mk.injEq] at h0
    obtain ⟨e1, e2, e3⟩ := h0
    refine Cx.still hi rfl (fun _ => ⟨rfl, rfl⟩) ho ?_ e3
    rw [e1] at e2
    simp only [Option.bind_some] at e2
    obtain ⟨d, hd⟩ := Option.isSome_iff_exists.1 e2
    have hu := slice_of hd
    generalize hT : ((c.R.bir G i).elim 0 fun p => p.2.1) = T at *
    unfold RC.bir at e1
    rw [ho] at e1
    obtain ⟨dst, op, type, pos, after, guard⟩ := o
    simp only [Option.map_some] at e1
    split at e1
    · rename_i t' x y ty heq
      simp only [Option.some.injEq] at heq
      subst heq
      simp only [Option.some.injEq, Prod.mk.injEq] at e1
      obtain ⟨rfl, rfl, hx, hy⟩ := e1
      simp [execOp, hx, hy, eqGuard, binOp, run_equal_slice_nil w t' d _ _ _ hu]
    · rename_i t' x y ty heq
      simp only [Option.some.injEq] at heq
      subst heq
      simp only [Option.some.injEq, Prod.mk.injEq] at e1
      obtain ⟨rfl, rfl, hx, hy⟩ := e1
      simp [execOp, hx, hy, eqGuard, binOp, run_equal_slice_nil w t' d _ _ _ hu]
    · cases e1
/-- a call of a function that only computes -/
def cp {g : Prop} (Γ : GdI g) (n f : Nat) (qs : List Kv) {args : Gh → Array Value} {v : Gh → Value} (ct : g → ∀ G, Cp P f (args G) (qs.map (Kv.fp G)) (v G)) : Hint P :=
  call Γ n f false [] [] qs args (fun _ => []) (fun G _ => v G) (fun _ _ => []) (fun _ _ => []) (fun _ _ => []) ct
/-- a call -/
def ct {g : Prop} (Γ : GdI g) (n f : Nat) (ex : Bool) (rs ns : List Nat) (qs : List Kv) {args : Gh → Array Value} {L : Gh → List LE} {V : Gh → Rec → Value} {F' : Gh → Rec → List FP} {L' : Gh → Rec → List LE} {pu : Gh → Rec → List Prop}
    (h : g → ∀ G, Ct P f (args G) (qs.map (Kv.fp G)) (L G) (V G) (F' G) (L' G) (pu G)) : Hint P := call Γ n f ex rs ns qs args L V F' L' pu h
end Hint
end Kb
set_option linter.unusedVariables false
set_option linter.unusedSimpArgs false
set_option linter.unusedSectionVars false
namespace Kb
open Go
/-! ### what a map holds -/
class MKey (κ : Type) [DecidableEq κ] where
  enc : κ → Value
  desc : TypeDesc
  same : ∀ a b, Instr.sameNow desc (enc a) (enc b) = some (decide (a = b))
  key : ∀ a, MapKept.IsKey desc (enc a)
instance : MKey Int where
  enc := .int .i64
  desc := .int .i64
  same a b := by
    show (if IntKind.i64 = IntKind.i64 then some (a == b) else none) = _
    rw [if_pos rfl]; rfl
  key _ := rfl
instance : MKey ByteArray where
  enc := .string
  desc := .string
  same a b := by
    show some (a == b) = _
    rw [beq_bytes]
  key _ := trivial
section
variable {κ α : Type} [DecidableEq κ] [MKey κ]
def mlook (k : κ) : List (κ × α) → Option α
  | [] => none
  | p :: m => if k = p.1 then some p.2 else mlook k m
def mupd (k : κ) (x : α) : List (κ × α) → List (κ × α)
  | [] => [(k, x)]
  | p :: m => if k = p.1 then (k, x) :: m else p :: mupd k x m
def mfind (k : κ) : List (κ × α) → Option (Nat × α)
  | [] => none
  | p :: m => if k = p.1 then some (0, p.2) else (mfind k m).map fun q => (q.1 + 1, q.2)
theorem mlook_eq (k : κ) : ∀ m : List (κ × α), mlook k m = (mfind k m).map (·.2)
  | [] => rfl
  | p :: m => by
    unfold mlook mfind
    split
    · rfl
    · rw [mlook_eq k m]; cases mfind k m <;> rfl
theorem mupd_some {k : κ} {x : α} : ∀ {m : List (κ × α)} {q : Nat × α}, mfind k m = some q → mupd k x m = m.set q.1 (k, x) ∧ ∃ y, m[q.1]? = some (k, y)
  | p :: m, q, h => by
    unfold mfind at h
    unfold mupd
    split at h
    · rename_i e
      cases h
      rw [if_pos e]
      exact ⟨rfl, p.2, by simp [e]⟩
    · rename_i e
      rw [if_neg e]
      simp only [Option.map_eq_some_iff] at h
      obtain ⟨q', h1, rfl⟩ := h
      obtain ⟨h2, y, h3⟩ := mupd_some (x := x) h1
      exact ⟨by rw [h2]; rfl, y, by simpa using h3⟩
theorem mupd_none {k : κ} {x : α} : ∀ {m : List (κ × α)}, mfind k m = none → mupd k x m = m ++ [(k, x)]
  | [], _ => rfl
  | p :: m, h => by
    unfold mfind at h
    unfold mupd
    split at h
    · cases h
    · rename_i e
      rw [if_neg e]
      simp only [Option.map_eq_none_iff] at h
      rw [mupd_none h]; rfl
theorem mupd_mem {k : κ} {x : α} : ∀ {m : List (κ × α)} {p : κ × α}, p ∈ mupd k x m → p = (k, x) ∨ p ∈ m
  | [], p, h => by unfold mupd at h; exact .inl (by simpa using h)
  | q :: m, p, h => by
    unfold mupd at h
    split at h
    · rcases List.mem_cons.1 h with h | h
      · exact .inl h
      · exact .inr (List.mem_cons_of_mem _ h)
    · rcases List.mem_cons.1 h with h | h
      · exact .inr (by rw [h]; exact List.mem_cons_self)
      · rcases mupd_mem h with h | h
        · exact .inl h
        · exact .inr (List.mem_cons_of_mem _ h)
theorem mlook_upd {k : κ} {x : α} (k' : κ) : ∀ m : List (κ × α), mlook k' (mupd k x m) = if k' = k then some x else mlook k' m
  | [] => by unfold mupd mlook; rfl
  | p :: m => by
    unfold mupd
    by_cases e : k = p.1
    · rw [if_pos e]
      unfold mlook
      by_cases e2 : k' = k
      · rw [if_pos e2, if_pos e2]
      · rw [if_neg e2, if_neg e2]
        rw [if_neg (by rw [← e]; exact e2)]
    · rw [if_neg e]
      unfold mlook
      by_cases e2 : k' = p.1
      · rw [if_pos e2, if_pos e2, if_neg (by rw [e2]; exact fun h => e h.symm)]
      · rw [if_neg e2, if_neg e2, mlook_upd k' m]
theorem mlook_mem {k : κ} : ∀ {m : List (κ × α)} {y : α}, mlook k m = some y → (k, y) ∈ m
  | p :: m, y, h => by
    unfold mlook at h
    split at h
    · rename_i e; cases h; rw [e]; exact List.mem_cons_self
    · exact List.mem_cons_of_mem _ (mlook_mem h)
theorem mlook_none {k : κ} : ∀ {m : List (κ × α)}, mlook k m = none ↔ ∀ y, (k, y) ∉ m
  | [] => by simp [mlook]
  | p :: m => by
    unfold mlook
    split
    · rename_i e
      constructor
      · intro h; cases h
      · intro h; exact absurd (List.mem_cons.2 (.inl (by rw [e]))) (h p.2)
    · rename_i e
      rw [mlook_none]
      constructor
      · intro h y hy
        rcases List.mem_cons.1 hy with hy | hy
        · exact e (by rw [← hy])
        · exact h y hy
      · intro h y hy; exact h y (List.mem_cons_of_mem _ hy)
theorem mupd_len {k : κ} {x : α} (m : List (κ × α)) : (mupd k x m).length = m.length + (if (mlook k m).isSome then 0 else 1) := by
  rw [mlook_eq]
  cases h : mfind k m with
  | none => rw [mupd_none h]; simp
  | some q => rw [(mupd_some h).1]; simp
theorem findNow_eq (f : α → Value) (k : κ) : ∀ (m : List (κ × α)) (es : List MapEntry) (i : Nat), es.map (fun e => (e.key, e.val)) = m.map (fun p => (MKey.enc p.1, f p.2)) → Instr.findNow (MKey.desc κ) (MKey.enc k) es i = some ((mfind k m).map fun q => (i + q.1, f q.2))
  | [], [], i, _ => rfl
  | [], _ :: _, i, h => by simp at h
  | _ :: _, [], i, h => by simp at h
  | p :: m, e :: es, i, h => by
    simp only [List.map_cons, List.cons.injEq, Prod.mk.injEq] at h
    obtain ⟨⟨h1, h2⟩, h3⟩ := h
    unfold Instr.findNow
    rw [h1, MKey.same]
    unfold mfind
    by_cases e0 : k = p.1
    · rw [if_pos e0, decide_eq_true e0]
      simp [h2]
    · rw [if_neg e0, decide_eq_false e0]
      simp only []
      rw [findNow_eq f k m es (i + 1) h3]
      cases mfind k m <;> simp
      omega
/-- what the map's block holds -/
def MOb (f : α → Value) (m : List (κ × α)) (o : Obj) : Prop := ∃ (es : Array MapEntry) (c : Nat), o = .map es c ∧ es.toList.map (fun e => (e.key, e.val)) = m.map (fun p => (MKey.enc p.1, f p.2))
end
def mapOf (P : Program) (t : TypeId) : Option (TypeId × TypeId) := match P.underlying t with
  | some (.map k e) => some (k, e)
  | _ => none
theorem map_of {P : Program} {t k e : TypeId} (h : mapOf P t = some (k, e)) : P.underlying t = some (.map k e) := by
  unfold mapOf at h
  split at h <;> simp_all
section
variable {κ α : Type} [DecidableEq κ] [MKey κ] {P : Program} {w : World} {t kt et : TypeId} {f : α → Value} {m : List (κ × α)} {b : Nat} {o : Obj} {k : κ} {x : α}
theorem find_run {es : List MapEntry} (hk : P.underlying kt = some (MKey.desc κ)) (h : es.map (fun e => (e.key, e.val)) = m.map (fun p => (MKey.enc p.1, f p.2))) : (Instr.findKey kt (MKey.enc k) es).run P w = .ok ((mfind k m).map fun q => (q.1, f q.2)) w :=
  MapKept.run_findKey hk (by rw [findNow_eq f k m es 0 h]; cases mfind k m <;> simp)
theorem mu_run (hu : P.underlying t = some (.map kt et)) (hk : P.underlying kt = some (MKey.desc κ)) (hm : MOb f m o) (hb : w.heap[b]? = some o) :
    ∃ o', (Instr.mapUpdate t (.map (some b)) (MKey.enc k) (f x)).run P w = .ok () (setBlk w b o') ∧ MOb f (mupd k x m) o' := by
  obtain ⟨es, c, rfl, hes⟩ := hm
  have hfk := find_run (P := P) (w := w) (k := k) hk hes
  cases hfd : mfind k m with
  | none =>
    rw [hfd] at hfk
    refine ⟨.map (es.push { key := MKey.enc k, val := f x, born := c }) (c + 1), ?_, _, _, rfl, ?_⟩
    · simp [Instr.mapUpdate, run_underlying hu, MapKept.run_getObj_map hb, MapKept.run_checkKey hk (MKey.key k), hfk, MapKept.run_setObj_map _ hb, Result.andThen, setBlk]
    · rw [mupd_none hfd]
      simp [hes]
  | some q =>
    rw [hfd] at hfk
    obtain ⟨hup, y, hy⟩ := mupd_some (x := x) hfd
    have hlen : es.toList.length = m.length := by have := congrArg List.length hes; simpa using this
    have hql : q.1 < es.toList.length := by rw [hlen]; exact (List.getElem?_eq_some_iff.1 hy).1
    have hkey : (es[q.1]?).map (·.key) = some (MKey.enc k) := by
      have := congrArg (fun l => (l[q.1]?).map (·.1)) hes
      simp only [List.getElem?_map, hy, Option.map_map] at this
      simpa using this
    refine ⟨.map (es.modify q.1 fun e => { e with key := MKey.enc k, val := f x }) c, ?_, _, _, rfl, ?_⟩
    · simp [Instr.mapUpdate, run_underlying hu, MapKept.run_getObj_map hb, MapKept.run_checkKey hk (MKey.key k), hfk, hkey, MapKept.run_keyThatStays (MKey.key k), MapKept.run_setObj_map _ hb, Result.andThen, setBlk]
    · rw [hup, Array.toList_modify, List.map_set, ← hes]
      refine List.ext_getElem? fun j => ?_
      simp only [List.getElem?_map, List.getElem?_set, List.getElem?_modify, List.length_map]
      by_cases e : q.1 = j
      · subst e
        simp [hql]
        simp at hql
        rw [Array.getElem?_eq_getElem hql, if_pos hql]; rfl
      · simp [e]
theorem lk_run {z : Value} {ok : Bool} (hu : P.underlying t = some (.map kt et)) (hk : P.underlying kt = some (MKey.desc κ)) (hm : MOb f m o) (hb : w.heap[b]? = some o) (hz : (zeroValue et).run P w = .ok z w) :
    (Instr.lookup t (.map (some b)) (MKey.enc k) ok).run P w = .ok (if ok then .tuple #[((mlook k m).map f).getD z, .bool (mlook k m).isSome] else ((mlook k m).map f).getD z) w := by
  obtain ⟨es, c, rfl, hes⟩ := hm
  have hfk := find_run (P := P) (w := w) (k := k) hk hes
  rw [mlook_eq]
  cases hfd : mfind k m with
  | none =>
    rw [hfd] at hfk
    simp [Instr.lookup, run_underlying hu, MapKept.run_getObj_map hb, MapKept.run_checkKey hk (MKey.key k), hfk, hz, Result.andThen]
  | some q =>
    rw [hfd] at hfk
    simp [Instr.lookup, run_underlying hu, MapKept.run_getObj_map hb, MapKept.run_checkKey hk (MKey.key k), hfk, Result.andThen]
theorem ml_run {ty : TypeId} (hu : P.underlying t = some (.map kt et)) (hm : MOb f m o) (hb : w.heap[b]? = some o) : (Builtin.len_ #[t] ty #[.map (some b)]).run P w = .ok (.int .i64 (m.length : Int)) w := by
  obtain ⟨es, c, rfl, hes⟩ := hm
  have hlen : es.size = m.length := by have := congrArg List.length hes; simpa using this
  simp [Builtin.len_, run_underlying hu, MapKept.run_getObj_map hb, goInt, Result.andThen, hlen]
end
/-! ### the entry -/
section
variable {κ α : Type} [DecidableEq κ] [MKey κ] [Dat α]
/-- entry e holds the map m, at block b; a: its values are of several cells -/
def MP (a : Bool) (m : List (κ × α)) (b : Nat) (e : Ent) (H : Heaplet) : Prop := (∃ o, e = some (b, o) ∧ MOb (fun x : α => aggV a (Dat.cells x)) m o) ∧ ∀ p ∈ m, Dat.good H p.2
def mp (t a : Bool) (m : List (κ × α)) (b : Nat) : LE := .own t (MP a m b) (fun _ _ _ k h => ⟨h.1, fun p hp => Dat.mono _ _ _ k (h.2 p hp)⟩) True (fun _ _ _ => trivial)
theorem mp_at {t a : Bool} {m : List (κ × α)} {b : Nat} {e : Ent} {N K : Heaplet} (h : (mp t a m b).at e N K) : MP a m b e (bif t then N else K) := by
  cases t
  · exact h
  · exact h
end
def RC.mpu (R : RC) (G : Gh) (i : Nat) : Option (TypeId × Value × Value × Value) := match (R.ops[i]?).map (fun o : Oper => o.op) with
  | some (.mapUpdate t m k x) => some (t, R.evalAt G i m, R.evalAt G i k, R.evalAt G i x)
  | some (.insert t m k x) => some (t, R.evalAt G i m, R.evalAt G i k, R.evalAt G i x)
  | _ => none
def RC.mlk (R : RC) (G : Gh) (i : Nat) : Option (TypeId × Value × Value × Bool) := match (R.ops[i]?).map (fun o : Oper => o.op) with
  | some (.lookup t m k ok) => some (t, R.evalAt G i m, R.evalAt G i k, ok)
  | _ => none
def RC.mln (R : RC) (G : Gh) (i : Nat) : Option (TypeId × Value) := match (R.ops[i]?).map (fun o : Oper => o.op) with
  | some (.call { callee := .builtin .len, args, argTypes }) => match args.toList, argTypes.toList with
    | [x], [t] => some (t, R.evalAt G i x)
    | _, _ => none
  | _ => none
def lkV (a ok : Bool) (x : List Value) (is : Bool) : Value := bif ok then .tuple #[aggV a x, .bool is] else aggV a x
namespace Hint
variable {P : Program} {κ α : Type} [DecidableEq κ] [MKey κ] [Dat α]
/-- a new map -/
def mm (κ α : Type) [DecidableEq κ] [MKey κ] [Dat α] (n r : Nat) (a : Bool) : Hint P where
  d := { val := fun G => .map (some (G n).b), news := [(r, fun G => mp true a ([] : List (κ × α)) (G n).b, fun G => some ((G n).b, .map #[] 0))] }
  τ := Option (Result Next) × Nat
  lhs c i G _ w := (c.R.ex P G i w, i)
  rhs _ _ _ _ w := (some (.ok (.value (.map (some w.heap.size))) { w with heap := w.heap.push (.map #[] 0) }), n)
  sound c i ok hil hi h := fun o ho G w hs => by
    have h0 := h G { b := w.heap.size } w
    simp only [Prod.mk.injEq, RC.ex, ho, Option.map_some, Option.some.injEq] at h0
    obtain ⟨e1, rfl⟩ := h0
    unfold Does
    rw [e1]
    have hv := Cx.vis_self (c := c) (i := i) (G := G) { b := w.heap.size }
    refine ⟨{ b := w.heap.size }, left_turn ok hil hi hs (e1 := some (w.heap.size, .map #[] 0)) rfl rfl rfl grows_push ?_ ?_ rfl rfl ?_⟩
    · show some _ = _
      rw [hv]
    · show MP _ _ _ _ _
      rw [hv]
      exact ⟨⟨_, rfl, #[], 0, rfl, rfl⟩, fun p hp => by cases hp⟩
    · rw [Cx.valOf hi]
      show Value.map _ = _
      rw [hv]
/-- a write to the map of entry r -/
def mu (n r : Nat) (tt kt et : TypeId) (t a : Bool) (m : List (κ × α)) (b : Gh → Nat) (k : κ) (x : α) (m2 : List (κ × α)) (hm : m2 = mupd k x m) (t2 : Bool) (ht : t2 = true → t = true) (qs : List Kv) (hq : ∀ G H, allR qs G H → Dat.good H x) : Hint P where
  d := { val := fun _ => undef, news := [(r, fun G => mp t2 a m2 (b G), fun G => (G n).e)] }
  τ := Option (TypeId × Value × Value × Value) × Option (TypeId × TypeId) × Option TypeDesc × Option LE × Nat × Bool × List (Option (Bool × (Ent → Heaplet → Prop)) × Bool) × Nat
  lhs c i G g _ := (c.R.mpu G i, mapOf P tt, P.underlying kt, c.leAt i r G, i, tOk t2 qs, qs.map (Kv.chk c i G), b (c.R.vis i (RC.put G i g)))
  rhs _ _ G _ _ := (some (tt, .map (some (b G)), MKey.enc k, aggV a (Dat.cells x)), some (kt, et), some (MKey.desc κ), some (mp t a m (b G)), n, true, qs.map (Kv.want G), b G)
  sound c i ok hil hi h0 := fun o ho G w hs => by
    have h1 := fun g => h0 G g w
    simp only [Prod.mk.injEq] at h1
    obtain ⟨e1, e2, e3, e4, rfl, e6, e7, _⟩ := h1 {}
    have hw : c.R.wrE r i = true := by unfold RC.wrE; rw [Cx.upsOf hi]; simp
    obtain ⟨en, a1, a2, a3⟩ := Cx.own_at ok hil hs e4 (by rw [hw]; simp)
    obtain ⟨⟨ob, rfl, hob⟩, hgood⟩ := mp_at a2
    have hb := a3 (b G) ob rfl
    have hlt := RC.heap_lt hb
    obtain ⟨o', hr, hob'⟩ := mu_run (P := P) (w := w) (k := k) (x := x) (map_of e2) e3 hob hb
    have hg : Grows (some (b G, ob)) (some (b G, o')) w (setBlk w (b G) o') :=
      ⟨fun b' o2 hbo => by cases hbo; simp [setBlk, hlt], fun b' o2 hbo => by cases hbo; exact .inr ⟨_, rfl⟩, ⟨rfl, rfl, rfl, by simp [setBlk], fun j hj hn => by
        have : b G ≠ j := fun e => hn (by subst e; simp)
        simp [setBlk, Array.getElem?_setIfInBounds_ne this]⟩⟩
    have hrun : (execOp (c.R.evalAt G i) o).run P w = .ok .skip (setBlk w (b G) o') := by
      unfold RC.mpu at e1
      rw [ho] at e1
      obtain ⟨dst, op, type, pos, after, guard⟩ := o
      cases op <;> simp only [Option.map_some] at e1 <;> first | cases e1 | skip
      all_goals
        simp only [Option.some.injEq, Prod.mk.injEq] at e1
        obtain ⟨rfl, h1, h2, h3⟩ := e1
        simp [execOp, h1, h2, h3, hr]
    unfold Does
    rw [hrun]
    have hv := Cx.vis_self (c := c) (i := i) (G := G) { e := some (b G, o') }
    have hbv := (h1 { e := some (b G, o') }).2.2.2.2.2.2.2
    refine ⟨{ e := some (b G, o') }, left_turn ok hil hi hs rfl rfl a1 hg ?_ ?_ rfl rfl (by rw [Cx.valOf hi])⟩
    · show (c.R.vis i (RC.put G i { e := some (b G, o') }) i).e = _
      rw [hv]
    · have key : ∀ H, (∀ p ∈ m, Dat.good H p.2) → Dat.good H x → MP a m2 (b G) (some (b G, o')) H := fun H h1 h2 => ⟨⟨_, rfl, hm ▸ hob'⟩, fun p hp => by
        rw [hm] at hp
        rcases mupd_mem hp with hp | hp
        · rw [hp]; exact h2
        · exact h1 p hp⟩
      have hgx := hq G _ (allR_of ok hil hs e7 e6)
      show bif t2 then MP _ _ _ _ _ else MP _ _ _ _ _
      rw [hv, hbv]
      cases t2 with
      | true => rw [ht rfl] at hgood; exact key _ hgood hgx
      | false => exact key _ (fun p hp => by
          cases t with
          | true => exact Dat.mono _ _ _ (Cx.J_true_le hs false) (hgood p hp)
          | false => exact hgood p hp) hgx
/-- an element of the map of entry r -/
def lk (r : Nat) (tt kt et : TypeId) (t a ok : Bool) (m : List (κ × α)) (b : Gh → Nat) (k : κ) (x : α) (hx : x = (mlook k m).getD default) (is : Bool) (his : is = (mlook k m).isSome) (nest : Bool) : Hint P where
  d := { val := fun _ => lkV a ok (Dat.cells x) is, rds := [r], facts := fun _ => bif nest then [gf t x] else [] }
  τ := Option (TypeId × Value × Value × Bool) × Option (TypeId × TypeId) × Option TypeDesc × Option LE × Result Value
  lhs c i G _ w := (c.R.mlk G i, mapOf P tt, P.underlying kt, c.leAt i r G, (zeroValue et).run P w)
  rhs _ _ G _ w := (some (tt, .map (some (b G)), MKey.enc k, ok), some (kt, et), some (MKey.desc κ), some (mp t a m (b G)), .ok (aggV a (Dat.cells (default : α))) w)
  sound c i ok' hil hi h0 := fun o ho G w hs => by
    have h1 := h0 G {} w
    simp only [Prod.mk.injEq] at h1
    obtain ⟨e1, e2, e3, e4, e5⟩ := h1
    obtain ⟨en, a1, a2, a3⟩ := Cx.own_at ok' hil hs e4 (by rw [Cx.c_of hi]; simp [HintD.cert])
    obtain ⟨⟨ob, rfl, hob⟩, hgood⟩ := mp_at a2
    have hb := a3 (b G) ob rfl
    have hr := lk_run (P := P) (w := w) (k := k) (ok := ok) (map_of e2) e3 hob hb e5
    have hval : (if ok then .tuple #[((mlook k m).map fun x : α => aggV a (Dat.cells x)).getD (aggV a (Dat.cells (default : α))), .bool (mlook k m).isSome] else ((mlook k m).map fun x : α => aggV a (Dat.cells x)).getD (aggV a (Dat.cells (default : α)))) = lkV a ok (Dat.cells x) is := by
      unfold lkV
      rw [hx, his]
      cases mlook k m <;> cases ok <;> rfl
    rw [hval] at hr
    have hrun : (execOp (c.R.evalAt G i) o).run P w = .ok (.value (lkV a ok (Dat.cells x) is)) w := by
      unfold RC.mlk at e1
      rw [ho] at e1
      obtain ⟨dst, op, type, pos, after, guard⟩ := o
      cases op <;> simp only [Option.map_some] at e1 <;> first | cases e1 | skip
      case lookup t' m' k' ok2 =>
        simp only [Option.some.injEq, Prod.mk.injEq] at e1
        obtain ⟨rfl, h1, h2, rfl⟩ := e1
        simp [execOp, h1, h2, hr]
    unfold Does
    rw [hrun]
    obtain ⟨a4, a5, _⟩ := ahead ok' hil hs (g := {}) no_H
    have hgx : ∀ H, (∀ p ∈ m, Dat.good H p.2) → Dat.good H x := fun H hH => by
      rw [hx]
      cases hl : mlook k m with
      | none => exact Dat.zero H
      | some y => exact hH _ (mlook_mem hl)
    refine ⟨{}, left_grow ok' hil hi hs rfl (Base.refl _ _) (fun b o h => by cases h) no_H (fun f hf' => ?_) trivial ?_⟩
    · cases nest with
      | false => cases hf'
      | true =>
        have hf' : f = gf t x := by simpa using hf'
        subst hf'
        show bif t then _ else _
        cases t
        · exact Dat.mono _ _ _ a5 (hgx _ hgood)
        · exact Dat.mono _ _ _ a4 (hgx _ hgood)
    · rw [Cx.valOf hi]
/-- how many the map of entry r has -/
def ml (r : Nat) (tt kt et : TypeId) (t a : Bool) (m : List (κ × α)) (b : Gh → Nat) : Hint P where
  d := { val := fun _ => .int .i64 (m.length : Int), rds := [r] }
  τ := Option (TypeId × Value) × Option (TypeId × TypeId) × Option LE
  lhs c i G _ _ := (c.R.mln G i, mapOf P tt, c.leAt i r G)
  rhs _ _ G _ _ := (some (tt, .map (some (b G))), some (kt, et), some (mp t a m (b G)))
  sound c i ok' hil hi h0 := fun o ho G w hs => by
    have h1 := h0 G {} w
    simp only [Prod.mk.injEq] at h1
    obtain ⟨e1, e2, e4⟩ := h1
    obtain ⟨en, a1, a2, a3⟩ := Cx.own_at ok' hil hs e4 (by rw [Cx.c_of hi]; simp [HintD.cert])
    obtain ⟨⟨ob, rfl, hob⟩, hgood⟩ := mp_at a2
    have hb := a3 (b G) ob rfl
    refine Cx.still hi rfl (fun _ => ⟨rfl, rfl⟩) ho (x := .int .i64 (m.length : Int)) ?_ (by rw [Cx.valOf hi])
    unfold RC.mln at e1
    rw [ho] at e1
    obtain ⟨dst, op, type, pos, after, guard⟩ := o
    simp only [Option.map_some] at e1
    split at e1
    · rename_i args argTypes heq
      simp only [Option.some.injEq] at heq
      subst heq
      split at e1
      · rename_i x t' hx ht
        simp only [Option.some.injEq, Prod.mk.injEq] at e1
        obtain ⟨rfl, hv⟩ := e1
        obtain ⟨l, rfl⟩ : ∃ l : List Operand, args = l.toArray := ⟨args.toList, by simp⟩
        obtain ⟨l2, rfl⟩ : ∃ l : List TypeId, argTypes = l.toArray := ⟨argTypes.toList, by simp⟩
        simp only at hx ht
        subst hx ht
        simp [execOp, resolve, invoke, builtin, hv, ml_run (P := P) (w := w) (ty := type) (map_of e2) hob hb]
      · cases e1
    · cases e1
end Hint
/-- a map whose values need no memory -/
theorem V.trm {P : Program} {E : Env P} {S : Stop} {t : St} {κ α : Type} [DecidableEq κ] [MKey κ] [Dat α] (a : Bool) (m : List (κ × α)) (b : Nat) (r : Nat) (hr : t.L[r]? = some (mp false a m b)) (hg : ∀ (H : Heaplet) (x : α), Dat.good H x) (k : V E S ⟨t.sl, t.F, t.L.set r (mp true a m b)⟩) : V E S t := fun N ε ac w hin => by
  have hlt : r < t.L.length := (List.getElem?_eq_some_iff.1 hr).1
  have hents : ents (t.L.set r (mp true a m b)) ε = ents t.L ε := by
    refine List.ext_getElem? fun j => ?_
    rw [ents_get, ents_get, List.getElem?_set]
    by_cases e : r = j
    · subst e; rw [if_pos rfl, if_pos hlt, hr]; rfl
    · rw [if_neg e]
  refine k N ε ac w ⟨hin.slots, by rw [hents]; exact hin.st, hin.new, hin.facts, fun j y hy => ?_⟩
  rw [List.getElem?_set] at hy
  by_cases e : r = j
  · subst e
    rw [if_pos rfl, if_pos hlt] at hy
    cases hy
    have := hin.own r _ hr
    exact ⟨(this : MP a m b _ _).1, fun p _ => hg _ _⟩
  · rw [if_neg e] at hy
    exact hin.own j y hy
end Kb
set_option linter.unusedVariables false
set_option linter.unusedSimpArgs false
set_option linter.unusedSectionVars false
namespace Kb
open Go
theorem zero_flatten {row : List Value} : ∀ n : Nat, (Builtin.zeroCells row.toArray n).toList = (List.replicate n row).flatten := by
  intro n
  have hlen : (List.replicate n row).flatten.length = n * row.length := by
    rw [flatten_len (size := row.length) (fun r hr => by rw [List.eq_of_mem_replicate hr]), List.length_replicate]
  refine List.ext_getElem? fun j => ?_
  by_cases hj : j < n * row.length
  · have hp : 0 < row.length := by
      rcases Nat.eq_zero_or_pos row.length with h | h
      · rw [h] at hj; simp at hj
      · exact h
    have hm : j % row.length < row.length := Nat.mod_lt _ hp
    have hd : j / row.length < n := by rw [Nat.div_lt_iff_lt_mul hp]; exact hj
    have h1 := flatten_get (size := row.length) (rows := List.replicate n row) (fun r hr => by rw [List.eq_of_mem_replicate hr]) (j / row.length) (j % row.length) row row[j % row.length] (by simp [hd]) (by simp [hm])
    rw [Nat.div_add_mod'] at h1
    rw [h1]
    simp [Builtin.zeroCells, hj, hm]
  · have h0 : n * row.length ≤ j := Nat.le_of_not_lt hj
    rw [List.getElem?_eq_none (by simp [Builtin.zeroCells]; exact h0), List.getElem?_eq_none (by rw [hlen]; exact h0)]
theorem apz_run {P : Program} {w : World} {t tn ty E : TypeId} {i : TypeInfo} {z : Value} {kn : IntKind} {row : List Value} (ht : P.underlying t = some (.slice E)) (htn : P.underlying tn = some (.int kn)) (hi : P.info? E = some i) (hz : i.zero = some z) (hzc : z.cells.toList = row) (hs : i.size = row.length) (h1 : ∀ u ∈ row, cell1 u = true) (hp : 0 < row.length)
    {n : Nat} (h0 : 0 < n) (h63 : n ≤ maxLen) (h48 : n * i.bytes ≤ 281474976710656) :
    ∃ v' e' w', (Builtin.append_ #[t, tn] ty #[.slice none 0 0, .int .i64 n]).run P w = .ok v' w' ∧ OwnS E row.length (List.replicate n row) v' e' ∧ Grows none e' w w' := by
  have hr := Lib.run_append_nil_zeros w t tn ty E i z .i64 kn ht htn hi hz n h0 (by omega) (by simp only [maxLen] at h63; omega) h48
  have hrow : row.toArray = z.cells := by rw [← hzc]
  rw [← hrow] at hr
  have hge := grownCap_ge w n 0 E
  refine ⟨_, some (w.heap.size, .cells (Builtin.zeroCells row.toArray n ++ Builtin.zeroCells row.toArray (grownCap w n 0 E - n)) E), _, hr, ⟨fun r hr => by rw [List.eq_of_mem_replicate hr], fun r hr => by rw [List.eq_of_mem_replicate hr]; exact h1, .inr ⟨_, _, _, by simp, rfl, by simpa using hge, grownCap_le_maxLen w n 0 E h63, ?_, ?_⟩⟩, ?_, ?_, ?_⟩
  · rw [Array.size_append, size_zeroCells, size_zeroCells, ← Nat.add_mul]; congr 1; omega
  · rw [Array.toList_append, zero_flatten, List.length_replicate]
    rw [List.take_append_of_le_length (by rw [flatten_len (size := row.length) (fun r hr => by rw [List.eq_of_mem_replicate hr]), List.length_replicate]; exact Nat.le_refl _)]
    rw [List.take_of_length_le]
    rw [flatten_len (size := row.length) (fun r hr => by rw [List.eq_of_mem_replicate hr]), List.length_replicate]; exact Nat.le_refl _
  · intro b o hb; cases hb; exact push_get
  · intro b o hb; cases hb; exact .inl (Nat.le_refl _)
  · refine ⟨rfl, rfl, rfl, ?_, fun k hk _ => ?_⟩
    · show _ ≤ (w.heap.push _).size
      rw [Array.size_push]; exact Nat.le_succ _
    · show (w.heap.push _)[k]? = _
      rw [Array.getElem?_push, if_neg (Nat.ne_of_lt hk)]
def intOf (P : Program) (t : TypeId) : Bool := match P.underlying t with
  | some (.int _) => true
  | _ => false
theorem int_of {P : Program} {t : TypeId} (h : intOf P t = true) : ∃ k, P.underlying t = some (.int k) := by
  unfold intOf at h
  split at h
  · exact ⟨_, by assumption⟩
  · cases h
def RC.bnr (R : RC) (G : Gh) (i : Nat) : Option (BinOp × Value × Value) := match (R.ops[i]?).map (fun o : Oper => o.op) with
  | some (.binOp op _ x y _) => some (op, R.evalAt G i x, R.evalAt G i y)
  | _ => none
def noEq : BinOp → Bool
  | .eql => false
  | .neq => false
  | _ => true
theorem noEq_guard {P : Program} {op : BinOp} (h : noEq op = true) (T : TypeId) (x y : Operand) (a b : Value) (w : World) : (eqGuard op T x y a b).run P w = .ok () w := by
  cases op <;> first | exact absurd h (by decide) | rfl
theorem rem_run {P : Program} {T : TypeId} {w : World} {x y n : Int} (h0 : 0 ≤ x) (hy : y ≠ 0) (hn : n = x % y) : (binOp .rem T (.int .i64 x) (.int .i64 y)).run P w = .ok (.int .i64 n) w := by
  simp [binOp, Op.intDiv, hy, Int.tmod_eq_emod_of_nonneg h0, hn]
theorem quo_run {P : Program} {T : TypeId} {w : World} {x y n : Int} (h0 : 0 ≤ x) (hy : 0 < y) (hn : n = x / y) (hi : n ≤ 9223372036854775807) : (binOp .quo T (.int .i64 x) (.int .i64 y)).run P w = .ok (.int .i64 n) w := by
  have hy' : y ≠ 0 := by omega
  have h3 : 0 ≤ x / y := Int.ediv_nonneg h0 (by omega)
  have hw : IntKind.i64.wrap (x.tdiv y) = n := by rw [Int.tdiv_eq_ediv_of_nonneg h0, ← hn, IntKind.wrap_i64]; omega
  simp [binOp, Op.intDiv, hy', hw]
namespace Hint
variable {P : Program}
/-- an operation of two operands, its run known -/
def bin {g : Prop} (Γ : GdI g) (op : BinOp) (x y v : Value) (h : g → ∀ (T : TypeId) (w : World), (binOp op T x y).run P w = .ok v w) : Hint P where
  d := { val := fun _ => v }
  τ := Option (BinOp × Value × Value) × Value × Option Bool × Bool
  lhs c i G _ _ := (c.R.bnr G i, c.R.val i (RC.put G i {}), Γ.B.map fun _ => c.R.gd G i, noEq op)
  rhs _ _ _ _ _ := (some (op, x, y), v, Γ.B, true)
  sound c i _ _ hi h0 := fun o ho G w hs => by
    have h1 := h0 G {} w
    simp only [Prod.mk.injEq] at h1
    obtain ⟨e1, e2, e3, e4⟩ := h1
    refine Cx.still hi rfl (fun _ => ⟨rfl, rfl⟩) ho (x := v) ?_ e2
    have hr := h (Cx.gdOk Γ hs e3)
    unfold RC.bnr at e1
    rw [ho] at e1
    obtain ⟨dst, op', type, pos, after, guard⟩ := o
    cases op' <;> simp only [Option.map_some] at e1 <;> first | (simp at e1; done) | skip
    case binOp o2 t' x' y' b' =>
      simp only [Option.some.injEq, Prod.mk.injEq] at e1
      obtain ⟨rfl, h1, h2⟩ := e1
      simp [execOp, h1, h2, noEq_guard e4, hr]
def rmv {g : Prop} (Γ : GdI g) (x y n : Int) (hn : n = x % y) (h : g → 0 ≤ x ∧ 0 < y) : Hint P := bin Γ .rem (.int .i64 x) (.int .i64 y) (.int .i64 n) fun hg _ _ => rem_run (h hg).1 (by have := (h hg).2; omega) hn
def qov {g : Prop} (Γ : GdI g) (x y n : Int) (hn : n = x / y) (h : g → 0 ≤ x ∧ 0 < y) (hi : g → n ≤ 9223372036854775807) : Hint P := bin Γ .quo (.int .i64 x) (.int .i64 y) (.int .i64 n) fun hg _ _ => quo_run (h hg).1 (h hg).2 hn (hi hg)
/-- append(nil, make([]T, k)...) -/
def apz {α : Type} [Dat α] (n r : Nat) (t tn : TypeId) (E : TypeId) (bytes : Nat) (k : Int) (l2 : List α) (hl : l2 = List.replicate k.toNat default) (h0 : 0 < k) (h63 : k ≤ 9223372036854775807) (hb : k * bytes ≤ 281474976710656) : Hint P where
  d := { val := fun G => (G n).s.v, news := [(r, fun G => os true E l2 (G n).s, fun G => (G n).e)] }
  τ := Option (TypeId × TypeId × Value × Value) × Option TypeId × Bool × Option (Nat × Nat × Option (List Value)) × Nat × Bool × Bool × Ent
  lhs c i G _ _ := (c.R.apr G i, sliceOf P t, intOf P tn, zeroOf P E, i, decide (0 < Dat.size α), (Dat.cells (default : α)).all cell1, c.R.entAt G i r)
  rhs c i _ _ _ := (some (t, tn, .slice none 0 0, .int .i64 k), some E, true, some (Dat.size α, bytes, some (Dat.cells (default : α))), n, true, true, none)
  sound c i ok hil hi h := fun o ho G w hs => by
    have h1 := h G {} w
    simp only [Prod.mk.injEq] at h1
    obtain ⟨e1, e2, e3, e4, rfl, e5, e6, e7⟩ := h1
    obtain ⟨kn, e3⟩ := int_of e3
    unfold zeroOf at e4
    cases hin : P.info? E with
    | none => simp [hin] at e4
    | some inf =>
      simp only [hin, Option.map_some, Option.some.injEq, Prod.mk.injEq] at e4
      obtain ⟨i1, i2, i3⟩ := e4
      cases hz : inf.zero with
      | none => simp [hz] at i3
      | some z =>
        simp only [hz, Option.map_some, Option.some.injEq] at i3
        have hkn : (k.toNat : Int) = k := by omega
        clear h
        obtain ⟨v', e', w', hr, ho', hg⟩ := apz_run (w := w) (ty := o.type) (n := k.toNat) (slice_of e2) e3 hin hz i3 (by rw [i1, Dat.len]) (fun u hu => List.all_eq_true.1 e6 u hu) (by rw [Dat.len]; exact of_decide_eq_true e5) (by omega) (by simp only [maxLen]; omega) (by
          rw [i2]
          have h3 : ((k.toNat * bytes : Nat) : Int) ≤ ((281474976710656 : Nat) : Int) := by rw [Int.natCast_mul, hkn]; exact hb
          exact Int.ofNat_le.1 h3)
        rw [hkn] at hr
        have hrun : (execOp (c.R.evalAt G i) o).run P w = .ok (.value v') w' := by
          unfold RC.apr at e1
          rw [ho] at e1
          obtain ⟨dst, op, type, pos, after, guard⟩ := o
          simp only [Option.map_some] at e1
          split at e1
          · rename_i args argTypes heq
            simp only [Option.some.injEq] at heq
            subst heq
            split at e1
            · rename_i x y t' u' hx ht
              simp only [Option.some.injEq, Prod.mk.injEq] at e1
              obtain ⟨rfl, rfl, hv, hxv⟩ := e1
              obtain ⟨l, rfl⟩ : ∃ l : List Operand, args = l.toArray := ⟨args.toList, by simp⟩
              obtain ⟨l2, rfl⟩ : ∃ l : List TypeId, argTypes = l.toArray := ⟨argTypes.toList, by simp⟩
              simp only at hx ht
              subst hx ht
              simp only at hr
              simp [execOp, resolve, invoke, builtin, hv, hxv, hr]
            · cases e1
          · cases e1
        obtain ⟨s', rfl⟩ := own_sv ho'
        unfold Does
        rw [hrun]
        have hv := Cx.vis_self (c := c) (i := i) (G := G) { s := s', e := e' }
        refine ⟨{ s := s', e := e' }, left_turn ok hil hi hs rfl rfl e7 hg ?_ ?_ rfl rfl ?_⟩
        · show (c.R.vis i (RC.put G i { s := s', e := e' }) i).e = _
          rw [hv]
        · show OSl E _ l2 _ _
          rw [hv]
          refine ⟨?_, fun x hx => ?_⟩
          · have : rows l2 = List.replicate k.toNat (Dat.cells (default : α)) := by rw [hl]; simp [rows]
            rw [this, ← Dat.len (default : α)]; exact ho'
          · rw [hl] at hx
            rw [(List.eq_of_mem_replicate hx : x = default)]
            exact Dat.zero _
        · rw [Cx.valOf hi]
          show SV.v _ = _
          rw [hv]
/-- the front of an owned slice -/
def fro {α : Type} [Dat α] (n r : Nat) (E : TypeId) (t : Bool) (l : List α) (s : Gh → SV) (b : Int) (l2 : List α) (hl : l2 = l.take b.toNat) (h0 : 0 ≤ b) (h1 : b ≤ l.length) : Hint P where
  d := { val := fun G => ((s G).sub (Dat.size α) 0 b.toNat).v, news := [(r, fun G => os t E l2 ((s G).sub (Dat.size α) 0 b.toNat), fun G => (G n).e)] }
  τ := Option (TypeId × Value × Option Value × Option Value × Bool) × Option Nat × SV × Option LE × Nat
  lhs c i G g _ := (c.R.slr G i, (sliceOf P (c.R.slt i)).bind (sizeT P), s (c.R.vis i (RC.put G i g)), c.leAt i r G, i)
  rhs c i G _ _ := (some (c.R.slt i, (s G).v, none, some (.int .i64 b), true), some (Dat.size α), s G, some (os t E l (s G)), n)
  sound c i ok hil hi h := fun o ho G w hs => by
    have h2 := fun g => h G g w
    simp only [Prod.mk.injEq] at h2
    obtain ⟨e1, e2, _, e4, rfl⟩ := h2 {}
    simp only [Option.bind_eq_some_iff] at e2
    obtain ⟨E', e2, e6⟩ := e2
    have hw : c.R.wrE r i = true := by unfold RC.wrE; rw [Cx.upsOf hi]; simp
    obtain ⟨en, a1, a2, a3⟩ := Cx.own_at ok hil hs e4 (by rw [hw]; simp)
    have own : OSl E (c.J i G t) l (s G).v en := by
      unfold os ow LE.at at a2
      cases t <;> exact a2
    have hrun := slice_does (w := w) (lo := none) (hi := some b) (l := 0) (h := b) ho e1 e2 e6 rfl rfl own.isSl (by omega) h0 h1
    unfold Does
    rw [hrun]
    have hv := Cx.vis_self (c := c) (i := i) (G := G) { e := en }
    have hsv := (h2 { e := en }).2.2.1
    refine ⟨{ e := en }, left_turn ok hil hi hs rfl rfl a1 ⟨a3, fun b o hb => .inr ⟨o, hb⟩, Base.refl _ _⟩ ?_ ?_ rfl rfl ?_⟩
    · show (c.R.vis i (RC.put G i { e := en }) i).e = _
      rw [hv]; rfl
    · have key : OSl E (c.J i G t) l2 ((s G).sub (Dat.size α) 0 b.toNat).v en := by
        rw [hl]; exact own.take (by omega)
      show bif t then OSl E _ l2 _ _ else OSl E _ l2 _ _
      rw [hv, hsv]
      cases t <;> exact key
    · rw [Cx.valOf hi]
      show SV.v _ = _
      rw [hsv]; rfl
/-- a slice written out that nobody will write, whose data hold what this region has made -/
def nrG {α : Type} [Dat α] (n : Nat) (t : Bool) (E : TypeId) (l : Gh → List α) (k : Nat) (hk : ∀ G, (l G).length = k) (qs : List Kv) (hq : ∀ G H, allR qs G H → ∀ x ∈ l G, Dat.good H x) (arr : Gh → Array Value) : Hint P where
  d := { val := fun G => .slice (atB (G n).b) k k, facts := fun G => [fs t (l G) ⟨atB (G n).b, k, k⟩] }
  τ := Option (Result Next) × Nat × List Value × Bool × Bool × List (Option (Bool × (Ent → Heaplet → Prop)) × Bool) × List α
  lhs c i G g w := (c.R.ex P G i w, i, (arr G).toList, decide (k ≤ maxLen), tOk t qs, qs.map (Kv.chk c i G), l (c.R.vis i (RC.put G i g)))
  rhs _ _ G _ w := (some (.ok (.value (.slice (atB w.heap.size) k k)) { w with heap := w.heap.push (.cells (arr G) E) }), n, (rows (l G)).flatten, true, true, qs.map (Kv.want G), l G)
  sound c i ok hil hi h := fun o ho G w hs => by
    have h0 := fun g => h G g w
    simp only [Prod.mk.injEq, RC.ex, ho, Option.map_some, Option.some.injEq] at h0
    obtain ⟨e1, rfl, e4, e5, e6, e7, _⟩ := h0 {}
    unfold Does
    rw [e1]
    have hv := Cx.vis_self (c := c) (i := i) (G := G) { b := w.heap.size, H := entH (some (w.heap.size, .cells (arr G) E)) }
    have e8 := (h0 { b := w.heap.size, H := entH (some (w.heap.size, .cells (arr G) E)) }).2.2.2.2.2.2
    have hfr : ∀ b, entH (some (w.heap.size, .cells (arr G) E)) b ≠ none → w.heap.size ≤ b := entH_new (w0 := w) fun b o he => by cases he; exact Nat.le_refl _
    obtain ⟨a1, a2, a3, a4⟩ := ahead ok hil hs (g := { b := w.heap.size, H := entH (some (w.heap.size, .cells (arr G) E)) }) hfr
    refine ⟨{ b := w.heap.size, H := entH (some (w.heap.size, .cells (arr G) E)) }, left_grow ok hil hi hs rfl (base_push _ _) (entH_agrees (e := some (w.heap.size, .cells (arr G) E)) fun b o he => by cases he; exact push_get) hfr (fun f hf => ?_) trivial ?_⟩
    · have hf : f = fs t (l (c.R.vis i (RC.put G i { b := w.heap.size, H := entH (some (w.heap.size, .cells (arr G) E)) }))) ⟨atB (c.R.vis i (RC.put G i { b := w.heap.size, H := entH (some (w.heap.size, .cells (arr G) E)) }) i).b, k, k⟩ := by simpa using hf
      rw [hv, e8] at hf
      subst hf
      have key : ∀ H K, Sub H K → Sub (entH (some (w.heap.size, .cells (arr G) E))) K → (∀ x ∈ l G, Dat.good H x) → RSl K (l G) (.slice (atB w.heap.size) k k) := fun H K k1 k2 hg => (OSl.lit (E := E) (g := w.heap.size) hg (by rw [e4, hk, e5])).frozen k1 k2
      have hR := hq G _ (allR_of ok hil hs e7 e6)
      show bif t then _ else _
      cases t
      · exact key _ _ a2 a4 hR
      · exact key _ _ a1 a3 hR
    · rw [Cx.valOf hi]
      show Value.slice _ _ _ = _
      rw [hv]
/-- append of a slice whose data hold what this region has made -/
def apG {α : Type} [Dat α] (n r : Nat) (E : TypeId) (bytes : Nat) (z t : Bool) (l : List α) (s : Gh → SV) (src : Src) (ts : Bool) (m : Gh → List α) (k : Nat) (hk : ∀ G, (m G).length = k) (s2 : Gh → SV) (t2 : Bool) (hb : (l.length + k) * bytes ≤ 140737488355328)
    (hz : z = true → l = [] ∧ ∀ G, s G = {}) (ht : t2 = true → t = true ∧ ts = true) : Hint P where
  d := { val := fun G => (G n).s.v, news := [(r, fun G => os t2 E (l ++ m G) (G n).s, fun G => (G n).e)] }
  τ := Option (TypeId × TypeId × Value × Value) × Option TypeId × Option (Nat × Nat × Option Nat) × Option LE × Nat × Bool × Bool × (Option (Bool × (Ent → Heaplet → Prop)) × Bool) × List α
  lhs c i G g _ := (c.R.apr G i, sliceOf P (c.R.apt G i), infoOf P E, c.leAt i r G, i, decide (0 < Dat.size α), decide (0 < bytes), src.what c i G, m (c.R.vis i (RC.put G i g)))
  rhs c i G _ _ := (some (c.R.apt G i, c.R.apt G i, (s G).v, (s2 G).v), some E, some (Dat.size α, bytes, some (Dat.size α)), some (nilOr t E l (s G) z), n, true, true, (some (ts, fun _ H => RSl H (m G) (s2 G).v), true), m G)
  sound c i ok hil hi h := fun o ho G w hs => by
    have h0 := fun g => h G g w
    simp only [Prod.mk.injEq] at h0
    obtain ⟨e1, e2, e3, e4, rfl, e6, e7, e8, _⟩ := h0 {}
    have hw : c.R.wrE r i = true := by unfold RC.wrE; rw [Cx.upsOf hi]; simp
    obtain ⟨en, a1, a2, a3⟩ := Cx.own_at ok hil hs e4 (by rw [hw]; simp)
    obtain ⟨own, hgood⟩ := nilOr_own (fun hz' => ⟨(hz hz').1, (hz hz').2 G⟩) a2
    obtain ⟨e', q1, q2, _⟩ := Src.get ok hil hs e8
    have hx : RSl (c.J i G ts) (m G) (s2 G).v := q1
    obtain ⟨v', en', w', hr, ho', hg⟩ := append_does ho e1 e2 e3 (of_decide_eq_true e6) (of_decide_eq_true e7) own a3 hx.sl (Cx.J_le hs ts) (by simpa [hk] using hb)
    obtain ⟨s', rfl⟩ := own_sv ho'
    unfold Does
    rw [hr]
    have hv := Cx.vis_self (c := c) (i := i) (G := G) { s := s', e := en' }
    have e9 := (h0 { s := s', e := en' }).2.2.2.2.2.2.2.2
    refine ⟨{ s := s', e := en' }, left_turn ok hil hi hs rfl rfl a1 hg ?_ ?_ rfl rfl ?_⟩
    · show (c.R.vis i (RC.put G i { s := s', e := en' }) i).e = _
      rw [hv]
    · show bif t2 then OSl E _ _ _ _ else OSl E _ _ _ _
      rw [hv, e9]
      have ho2 : OwnS E (Dat.size α) (rows (l ++ m G)) s'.v en' := by rw [rows_append]; exact ho'
      have fin : ∀ x ∈ l ++ m G, Dat.good (c.J i G t2) x := fun x hx' => by
        rcases List.mem_append.1 hx' with hx' | hx'
        · cases t2 with
          | true => have := hgood x hx'; rw [(ht rfl).1] at this; exact this
          | false =>
            have := hgood x hx'
            cases t
            · exact this
            · exact Dat.mono _ _ _ (Cx.J_true_le hs false) this
        · cases t2 with
          | true => have := hx.good x hx'; rw [(ht rfl).2] at this; exact this
          | false => exact Dat.mono _ _ _ (Cx.J_le_false hs _) (hx.good x hx')
      cases t2
      · exact ⟨ho2, fin⟩
      · exact ⟨ho2, fin⟩
    · rw [Cx.valOf hi]
      show SV.v _ = _
      rw [hv]
end Hint
end Kb
set_option linter.unusedVariables false
set_option linter.unusedSimpArgs false
namespace Kb
namespace Bg
/-- the number of digits, the least one first -/
def nv : List Int → Nat
  | [] => 0
  | d :: l => d.toNat + 1048576 * nv l
def digF : Nat → Nat → List Int
  | 0, _ => []
  | f + 1, n => if n = 0 then [] else ((n % 1048576 : Nat) : Int) :: digF f (n / 1048576)
/-- the digits of a number, no zeros at the end -/
def dig (n : Nat) : List Int := digF n n
def Dg (l : List Int) : Prop := ∀ d ∈ l, 0 ≤ d ∧ d < 1048576
instance (l : List Int) : Decidable (Dg l) := by unfold Dg; infer_instance
theorem digF_fuel : ∀ (f g n : Nat), n ≤ f → n ≤ g → digF f n = digF g n
  | 0, 0, _, _, _ => rfl
  | 0, g + 1, n, h, _ => by
    have : n = 0 := by omega
    subst this; simp [digF]
  | f + 1, 0, n, _, h => by
    have : n = 0 := by omega
    subst this; simp [digF]
  | f + 1, g + 1, n, h1, h2 => by
    unfold digF
    by_cases e : n = 0
    · rw [if_pos e, if_pos e]
    · rw [if_neg e, if_neg e, digF_fuel f g (n / 1048576) (by omega) (by omega)]
theorem dig_zero : dig 0 = [] := rfl
theorem dig_pos {n : Nat} (h : n ≠ 0) : dig n = ((n % 1048576 : Nat) : Int) :: dig (n / 1048576) := by
  unfold dig
  obtain ⟨m, rfl⟩ : ∃ m, n = m + 1 := ⟨n - 1, by omega⟩
  rw [digF, if_neg h, digF_fuel m _ ((m + 1) / 1048576) (by omega) (Nat.le_refl _)]
theorem dig_Dg : ∀ n : Nat, Dg (dig n) := fun n => by
  induction n using Nat.strongRecOn with
  | _ n ih =>
    by_cases h : n = 0
    · subst h; intro d hd; cases hd
    · rw [dig_pos h]
      intro d hd
      rcases List.mem_cons.1 hd with rfl | hd
      · omega
      · exact ih _ (by omega) d hd
theorem nv_dig : ∀ n : Nat, nv (dig n) = n := fun n => by
  induction n using Nat.strongRecOn with
  | _ n ih =>
    by_cases h : n = 0
    · subst h; rfl
    · rw [dig_pos h, nv, ih _ (by omega)]
      simp only [Int.toNat_natCast]
      omega
theorem dig_inj {m n : Nat} (h : dig m = dig n) : m = n := by rw [← nv_dig m, h, nv_dig]
/-- no zero at the end -/
def Nz (l : List Int) : Prop := l.getLast? ≠ some 0
instance (l : List Int) : Decidable (Nz l) := by unfold Nz; infer_instance
theorem Dg.tail {d : Int} {l : List Int} (h : Dg (d :: l)) : Dg l := fun x hx => h x (List.mem_cons_of_mem _ hx)
theorem Dg.head {d : Int} {l : List Int} (h : Dg (d :: l)) : 0 ≤ d ∧ d < 1048576 := h d List.mem_cons_self
theorem dig_ne {n : Nat} : dig n = [] ↔ n = 0 := ⟨fun h => by have := congrArg nv h; rwa [nv_dig] at this, fun h => by subst h; rfl⟩
theorem dig_Nz : ∀ n : Nat, Nz (dig n) := fun n => by
  induction n using Nat.strongRecOn with
  | _ n ih =>
    by_cases h : n = 0
    · subst h; unfold Nz dig; simp [digF]
    · rw [dig_pos h]
      by_cases e : n / 1048576 = 0
      · rw [e]; unfold Nz dig; simp [digF]; omega
      · unfold Nz
        have h1 := ih (n / 1048576) (by omega)
        unfold Nz at h1
        rw [List.getLast?_cons]
        cases hl : (dig (n / 1048576)).getLast? with
        | none => exact absurd (List.getLast?_eq_none_iff.1 hl) (fun h => e (dig_ne.1 h))
        | some x => rw [hl] at h1; simpa using h1
theorem eq_dig : ∀ {l : List Int}, Dg l → Nz l → l = dig (nv l)
  | [], _, _ => rfl
  | d :: l, h, hz => by
    have hd := h.head
    by_cases e : l = []
    · subst e
      have h0 : d ≠ 0 := by intro e; subst e; exact hz rfl
      have e1 : nv [d] = d.toNat := by simp [nv]
      rw [e1, dig_pos (by omega), show d.toNat / 1048576 = 0 by omega, dig_zero]
      congr 1; omega
    · have hz' : Nz l := by
        unfold Nz at hz ⊢
        rw [List.getLast?_cons] at hz
        cases hl : l.getLast? with
        | none => exact absurd (List.getLast?_eq_none_iff.1 hl) e
        | some x => rw [hl] at hz; simpa using hz
      have ih := eq_dig h.tail hz'
      have hn : nv l ≠ 0 := fun h0 => by rw [h0] at ih; exact e ih
      have e1 : nv (d :: l) = d.toNat + 1048576 * nv l := rfl
      rw [e1, dig_pos (by omega), show (d.toNat + 1048576 * nv l) / 1048576 = nv l by omega, ← ih]
      congr 1; omega
theorem nv_append (a b : List Int) : nv (a ++ b) = nv a + 1048576 ^ a.length * nv b := by
  induction a with
  | nil => simp [nv]
  | cons d a ih =>
    rw [List.cons_append, nv, nv, ih, List.length_cons, Nat.pow_succ, Nat.mul_add, Nat.mul_comm (1048576 ^ a.length) 1048576, Nat.mul_assoc]
    omega
theorem nv_zeros (n : Nat) : nv (List.replicate n 0) = 0 := by
  induction n with
  | zero => rfl
  | succ n ih => rw [List.replicate_succ, nv, ih]; rfl
theorem nv_lt : ∀ {l : List Int}, Dg l → nv l < 1048576 ^ l.length
  | [], _ => by simp [nv]
  | d :: l, h => by
    have ih := nv_lt h.tail
    have hd := h.head
    rw [nv, List.length_cons, Nat.pow_succ]
    omega
theorem nv_ge {l : List Int} (h : l ≠ []) (hd : Dg l) (hz : Nz l) : 1048576 ^ (l.length - 1) ≤ nv l := by
  have e := List.dropLast_concat_getLast h
  have hx : l.getLast h ≠ 0 := by
    intro h0; apply hz; rw [List.getLast?_eq_some_getLast h, h0]
  have hr := hd _ (List.getLast_mem h)
  have h2 := nv_append l.dropLast [l.getLast h]
  rw [e, List.length_dropLast] at h2
  have h3 : nv [l.getLast h] = (l.getLast h).toNat := by simp [nv]
  rw [h2, h3]
  have : 1 ≤ (l.getLast h).toNat := by omega
  have := Nat.mul_le_mul_left (1048576 ^ (l.length - 1)) this
  omega
theorem nv_set : ∀ {l : List Int} {i : Nat} (d : Int), i < l.length → nv (l.set i d) + 1048576 ^ i * (l.getD i 0).toNat = nv l + 1048576 ^ i * d.toNat
  | x :: l, 0, d, _ => by simp [nv]; omega
  | x :: l, i + 1, d, h => by
    have ih := nv_set (l := l) (i := i) d (by simpa using h)
    rw [List.set_cons_succ, nv, nv, Nat.pow_succ, List.getD_cons_succ]
    generalize 1048576 ^ i = P at *
    rw [Nat.mul_comm P 1048576, Nat.mul_assoc, Nat.mul_assoc]
    omega
theorem nv_take : ∀ {l : List Int} {i : Nat}, i < l.length → nv (l.take (i + 1)) = nv (l.take i) + 1048576 ^ i * (l.getD i 0).toNat
  | x :: l, 0, _ => by simp [nv]
  | x :: l, i + 1, h => by
    have ih := nv_take (l := l) (i := i) (by simpa using h)
    rw [List.take_succ_cons, List.take_succ_cons, nv, nv, ih, Nat.pow_succ, List.getD_cons_succ]
    generalize 1048576 ^ i = P at *
    rw [Nat.mul_comm P 1048576, Nat.mul_assoc]
    omega
theorem nv_drop : ∀ {l : List Int} {i : Nat}, i < l.length → nv (l.drop i) = (l.getD i 0).toNat + 1048576 * nv (l.drop (i + 1))
  | x :: l, 0, _ => by simp [nv]
  | x :: l, i + 1, h => by
    rw [List.drop_succ_cons, List.drop_succ_cons, List.getD_cons_succ]
    exact nv_drop (l := l) (i := i) (by simpa using h)
theorem nv_split (l : List Int) (i : Nat) : nv l = nv (l.take i) + 1048576 ^ (min i l.length) * nv (l.drop i) := by
  have := nv_append (l.take i) (l.drop i)
  rw [List.take_append_drop, List.length_take] at this
  exact this
theorem Dg.get {l : List Int} (h : Dg l) {i : Nat} (hi : i < l.length) : 0 ≤ l.getD i 0 ∧ l.getD i 0 < 1048576 := by
  have : l.getD i 0 ∈ l := by simp [List.getD_eq_getElem?_getD, hi]
  exact h _ this
theorem Dg.append {a b : List Int} (h : Dg a) (k : Dg b) : Dg (a ++ b) := fun d hd => by
  rcases List.mem_append.1 hd with hd | hd
  · exact h d hd
  · exact k d hd
theorem Dg.set {l : List Int} (h : Dg l) {i : Nat} {d : Int} (hd : 0 ≤ d ∧ d < 1048576) : Dg (l.set i d) := fun x hx => by
  rcases List.mem_or_eq_of_mem_set hx with hx | rfl
  · exact h x hx
  · exact hd
theorem Dg.take {l : List Int} (h : Dg l) (n : Nat) : Dg (l.take n) := fun d hd => h d (List.mem_of_mem_take hd)
theorem Dg.drop {l : List Int} (h : Dg l) (n : Nat) : Dg (l.drop n) := fun d hd => h d (List.mem_of_mem_drop hd)
theorem Dg.zeros (n : Nat) : Dg (List.replicate n 0) := fun d hd => by
  have := List.eq_of_mem_replicate hd
  subst this; omega
theorem Dg.nil : Dg [] := fun d hd => by cases hd
theorem Dg.one {d : Int} (h : 0 ≤ d ∧ d < 1048576) : Dg [d] := fun x hx => by
  have : x = d := by simpa using hx
  subst this; exact h
/-- what trim leaves -/
theorem trim_eq {l : List Int} {n : Nat} (h : Dg l) (hn : n ≤ l.length) (hz : ∀ i, n ≤ i → i < l.length → l.getD i 0 = 0) (h0 : n = 0 ∨ l.getD (n - 1) 0 ≠ 0) : l.take n = dig (nv l) := by
  have e : l.drop n = List.replicate (l.length - n) 0 := by
    refine List.ext_getElem (by simp) fun i h1 h2 => ?_
    simp only [List.length_drop] at h1
    have := hz (n + i) (by omega) (by omega)
    simp only [List.getElem_drop, List.getElem_replicate]
    simpa [List.getD_eq_getElem?_getD, show n + i < l.length by omega] using this
  have e2 : nv l = nv (l.take n) := by
    rw [nv_split l n, e, nv_zeros]; omega
  rw [e2]
  refine eq_dig (h.take n) ?_
  unfold Nz
  rcases h0 with rfl | h0
  · simp
  · by_cases hn0 : n = 0
    · subst hn0; simp
    · rw [List.getLast?_eq_getElem?]
      simp only [List.length_take, Nat.min_eq_left hn]
      rw [List.getElem?_take, if_pos (by omega)]
      have hl : n - 1 < l.length := by omega
      rw [List.getElem?_eq_getElem hl]
      intro hc
      apply h0
      simpa [List.getD_eq_getElem?_getD, hl] using hc
end Bg
end Kb
set_option linter.unusedVariables false
set_option linter.unusedSimpArgs false
namespace Kb
namespace Bg
theorem nv_take' (l : List Int) (i : Nat) : nv (l.take (i + 1)) = nv (l.take i) + 1048576 ^ i * (l.getD i 0).toNat := by
  by_cases h : i < l.length
  · exact nv_take h
  · rw [List.take_of_length_le (by omega), List.take_of_length_le (by omega)]
    simp [List.getD_eq_getElem?_getD, List.getElem?_eq_none (show l.length ≤ i by omega)]
theorem Dg.get' {l : List Int} (h : Dg l) (i : Nat) : 0 ≤ l.getD i 0 ∧ l.getD i 0 < 1048576 := by
  by_cases hi : i < l.length
  · exact h.get hi
  · simp [List.getD_eq_getElem?_getD, List.getElem?_eq_none (show l.length ≤ i by omega)]
theorem pow_succ' (i : Nat) : 1048576 ^ (i + 1) = 1048576 * 1048576 ^ i := by rw [Nat.pow_succ, Nat.mul_comm]
/-- P times a split number -/
theorem split_mul (P q r n : Nat) (h : r + 1048576 * q = n) : P * r + 1048576 * P * q = P * n := by
  rw [← h, Nat.mul_add, Nat.mul_comm 1048576 P, Nat.mul_assoc]
/-! ### add -/
structure AddI (a b out : List Int) (i : Nat) (c : Int) : Prop where
  len : out.length = a.length + 1
  dg : Dg out
  hi : ∀ j, i ≤ j → out.getD j 0 = 0
  c0 : 0 ≤ c ∧ c ≤ 1
  sum : nv out + 1048576 ^ i * c.toNat = nv (a.take i) + nv (b.take i)
theorem getD_set {l : List Int} {i j : Nat} {x : Int} (h : i < l.length) : (l.set i x).getD j 0 = if j = i then x else l.getD j 0 := by
  simp only [List.getD_eq_getElem?_getD, List.getElem?_set]
  by_cases e : i = j
  · subst e; simp [h]
  · rw [if_neg e, if_neg (fun h => e h.symm)]
theorem add_start (a b : List Int) : AddI a b (List.replicate (a.length + 1) 0) 0 0 :=
  ⟨by simp, Dg.zeros _, fun j _ => by simp [List.getD_eq_getElem?_getD, List.getElem?_replicate]; split <;> rfl, by omega, by rw [nv_zeros]; simp [nv]⟩
theorem add_step {a b out : List Int} {i : Nat} {c x : Int} (h : AddI a b out i c) (ha : Dg a) (hb : Dg b) (hi : i < a.length) (hx : x = c + a.getD i 0 + b.getD i 0) : AddI a b (out.set i (x % 1048576)) (i + 1) (x / 1048576) := by
  have b1 := ha.get' i
  have b2 := hb.get' i
  have b3 := h.c0
  have hl := h.len
  have hil : i < out.length := by omega
  refine ⟨by rw [List.length_set]; exact hl, h.dg.set (by omega), fun j hj => ?_, by omega, ?_⟩
  · rw [getD_set hil, if_neg (by omega)]; exact h.hi j (by omega)
  · have e1 := nv_set (x % 1048576) hil
    have e2 := nv_take' a i
    have e3 := nv_take' b i
    have e4 := h.sum
    rw [h.hi i (Nat.le_refl _)] at e1
    rw [e2, e3, pow_succ']
    have e5 := split_mul (1048576 ^ i) (x / 1048576).toNat (x % 1048576).toNat (c.toNat + (a.getD i 0).toNat + (b.getD i 0).toNat) (by omega)
    rw [Nat.mul_add, Nat.mul_add] at e5
    simp only [Int.toNat_zero, Nat.mul_zero] at e1
    omega
theorem add_end {a b out : List Int} {c : Int} (h : AddI a b out a.length c) (hb : b.length ≤ a.length) : Dg (out.set a.length c) ∧ nv (out.set a.length c) = nv a + nv b := by
  have hl := h.len
  have b3 := h.c0
  refine ⟨h.dg.set (by omega), ?_⟩
  have e1 := nv_set c (show a.length < out.length by omega)
  have e4 := h.sum
  rw [h.hi _ (Nat.le_refl _)] at e1
  rw [List.take_length, List.take_of_length_le hb] at e4
  simp only [Int.toNat_zero, Nat.mul_zero] at e1
  omega
/-! ### sub -/
structure SubI (a b out : List Int) (i : Nat) (c : Int) : Prop where
  len : out.length = a.length
  dg : Dg out
  c0 : 0 ≤ c ∧ c ≤ 1
  sum : nv out + nv (b.take i) = nv a + 1048576 ^ i * c.toNat
theorem sub_start (a b : List Int) (h : Dg a) : SubI a b a 0 0 := ⟨rfl, h, by omega, by simp [nv]⟩
theorem sub_step {a b out : List Int} {i : Nat} {c x : Int} (h : SubI a b out i c) (hb : Dg b) (hi : i < a.length) (hx : x = out.getD i 0 - c - b.getD i 0) : SubI a b (out.set i (x % 1048576)) (i + 1) (x / 1048576 % 2) := by
  have b1 := h.dg.get' i
  have b2 := hb.get' i
  have b3 := h.c0
  have hl := h.len
  have hil : i < out.length := by omega
  refine ⟨by rw [List.length_set]; exact hl, h.dg.set (by omega), by omega, ?_⟩
  have e1 := nv_set (x % 1048576) hil
  have e3 := nv_take' b i
  have e4 := h.sum
  rw [e3, pow_succ']
  have e5 : (x % 1048576).toNat + (b.getD i 0).toNat + c.toNat = (out.getD i 0).toNat + 1048576 * (x / 1048576 % 2).toNat := by omega
  have e6 := congrArg (fun n => 1048576 ^ i * n) e5
  simp only [Nat.mul_add] at e6
  rw [← Nat.mul_assoc, Nat.mul_comm (1048576 ^ i) 1048576] at e6
  omega
theorem len_le {a b : List Int} (ha : Dg a) (hb : Dg b) (hz : Nz b) (h : nv b ≤ nv a) : b.length ≤ a.length := by
  by_cases e : b = []
  · subst e; simp
  · have h1 := nv_ge e hb hz
    have h2 := nv_lt ha
    refine Decidable.by_contra fun hc => ?_
    have : 1048576 ^ a.length ≤ 1048576 ^ (b.length - 1) := Nat.pow_le_pow_right (by omega) (by omega)
    omega
theorem sub_end {a b out : List Int} {c : Int} (h : SubI a b out a.length c) (hb : b.length ≤ a.length) (hle : nv b ≤ nv a) : nv out = nv a - nv b := by
  have e4 := h.sum
  rw [List.take_of_length_le hb] at e4
  have h2 := nv_lt h.dg
  rw [h.len] at h2
  have b3 := h.c0
  have hc : c.toNat = 0 ∨ c.toNat = 1 := by omega
  rcases hc with hc | hc <;> rw [hc] at e4 <;> omega
/-! ### mul -/
structure MulO (a b out : List Int) (i : Nat) : Prop where
  len : out.length = a.length + b.length
  dg : Dg out
  hi : ∀ j, i + b.length ≤ j → out.getD j 0 = 0
  sum : nv out = nv (a.take i) * nv b
structure MulI (a b out : List Int) (i k : Nat) (c : Int) : Prop where
  len : out.length = a.length + b.length
  dg : Dg out
  hi : ∀ j, i + b.length ≤ j → out.getD j 0 = 0
  c0 : 0 ≤ c ∧ c < 1048576
  sum : nv out + 1048576 ^ (i + k) * c.toNat = nv (a.take i) * nv b + 1048576 ^ i * ((a.getD i 0).toNat * nv (b.take k))
theorem mul_start (a b : List Int) : MulO a b (List.replicate (a.length + b.length) 0) 0 :=
  ⟨by simp, Dg.zeros _, fun j _ => by simp [List.getD_eq_getElem?_getD, List.getElem?_replicate]; split <;> rfl, by rw [nv_zeros]; simp [nv]⟩
theorem MulO.inner {a b out : List Int} {i : Nat} (h : MulO a b out i) : MulI a b out i 0 0 := ⟨h.len, h.dg, h.hi, by omega, by rw [h.sum]; simp [nv]⟩
theorem mul_step {a b out : List Int} {i k : Nat} {c x : Int} (h : MulI a b out i k c) (ha : Dg a) (hb : Dg b) (hi : i < a.length) (hk : k < b.length) (hx : x = out.getD (i + k) 0 + a.getD i 0 * b.getD k 0 + c) :
    (0 ≤ x ∧ x < 1099511627776) ∧ MulI a b (out.set (i + k) (x % 1048576)) i (k + 1) (x / 1048576) := by
  have b1 := h.dg.get' (i + k)
  have b2 := ha.get' i
  have b3 := hb.get' k
  have b4 := h.c0
  have hl := h.len
  have hil : i + k < out.length := by omega
  have p0 : 0 ≤ a.getD i 0 * b.getD k 0 := Int.mul_nonneg b2.1 b3.1
  have p1 : a.getD i 0 * b.getD k 0 ≤ 1048575 * 1048575 := Int.mul_le_mul (by omega) (by omega) b3.1 (by omega)
  have ex : x.toNat = (out.getD (i + k) 0).toNat + (a.getD i 0).toNat * (b.getD k 0).toNat + c.toNat := by
    have : (a.getD i 0 * b.getD k 0).toNat = (a.getD i 0).toNat * (b.getD k 0).toNat := Int.toNat_mul b2.1 b3.1
    rw [← this]; omega
  refine ⟨by omega, by rw [List.length_set]; exact hl, h.dg.set (by omega), fun j hj => ?_, by omega, ?_⟩
  · rw [getD_set hil, if_neg (by omega)]; exact h.hi j (by omega)
  · have e1 := nv_set (x % 1048576) hil
    have e3 := nv_take' b k
    have e4 := h.sum
    rw [e3, show i + (k + 1) = (i + k) + 1 by omega, pow_succ']
    have e5 := split_mul (1048576 ^ (i + k)) (x / 1048576).toNat (x % 1048576).toNat x.toNat (by omega)
    rw [ex, Nat.mul_add, Nat.mul_add] at e5
    have e6 : 1048576 ^ i * ((a.getD i 0).toNat * (nv (b.take k) + 1048576 ^ k * (b.getD k 0).toNat)) = 1048576 ^ i * ((a.getD i 0).toNat * nv (b.take k)) + 1048576 ^ (i + k) * ((a.getD i 0).toNat * (b.getD k 0).toNat) := by
      rw [Nat.mul_add, Nat.mul_add, Nat.pow_add, Nat.mul_assoc, Nat.mul_left_comm (a.getD i 0).toNat]
    rw [e6]
    omega
theorem mul_end {a b out : List Int} {i : Nat} {c x : Int} (h : MulI a b out i b.length c) (hi : i < a.length) (hx : x = out.getD (i + b.length) 0 + c) : MulO a b (out.set (i + b.length) x) (i + 1) := by
  have hl := h.len
  have b4 := h.c0
  have hil : i + b.length < out.length := by omega
  rw [h.hi _ (Nat.le_refl _)] at hx
  have hxc : x = c := by omega
  subst hxc
  refine ⟨by rw [List.length_set]; exact hl, h.dg.set b4, fun j hj => ?_, ?_⟩
  · rw [getD_set hil, if_neg (by omega)]; exact h.hi j (by omega)
  · have e1 := nv_set x hil
    have e4 := h.sum
    rw [h.hi _ (Nat.le_refl _)] at e1
    rw [List.take_length] at e4
    rw [nv_take', Nat.add_mul, Nat.mul_assoc]
    simp only [Int.toNat_zero, Nat.mul_zero] at e1
    omega
/-! ### short division -/
structure ShoI (a out : List Int) (d : Int) (i : Nat) (r : Int) : Prop where
  len : out.length = a.length
  dg : Dg out
  r0 : 0 ≤ r ∧ r < d
  sum : nv (a.drop i) = d.toNat * nv (out.drop i) + r.toNat
theorem sho_start (a : List Int) {d : Int} (hd : 0 < d) : ShoI a (List.replicate a.length 0) d a.length 0 := ⟨by simp, Dg.zeros _, by omega, by simp [nv]⟩
theorem sho_step {a out : List Int} {d r x : Int} {i : Nat} (h : ShoI a out d (i + 1) r) (ha : Dg a) (hd : 0 < d ∧ d < 1048576) (hi : i < a.length) (hx : x = r * 1048576 + a.getD i 0) :
    (0 ≤ x ∧ x < 1099511627776) ∧ (0 ≤ x / d ∧ x / d < 1048576) ∧ ShoI a (out.set i (x / d)) d i (x % d) := by
  have b1 := ha.get' i
  have b2 := h.r0
  have hl := h.len
  have q0 : 0 ≤ x / d := Int.ediv_nonneg (by omega) (by omega)
  have q1 : x / d < 1048576 := Int.ediv_lt_of_lt_mul (by omega) (by
    have : (r + 1) * 1048576 ≤ d * 1048576 := Int.mul_le_mul_of_nonneg_right (by omega) (by omega)
    rw [Int.mul_comm 1048576 d]; omega)
  refine ⟨by omega, ⟨q0, q1⟩, by rw [List.length_set]; exact hl, h.dg.set ⟨q0, q1⟩, ⟨Int.emod_nonneg _ (by omega), Int.emod_lt_of_pos _ (by omega)⟩, ?_⟩
  have hil : i < out.length := by omega
  rw [nv_drop hi, nv_drop (l := out.set i (x / d)) (by rw [List.length_set]; exact hil), getD_set hil, if_pos rfl, h.sum]
  have e : (out.set i (x / d)).drop (i + 1) = out.drop (i + 1) := by rw [List.drop_set, if_pos (by omega)]
  rw [e]
  have e2 := Int.mul_ediv_add_emod x d
  have e4 : 0 ≤ x % d := Int.emod_nonneg _ (by omega)
  have e3 : (a.getD i 0).toNat + 1048576 * r.toNat = d.toNat * (x / d).toNat + (x % d).toNat := by
    have : d.toNat * (x / d).toNat = (d * (x / d)).toNat := (Int.toNat_mul (by omega) q0).symm
    have h5 : 0 ≤ d * (x / d) := Int.mul_nonneg (by omega) q0
    rw [this]; omega
  rw [Nat.mul_add, Nat.mul_add, Nat.mul_left_comm d.toNat]
  omega
theorem sho_end {a out : List Int} {d r : Int} (h : ShoI a out d 0 r) : nv out = nv a / d.toNat ∧ r = ((nv a % d.toNat : Nat) : Int) := by
  have e := h.sum
  rw [List.drop_zero, List.drop_zero] at e
  have hr := h.r0
  have hd : 0 < d.toNat := by omega
  rw [e, Nat.mul_add_div hd, Nat.mul_add_mod, Nat.div_eq_of_lt (by omega), Nat.mod_eq_of_lt (by omega)]
  omega
end Bg
end Kb
set_option linter.unusedVariables false
set_option linter.unusedSimpArgs false
namespace Kb
namespace Bg
/-- so many digits of a number -/
def digL : Nat → Nat → List Int
  | 0, _ => []
  | L + 1, n => ((n % 1048576 : Nat) : Int) :: digL L (n / 1048576)
@[simp] theorem digL_len : ∀ L n, (digL L n).length = L
  | 0, _ => rfl
  | L + 1, n => by simp [digL, digL_len L]
theorem digL_Dg : ∀ L n, Dg (digL L n)
  | 0, _ => Dg.nil
  | L + 1, n => fun d hd => by
    rw [digL] at hd
    rcases List.mem_cons.1 hd with rfl | hd
    · omega
    · exact digL_Dg L _ d hd
theorem nv_digL : ∀ L n, n < 1048576 ^ L → nv (digL L n) = n
  | 0, n, h => by simp at h; subst h; rfl
  | L + 1, n, h => by
    rw [digL, nv, nv_digL L (n / 1048576) (by rw [pow_succ'] at h; exact Nat.div_lt_of_lt_mul h)]
    simp only [Int.toNat_natCast]; omega
theorem eq_digL : ∀ {L : Nat} {l : List Int}, l.length = L → Dg l → l = digL L (nv l)
  | 0, [], _, _ => rfl
  | L + 1, d :: l, h, hd => by
    have hd' := hd.head
    have ih := eq_digL (L := L) (l := l) (by simpa using h) hd.tail
    have e1 : nv (d :: l) = d.toNat + 1048576 * nv l := rfl
    rw [e1, digL, show (d.toNat + 1048576 * nv l) / 1048576 = nv l by omega, ← ih]
    congr 1; omega
/-! ### settle: a multiple is taken away -/
structure SetI (p v cur : List Int) (g : Int) (i : Nat) (c : Int) : Prop where
  len : cur.length = p.length
  dg : Dg cur
  c0 : 0 ≤ c ∧ c ≤ 1048575
  sum : nv cur + g.toNat * nv (v.take i) = nv p + 1048576 ^ i * c.toNat
theorem set_start (p v : List Int) (g : Int) (h : Dg p) : SetI p v p g 0 0 := ⟨rfl, h, by omega, by simp [nv]⟩
theorem set_step {p v cur : List Int} {g c x : Int} {i : Nat} (h : SetI p v cur g i c) (hv : Dg v) (hg : 0 ≤ g ∧ g < 1048576) (hi : i < p.length) (hx : x = cur.getD i 0 - c - g * v.getD i 0) :
    (-1099511627776 ≤ x ∧ x < 1048576) ∧ SetI p v (cur.set i (x % 1048576)) g (i + 1) (-(x / 1048576)) := by
  have b1 := h.dg.get' i
  have b2 := hv.get' i
  have b3 := h.c0
  have hl := h.len
  have hil : i < cur.length := by omega
  have p0 : 0 ≤ g * v.getD i 0 := Int.mul_nonneg hg.1 b2.1
  have p1 : g * v.getD i 0 ≤ 1048575 * 1048575 := Int.mul_le_mul (by omega) (by omega) b2.1 (by omega)
  have ex : (g * v.getD i 0).toNat = g.toNat * (v.getD i 0).toNat := Int.toNat_mul hg.1 b2.1
  refine ⟨by omega, by rw [List.length_set]; exact hl, h.dg.set (by omega), by omega, ?_⟩
  have e1 := nv_set (x % 1048576) hil
  have e3 := nv_take' v i
  have e4 := h.sum
  rw [e3, pow_succ', Nat.mul_add]
  have e5 : (x % 1048576).toNat + (g * v.getD i 0).toNat + c.toNat = (cur.getD i 0).toNat + 1048576 * (-(x / 1048576)).toNat := by omega
  rw [ex] at e5
  have e6 := congrArg (fun n => 1048576 ^ i * n) e5
  simp only [Nat.mul_add] at e6
  rw [← Nat.mul_assoc (1048576 ^ i) 1048576, Nat.mul_comm (1048576 ^ i) 1048576] at e6
  rw [Nat.mul_left_comm g.toNat]
  omega
/-- what settle returns, and what it leaves -/
def setG (p v : List Int) (g : Int) : Int := if g.toNat * nv v ≤ nv p then g else g - 1
def setP (p v : List Int) (g : Int) : List Int := digL p.length (nv p - (setG p v g).toNat * nv v)
theorem set_mid {p v cur : List Int} {g c : Int} (h : SetI p v cur g p.length c) (hl : v.length ≤ p.length) (hg : 0 ≤ g) :
    (c = 0 ↔ g.toNat * nv v ≤ nv p) ∧ (c = 0 → cur = setP p v g) := by
  have e4 := h.sum
  rw [List.take_of_length_le hl] at e4
  have b3 := h.c0
  have h2 := nv_lt h.dg
  rw [h.len] at h2
  have key : c = 0 ↔ g.toNat * nv v ≤ nv p := by
    constructor
    · intro e; subst e
      have : (0 : Int).toNat = 0 := rfl
      rw [this] at e4; omega
    · intro hle
      refine Decidable.by_contra fun hc => ?_
      have : 1 ≤ c.toNat := by omega
      have := Nat.mul_le_mul_left (1048576 ^ p.length) this
      omega
  refine ⟨key, fun hc => ?_⟩
  have hle := key.1 hc
  unfold setP setG
  rw [if_pos hle, eq_digL h.len h.dg]
  congr 1
  subst hc
  have : (0 : Int).toNat = 0 := rfl
  rw [this] at e4; omega
/-- the multiple once more added -/
structure BakI (p v cur : List Int) (i : Nat) (c : Int) : Prop where
  len : cur.length = p.length
  dg : Dg cur
  c0 : 0 ≤ c ∧ c ≤ 1
  sum : nv cur + 1048576 ^ i * c.toNat = nv p + nv (v.take i)
theorem bak_start (p v : List Int) (h : Dg p) : BakI p v p 0 0 := ⟨rfl, h, by omega, by simp [nv]⟩
theorem bak_step {p v cur : List Int} {c x : Int} {i : Nat} (h : BakI p v cur i c) (hv : Dg v) (hi : i < p.length) (hx : x = c + cur.getD i 0 + v.getD i 0) : BakI p v (cur.set i (x % 1048576)) (i + 1) (x / 1048576) := by
  have b1 := h.dg.get' i
  have b2 := hv.get' i
  have b3 := h.c0
  have hl := h.len
  have hil : i < cur.length := by omega
  refine ⟨by rw [List.length_set]; exact hl, h.dg.set (by omega), by omega, ?_⟩
  have e1 := nv_set (x % 1048576) hil
  have e3 := nv_take' v i
  have e4 := h.sum
  rw [e3, pow_succ']
  have e5 := split_mul (1048576 ^ i) (x / 1048576).toNat (x % 1048576).toNat (c.toNat + (cur.getD i 0).toNat + (v.getD i 0).toNat) (by omega)
  rw [Nat.mul_add, Nat.mul_add] at e5
  omega
theorem set_end {p v mid cur : List Int} {g c k : Int} (h : SetI p v mid g p.length c) (hb : BakI mid v cur p.length k) (hd : Dg p) (hl : v.length ≤ p.length) (hg : 0 ≤ g) (hc : ¬ c = 0) (h1 : (g.toNat - 1) * nv v ≤ nv p) : g - 1 = setG p v g ∧ cur = setP p v g := by
  have hm := (set_mid h hl hg).1
  have hn : ¬ g.toNat * nv v ≤ nv p := fun hh => hc (hm.2 hh)
  have hg1 : 1 ≤ g.toNat := by
    refine Decidable.by_contra fun hh => hn ?_
    rw [show g.toNat = 0 by omega]; omega
  have e4 := h.sum
  have e5 := hb.sum
  rw [List.take_of_length_le hl] at e4 e5
  have b1 := nv_lt hb.dg
  rw [hb.len, h.len] at b1
  have b2 := nv_lt hd
  have eG : setG p v g = g - 1 := by unfold setG; rw [if_neg hn]
  refine ⟨eG.symm, ?_⟩
  unfold setP
  rw [eG, eq_digL (hb.len.trans h.len) hb.dg]
  congr 1
  have e6 : g.toNat * nv v = (g.toNat - 1) * nv v + nv v := by
    obtain ⟨m, hm⟩ : ∃ m, g.toNat = m + 1 := ⟨g.toNat - 1, by omega⟩
    rw [hm, Nat.add_mul]; simp
  have e7 : (g - 1).toNat = g.toNat - 1 := by omega
  rw [e7]
  have hk := hb.c0
  -- the carry is the borrow
  have hkc : 1048576 ^ p.length * k.toNat = 1048576 ^ p.length * c.toNat := by
    have hkc2 : nv cur + 1048576 ^ p.length * k.toNat + (g.toNat - 1) * nv v = nv p + 1048576 ^ p.length * c.toNat := by omega
    have hP : 0 < 1048576 ^ p.length := Nat.pow_pos (by omega)
    generalize 1048576 ^ p.length = P at *
    have : k.toNat = c.toNat := by
      rcases Nat.lt_trichotomy k.toNat c.toNat with hlt | heq | hgt
      · exfalso
        have := Nat.mul_le_mul_left P (show k.toNat + 1 ≤ c.toNat from hlt)
        rw [Nat.mul_add] at this
        omega
      · exact heq
      · exfalso
        have := Nat.mul_le_mul_left P (show c.toNat + 1 ≤ k.toNat from hgt)
        rw [Nat.mul_add] at this
        omega
    rw [this]
  omega
/-! ### one digit of the quotient -/
/-- the guess is not too little: one step of lessening it -/
theorem guess_less {q g : Nat} {top v1 v2 u2 rest V U Rv Ru P : Nat} (hU : U = (top * 1048576 + u2) * P + Ru) (hV : V = (v1 * 1048576 + v2) * P + Rv) (hRu : Ru < P) (hr : rest + g * v1 = top) (hq : q * V ≤ U) (hqg : q ≤ g) (hgt : rest * 1048576 + u2 < g * v2) : q + 1 ≤ g := by
  refine Decidable.by_contra fun hc => ?_
  have e : q = g := by omega
  subst e
  have h1 : q * (v1 * 1048576 + v2) = (q * v1) * 1048576 + q * v2 := by rw [Nat.mul_add, Nat.mul_assoc]
  have h2 : top * 1048576 + u2 + 1 ≤ q * (v1 * 1048576 + v2) := by rw [h1, ← hr]; omega
  have h3 : (top * 1048576 + u2 + 1) * P ≤ q * (v1 * 1048576 + v2) * P := Nat.mul_le_mul_right P h2
  have h4 : q * V = q * (v1 * 1048576 + v2) * P + q * Rv := by rw [hV, Nat.mul_add, Nat.mul_assoc]
  rw [Nat.add_mul] at h3
  omega
/-- the guess is at most one too great -/
theorem guess_fits {g top v1 v2 u2 rest V U Rv Ru P : Nat} (hU : U = (top * 1048576 + u2) * P + Ru) (hV : V = (v1 * 1048576 + v2) * P + Rv) (hRv : Rv < P) (hr : rest + g * v1 = top) (hv1 : 1 ≤ v1) (hv2 : v2 < 1048576) (hg : g < 1048576) (hf : 1048576 ≤ rest ∨ g * v2 ≤ rest * 1048576 + u2) : (g - 1) * V ≤ U := by
  have hle : g * v2 ≤ rest * 1048576 + u2 := by
    rcases hf with hf | hf
    · have : g * v2 ≤ 1048575 * 1048575 := Nat.mul_le_mul (by omega) (by omega)
      omega
    · exact hf
  by_cases h0 : g = 0
  · subst h0; simp
  · have h1 : g * (v1 * 1048576 + v2) = (g * v1) * 1048576 + g * v2 := by rw [Nat.mul_add, Nat.mul_assoc]
    have h2 : g * (v1 * 1048576 + v2) ≤ top * 1048576 + u2 := by rw [h1, ← hr]; omega
    have h3 := Nat.mul_le_mul_right P h2
    have h4 : g * V = g * (v1 * 1048576 + v2) * P + g * Rv := by rw [hV, Nat.mul_add, Nat.mul_assoc]
    have h5 : g * Rv ≤ 1048576 * P := Nat.mul_le_mul (by omega) (by omega)
    have h6 : 1048576 * P ≤ v1 * 1048576 * P := by
      have := Nat.mul_le_mul_right (1048576 * P) hv1
      rw [Nat.one_mul] at this
      rw [Nat.mul_assoc]; exact this
    have h7 : V = v1 * 1048576 * P + v2 * P + Rv := by rw [hV, Nat.add_mul]
    have h8 : g * V = (g - 1) * V + V := by
      obtain ⟨m, hm⟩ : ∃ m, g = m + 1 := ⟨g - 1, by omega⟩
      subst hm; rw [Nat.add_mul]; simp
    omega
end Bg
end Kb
set_option linter.unusedVariables false
set_option linter.unusedSimpArgs false
namespace Kb
namespace Bg
structure DivI (u0 v u q : List Int) (i : Nat) : Prop where
  len : u.length = q.length + v.length
  dg : Dg u
  qd : Dg q
  lt : nv (u.drop i) < nv v
  sum : nv u0 = nv u + 1048576 ^ i * (nv (q.drop i) * nv v)
theorem ar3 (B P x y z w : Nat) : w + P * z + B * P * y + B * (B * P) * x = ((x * B + y) * B + z) * P + w := by grind
theorem ar2 (B P x y w : Nat) : w + P * y + B * P * x = (x * B + y) * P + w := by grind
theorem nv_head (l : List Int) (n : Nat) (h : n + 2 ≤ l.length) : nv (l.take (n + 2)) = ((l.getD (n + 1) 0).toNat * 1048576 + (l.getD n 0).toNat) * 1048576 ^ n + nv (l.take n) := by
  rw [nv_take' l (n + 1), nv_take' l n, pow_succ']
  exact ar2 _ _ _ _ _
theorem nv_head3 (l : List Int) (n : Nat) (h : n + 3 ≤ l.length) : nv (l.take (n + 3)) = (((l.getD (n + 2) 0).toNat * 1048576 + (l.getD (n + 1) 0).toNat) * 1048576 + (l.getD n 0).toNat) * 1048576 ^ n + nv (l.take n) := by
  rw [nv_take' l (n + 2), nv_take' l (n + 1), nv_take' l n, pow_succ' (n + 1), pow_succ']
  exact ar3 _ _ _ _ _ _
theorem take_lt {l : List Int} (h : Dg l) (n : Nat) : nv (l.take n) < 1048576 ^ n := by
  have := nv_lt (h.take n)
  rw [List.length_take] at this
  have h2 : 1048576 ^ (min n l.length) ≤ 1048576 ^ n := Nat.pow_le_pow_right (by omega) (by omega)
  omega
theorem getD_drop (l : List Int) (k i : Nat) : (l.drop k).getD i 0 = l.getD (k + i) 0 := by
  simp [List.getD_eq_getElem?_getD, List.getElem?_drop]
theorem getD_take (l : List Int) {k i : Nat} (h : i < k) : (l.take k).getD i 0 = l.getD i 0 := by
  simp [List.getD_eq_getElem?_getD, List.getElem?_take, h]
section
variable {u0 v u q : List Int} {k : Nat}
/-- the digits on which a round works -/
def win (u : List Int) (k n : Nat) : List Int := (u.drop k).take (n + 1)
theorem win_len (h : DivI u0 v u q (k + 1)) (hk : k < q.length) : (win u k v.length).length = v.length + 1 := by
  unfold win; rw [List.length_take, List.length_drop, h.len]; omega
theorem win_ar {B P U W X V : Nat} (h6 : U = W + B * P * X) (h4 : U < B * V) (h5 : V < P) : X = 0 := by
  refine Decidable.by_contra fun hc => ?_
  have h1 := Nat.mul_le_mul_left B (Nat.le_of_lt h5)
  have h2 := Nat.mul_le_mul_left (B * P) (Nat.pos_of_ne_zero hc)
  rw [Nat.mul_one] at h2
  omega
theorem win_nv (h : DivI u0 v u q (k + 1)) (hv : Dg v) (hk : k < q.length) : nv (u.drop k) = nv (win u k v.length) ∧ nv (win u k v.length) < 1048576 * nv v ∧ nv (u.drop (k + v.length + 1)) = 0 := by
  have h1 := nv_drop (l := u) (i := k) (by rw [h.len]; omega)
  have h2 := h.lt
  have h3 := h.dg.get' k
  have h4 : nv (u.drop k) < 1048576 * nv v := by omega
  have h5 := nv_lt hv
  have h6 := nv_split (u.drop k) (v.length + 1)
  rw [List.length_drop, h.len, Nat.min_eq_left (by omega), List.drop_drop] at h6
  rw [pow_succ'] at h6
  have h7 : nv (u.drop (k + (v.length + 1))) = 0 := win_ar h6 h4 h5
  rw [h7, Nat.mul_zero, Nat.add_zero] at h6
  exact ⟨by unfold win; exact h6, by unfold win; rw [← h6]; exact h4, by rw [Nat.add_assoc]; exact h7⟩
/-- the digit -/
def qk (v u : List Int) (k : Nat) : Nat := nv (win u k v.length) / nv v
theorem qk_is (h : DivI u0 v u q (k + 1)) (hv : Dg v) (hk : k < q.length) : qk v u k < 1048576 ∧ qk v u k * nv v ≤ nv (win u k v.length) ∧ nv (win u k v.length) - qk v u k * nv v < nv v := by
  obtain ⟨h1, h2, h3⟩ := win_nv h hv hk
  have hp : 0 < nv v := by have := h.lt; omega
  refine ⟨Nat.div_lt_of_lt_mul (by rw [Nat.mul_comm]; exact h2), Nat.div_mul_le_self _ _, ?_⟩
  have := Nat.mod_lt (nv (win u k v.length)) hp
  rw [Nat.mod_eq_sub_mul_div, Nat.mul_comm] at this
  exact this
theorem win_head (h : DivI u0 v u q (k + 1)) (hk : k < q.length) {n : Nat} (hn : v.length = n + 2) :
    nv (win u k v.length) = (((u.getD (k + n + 2) 0).toNat * 1048576 + (u.getD (k + n + 1) 0).toNat) * 1048576 + (u.getD (k + n) 0).toNat) * 1048576 ^ n + nv ((u.drop k).take n) := by
  unfold win
  rw [hn, nv_head3 _ _ (by rw [List.length_drop, h.len]; omega), getD_drop, getD_drop, getD_drop]
  rfl
theorem v_head {n : Nat} (hn : v.length = n + 2) : nv v = ((v.getD (n + 1) 0).toNat * 1048576 + (v.getD n 0).toNat) * 1048576 ^ n + nv (v.take n) := by
  have := nv_head v n (by omega)
  rwa [← hn, List.take_length] at this
theorem toNat_div {a b : Int} (ha : 0 ≤ a) (hb : 0 ≤ b) : (a / b).toNat = a.toNat / b.toNat := by
  obtain ⟨m, rfl⟩ := Int.eq_ofNat_of_zero_le ha
  obtain ⟨n, rfl⟩ := Int.eq_ofNat_of_zero_le hb
  rw [← Int.natCast_ediv, Int.toNat_natCast, Int.toNat_natCast, Int.toNat_natCast]
theorem guess_ge {q top v1 v2 u2 V U Rv Ru P B : Nat} (hU : U = (top * B + u2) * P + Ru) (hV : V = (v1 * B + v2) * P + Rv) (hu2 : u2 < B) (hRu : Ru < P) (hq : q * V ≤ U) : q * v1 ≤ top := by
  refine Decidable.by_contra fun hc => ?_
  have hc' : top + 1 ≤ q * v1 := by omega
  have m1 := Nat.mul_le_mul_right (B * P) hc'
  have m2 : q * v1 * (B * P) ≤ q * V := by
    rw [Nat.mul_assoc]
    refine Nat.mul_le_mul_left _ ?_
    rw [hV, Nat.add_mul, Nat.mul_assoc]; omega
  have m3 : (top * B + u2 + 1) * P ≤ ((top + 1) * B) * P := Nat.mul_le_mul_right _ (by rw [Nat.add_mul, Nat.one_mul]; omega)
  rw [← Nat.mul_assoc] at m1
  rw [Nat.add_mul (top * B + u2) 1, Nat.one_mul] at m3
  omega
/-- what holds of a guess -/
structure Gss (v u : List Int) (k : Nat) (g r : Int) : Prop where
  g0 : 0 ≤ g
  g1 : g ≤ 1099511627776
  r0 : 0 ≤ r
  eq : r + g * v.getD (v.length - 1) 0 = u.getD (k + v.length) 0 * 1048576 + u.getD (k + v.length - 1) 0
  ge : qk v u k ≤ g.toNat
theorem gss_nat {g r : Int} (h : Gss v u k g r) (hu : Dg u) (hv : Dg v) : r.toNat + g.toNat * (v.getD (v.length - 1) 0).toNat = (u.getD (k + v.length) 0).toNat * 1048576 + (u.getD (k + v.length - 1) 0).toNat := by
  have a := hv.get' (v.length - 1)
  have b := hu.get' (k + v.length)
  have c := hu.get' (k + v.length - 1)
  have e := h.eq
  have := h.g0; have := h.r0
  have e2 : (g * v.getD (v.length - 1) 0).toNat = g.toNat * (v.getD (v.length - 1) 0).toNat := Int.toNat_mul h.g0 a.1
  have e3 : 0 ≤ g * v.getD (v.length - 1) 0 := Int.mul_nonneg h.g0 a.1
  rw [← e2]; omega
theorem gss_start (h : DivI u0 v u q (k + 1)) (hv : Dg v) (hk : k < q.length) (h2 : 2 ≤ v.length) (hz : 0 < v.getD (v.length - 1) 0) {t g r : Int} (ht : t = u.getD (k + v.length) 0 * 1048576 + u.getD (k + v.length - 1) 0) (hg : g = t / v.getD (v.length - 1) 0) (hr : r = t % v.getD (v.length - 1) 0) : Gss v u k g r := by
  obtain ⟨n, hn⟩ : ∃ n, v.length = n + 2 := ⟨v.length - 2, by omega⟩
  have b := h.dg.get' (k + v.length)
  have c := h.dg.get' (k + v.length - 1)
  have a := hv.get' (v.length - 1)
  have t0 : 0 ≤ t ∧ t < 1099511627776 := by omega
  have hg0 : 0 ≤ g := by rw [hg]; exact Int.ediv_nonneg t0.1 (by omega)
  have hg1 : g ≤ t := by rw [hg]; exact Int.ediv_le_self _ t0.1
  refine ⟨hg0, by omega, by rw [hr]; exact Int.emod_nonneg _ (by omega), ?_, ?_⟩
  · rw [hg, hr, ← ht, Int.mul_comm]; have := Int.mul_ediv_add_emod t (v.getD (v.length - 1) 0); omega
  · obtain ⟨q1, q2, q3⟩ := qk_is h hv hk
    have e1 := win_head h hk hn
    have e2 := v_head hn
    have e3 := take_lt (h.dg.drop k) n
    rw [hn, show n + 2 - 1 = n + 1 by omega] at hg a hz
    rw [hn, show k + (n + 2) = k + n + 2 by omega, show k + n + 2 - 1 = k + n + 1 by omega] at ht c
    rw [hn, show k + (n + 2) = k + n + 2 by omega] at b
    rw [hn] at e1 q2
    have c2 := h.dg.get' (k + n)
    have et : t.toNat = (u.getD (k + n + 2) 0).toNat * 1048576 + (u.getD (k + n + 1) 0).toNat := by omega
    have e4 : qk v u k * (v.getD (n + 1) 0).toNat ≤ t.toNat := by
      rw [et]
      exact guess_ge (u2 := (u.getD (k + n) 0).toNat) e1 e2 (by omega) e3 q2
    have e5 : qk v u k ≤ t.toNat / (v.getD (n + 1) 0).toNat := (Nat.le_div_iff_mul_le (by omega)).2 e4
    have e6 : g.toNat = t.toNat / (v.getD (n + 1) 0).toNat := by rw [hg]; exact toNat_div t0.1 (by omega)
    omega
theorem gss_less {g r : Int} (hG : Gss v u k g r) (h : DivI u0 v u q (k + 1)) (hv : Dg v) (hk : k < q.length) (h2 : 2 ≤ v.length) (hz : 0 < v.getD (v.length - 1) 0)
    (hc : 1048576 ≤ g ∨ r < 1048576 ∧ r * 1048576 + u.getD (k + v.length - 2) 0 < g * v.getD (v.length - 2) 0) : Gss v u k (g - 1) (r + v.getD (v.length - 1) 0) ∧ 0 < g := by
  obtain ⟨q1, q2, q3⟩ := qk_is h hv hk
  have key : qk v u k + 1 ≤ g.toNat := by
    rcases hc with hc | ⟨_, hc⟩
    · omega
    · obtain ⟨n, hn⟩ : ∃ n, v.length = n + 2 := ⟨v.length - 2, by omega⟩
      have e1 := win_head h hk hn
      have e2 := v_head hn
      have e3 := take_lt (h.dg.drop k) n
      have e4 := gss_nat hG h.dg hv
      rw [hn, show n + 2 - 1 = n + 1 by omega, show k + (n + 2) = k + n + 2 by omega, show k + n + 2 - 1 = k + n + 1 by omega] at e4
      rw [hn, show k + (n + 2) - 2 = k + n by omega, show n + 2 - 2 = n by omega] at hc
      have a := hv.get' n
      have c := h.dg.get' (k + n)
      have := hG.g0; have := hG.r0
      refine guess_less (top := (u.getD (k + n + 2) 0).toNat * 1048576 + (u.getD (k + n + 1) 0).toNat) (u2 := (u.getD (k + n) 0).toNat) (rest := r.toNat) (v1 := (v.getD (n + 1) 0).toNat) (v2 := (v.getD n 0).toNat) e1 e2 e3 e4 q2 hG.ge ?_
      have e5 : (g * v.getD n 0).toNat = g.toNat * (v.getD n 0).toNat := Int.toNat_mul hG.g0 a.1
      rw [← e5]; omega
  have e := hG.eq
  have a := hv.get' (v.length - 1)
  refine ⟨⟨by omega, by have := hG.g1; omega, by have := hG.r0; omega, ?_, by omega⟩, by omega⟩
  rw [← e, Int.sub_mul]; omega
theorem gss_end {g r : Int} (hG : Gss v u k g r) (h : DivI u0 v u q (k + 1)) (hv : Dg v) (hk : k < q.length) (h2 : 2 ≤ v.length) (hz : 0 < v.getD (v.length - 1) 0)
    (hc : ¬ 1048576 ≤ g ∧ (¬ r < 1048576 ∨ ¬ r * 1048576 + u.getD (k + v.length - 2) 0 < g * v.getD (v.length - 2) 0)) : (0 ≤ g ∧ g < 1048576) ∧ (g.toNat - 1) * nv v ≤ nv (win u k v.length) ∧ setG (win u k v.length) v g = (qk v u k : Int) := by
  obtain ⟨q1, q2, q3⟩ := qk_is h hv hk
  have h0 := hG.g0
  have hfit : (g.toNat - 1) * nv v ≤ nv (win u k v.length) := by
    obtain ⟨n, hn⟩ : ∃ n, v.length = n + 2 := ⟨v.length - 2, by omega⟩
    have e1 := win_head h hk hn
    have e2 := v_head hn
    have e4 := gss_nat hG h.dg hv
    rw [hn, show n + 2 - 1 = n + 1 by omega, show k + (n + 2) = k + n + 2 by omega, show k + n + 2 - 1 = k + n + 1 by omega] at e4
    rw [hn, show k + (n + 2) - 2 = k + n by omega, show n + 2 - 2 = n by omega] at hc
    rw [hn, show n + 2 - 1 = n + 1 by omega] at hz
    have a := hv.get' n
    have c := h.dg.get' (k + n)
    have := hG.r0
    have e5 : (g * v.getD n 0).toNat = g.toNat * (v.getD n 0).toNat := Int.toNat_mul hG.g0 a.1
    have e6 : 0 ≤ g * v.getD n 0 := Int.mul_nonneg hG.g0 a.1
    refine guess_fits (top := (u.getD (k + n + 2) 0).toNat * 1048576 + (u.getD (k + n + 1) 0).toNat) (u2 := (u.getD (k + n) 0).toNat) (rest := r.toNat) (v1 := (v.getD (n + 1) 0).toNat) (v2 := (v.getD n 0).toNat) e1 e2 (take_lt hv n) e4 (by omega) (by omega) (by omega) ?_
    rcases hc.2 with hc | hc
    · exact .inl (by omega)
    · exact .inr (by rw [← e5]; omega)
  refine ⟨⟨h0, by omega⟩, hfit, ?_⟩
  have hge := hG.ge
  have hp : 0 < nv v := by have := h.lt; omega
  unfold setG
  by_cases hle : g.toNat * nv v ≤ nv (win u k v.length)
  · rw [if_pos hle]
    have : g.toNat ≤ qk v u k := (Nat.le_div_iff_mul_le hp).2 hle
    omega
  · rw [if_neg hle]
    have a1 : g.toNat - 1 ≤ qk v u k := (Nat.le_div_iff_mul_le hp).2 hfit
    have a2 : qk v u k ≠ g.toNat := fun e => hle (by rw [← e]; exact q2)
    omega
/-- the digits behind a round -/
def nxtU (v u : List Int) (k : Nat) (g : Int) : List Int := u.take k ++ setP (win u k v.length) v g ++ u.drop (k + v.length + 1)
theorem div_step {g x : Int} (h : DivI u0 v u q (k + 1)) (hv : Dg v) (hk : k < q.length) (hs : setG (win u k v.length) v g = (qk v u k : Int)) (hx : x = setG (win u k v.length) v g) : DivI u0 v (nxtU v u k g) (q.set k x) k := by
  obtain ⟨q1, q2, q3⟩ := qk_is h hv hk
  obtain ⟨w1, w2, w3⟩ := win_nv h hv hk
  have wl := win_len h hk
  rw [hs] at hx
  subst hx
  have eP : setP (win u k v.length) v g = digL (v.length + 1) (nv (win u k v.length) - qk v u k * nv v) := by unfold setP; rw [hs, wl]; rfl
  have eL : (u.take k).length = k := by rw [List.length_take, h.len]; omega
  have hvl := nv_lt hv
  have e1 : nv (digL (v.length + 1) (nv (win u k v.length) - qk v u k * nv v)) = nv (win u k v.length) - qk v u k * nv v := nv_digL _ _ (by rw [pow_succ']; omega)
  have eD : nv ((nxtU v u k g).drop k) = nv (win u k v.length) - qk v u k * nv v := by
    unfold nxtU
    rw [List.append_assoc, List.drop_append_of_le_length (by omega), List.drop_of_length_le (by omega), List.nil_append, nv_append, w3, eP, e1]; simp
  have eN : nv (nxtU v u k g) = nv (u.take k) + 1048576 ^ k * (nv (win u k v.length) - qk v u k * nv v) := by
    unfold nxtU
    rw [List.append_assoc, nv_append, eL, nv_append, w3, eP, e1]; simp
  refine ⟨?_, ?_, h.qd.set (by omega), by rw [eD]; exact q3, ?_⟩
  · unfold nxtU
    rw [List.length_set, List.length_append, List.length_append, eL, eP, digL_len, List.length_drop, h.len]; omega
  · unfold nxtU; rw [eP]
    exact ((h.dg.take k).append (digL_Dg _ _)).append (h.dg.drop _)
  · have e3 := nv_split u k
    rw [h.len, Nat.min_eq_left (by omega), w1] at e3
    have e4 := nv_drop (l := q.set k (qk v u k : Int)) (i := k) (by rw [List.length_set]; exact hk)
    have e7 : (q.set k (qk v u k : Int)).drop (k + 1) = q.drop (k + 1) := by rw [List.drop_set, if_pos (by omega)]
    rw [getD_set hk, if_pos rfl, e7] at e4
    have e5 := h.sum
    rw [e4, eN, e5, e3, pow_succ']
    have e6 : 1048576 ^ k * nv (win u k v.length) = 1048576 ^ k * (nv (win u k v.length) - qk v u k * nv v) + 1048576 ^ k * (qk v u k * nv v) := by
      rw [← Nat.mul_add]; congr 1; omega
    rw [e6]
    simp only [Int.toNat_natCast]
    rw [Nat.add_mul, Nat.mul_add, Nat.mul_assoc 1048576 (nv (q.drop (k + 1))), Nat.mul_left_comm (1048576 ^ k) 1048576, Nat.mul_assoc 1048576 (1048576 ^ k)]
    omega
end
theorem div_end {u0 v u q : List Int} (h : DivI u0 v u q 0) : nv q = nv u0 / nv v ∧ nv u = nv u0 % nv v := by
  have h1 := h.sum
  have h2 := h.lt
  simp only [List.drop_zero, Nat.pow_zero, Nat.one_mul] at h1 h2
  have hp : 0 < nv v := by omega
  rw [h1, Nat.add_comm, Nat.mul_comm, Nat.mul_add_div hp, Nat.mul_add_mod, Nat.div_eq_of_lt h2, Nat.mod_eq_of_lt h2]
  exact ⟨by omega, rfl⟩
/-- the start: the last digit is a zero -/
theorem div_start {a v q : List Int} (ha : Dg a) (hv : Dg v) (hz : Nz v) (hne : v ≠ []) (hl : v.length ≤ a.length) (hq : q = List.replicate (a.length + 1 - v.length) 0) : DivI (a ++ [0]) v (a ++ [0]) q q.length := by
  have hql : q.length = a.length + 1 - v.length := by rw [hq]; simp
  have hv1 : 1 ≤ v.length := by cases v <;> simp_all
  refine ⟨by rw [hql]; simp; omega, ha.append (Dg.one (by omega)), by rw [hq]; exact Dg.zeros _, ?_, ?_⟩
  · have hge := nv_ge hne hv hz
    rw [hql, List.drop_append_of_le_length (by omega), nv_append]
    have := nv_lt (ha.drop (a.length + 1 - v.length))
    rw [List.length_drop, show a.length - (a.length + 1 - v.length) = v.length - 1 by omega] at this
    have h0 : nv [0] = 0 := rfl
    rw [h0]; omega
  · rw [List.drop_length]; simp [nv]
end Bg
end Kb
set_option linter.unusedVariables false
set_option linter.unusedSimpArgs false
namespace Kb
namespace Bg
def sgn (z : Int) : Int := if z < 0 then -1 else if z = 0 then 0 else 1
theorem sgn_mul_abs (z : Int) : sgn z * (z.natAbs : Int) = z := by
  unfold sgn; split
  · omega
  · split <;> omega
def RtB (s : Int) (l : List Int) : Prop := Dg l ∧ ((l = [] ∧ s = 0) ∨ (l ≠ [] ∧ (s = 1 ∨ s = -1) ∧ Nz l))
instance (s : Int) (l : List Int) : Decidable (RtB s l) := by unfold RtB; infer_instance
def zv (s : Int) (l : List Int) : Int := s * nv l
theorem Nz_iff {l : List Int} (h : l ≠ []) : Nz l ↔ l.getD (l.length - 1) 0 ≠ 0 := by
  unfold Nz
  rw [List.getLast?_eq_getElem?]
  have hl : l.length - 1 < l.length := by cases l <;> simp_all
  rw [List.getElem?_eq_getElem hl, List.getD_eq_getElem?_getD, List.getElem?_eq_getElem hl]
  simp
theorem RtB.dg {s : Int} {l : List Int} (h : RtB s l) : Dg l := h.1
theorem RtB.nz {s : Int} {l : List Int} (h : RtB s l) : Nz l := by
  rcases h.2 with ⟨rfl, _⟩ | ⟨_, _, h⟩
  · unfold Nz; simp
  · exact h
theorem RtB.eq {s : Int} {l : List Int} (h : RtB s l) : l = dig (nv l) := eq_dig h.dg h.nz
theorem RtB.len0 {s : Int} {l : List Int} (h : RtB s l) : l.length = 0 ↔ nv l = 0 := by
  rw [List.length_eq_zero_iff]
  constructor
  · intro e; rw [e]; rfl
  · intro e; have := h.eq; rw [e] at this; exact this
theorem RtB.cases {s : Int} {l : List Int} (h : RtB s l) : (nv l = 0 ∧ s = 0) ∨ (0 < nv l ∧ s = 1) ∨ (0 < nv l ∧ s = -1) := by
  rcases h.2 with ⟨rfl, h2⟩ | ⟨h1, h2, h3⟩
  · exact .inl ⟨rfl, h2⟩
  · have : nv l ≠ 0 := fun e => h1 (by have := h.eq; rw [e] at this; exact this)
    rcases h2 with h2 | h2
    · exact .inr (.inl ⟨by omega, h2⟩)
    · exact .inr (.inr ⟨by omega, h2⟩)
theorem RtB.abs {s : Int} {l : List Int} (h : RtB s l) : (zv s l).natAbs = nv l := by
  unfold zv
  rcases h.cases with ⟨a, rfl⟩ | ⟨a, rfl⟩ | ⟨a, rfl⟩ <;> omega
theorem RtB.sg {s : Int} {l : List Int} (h : RtB s l) : sgn (zv s l) = s := by
  unfold zv sgn
  rcases h.cases with ⟨a, rfl⟩ | ⟨a, rfl⟩ | ⟨a, rfl⟩
  · rw [if_neg (by omega), if_pos (by omega)]
  · rw [if_neg (by omega), if_neg (by omega)]
  · rw [if_pos (by omega)]
theorem RtB.eqd {s : Int} {l : List Int} (h : RtB s l) : l = dig (zv s l).natAbs := by rw [h.abs]; exact h.eq
theorem RtB.of (z : Int) : RtB (sgn z) (dig z.natAbs) := by
  refine ⟨dig_Dg _, ?_⟩
  by_cases e : z.natAbs = 0
  · left; rw [e]; refine ⟨rfl, ?_⟩; unfold sgn; rw [if_neg (by omega), if_pos (by omega)]
  · right
    refine ⟨fun h => e (dig_ne.1 h), ?_, dig_Nz _⟩
    unfold sgn
    split
    · exact .inr rfl
    · rw [if_neg (by omega)]; exact .inl rfl
theorem zv_of (z : Int) : zv (sgn z) (dig z.natAbs) = z := by unfold zv; rw [nv_dig]; exact sgn_mul_abs z
theorem RtB.of1 {n : Nat} (h : n ≠ 0) : RtB 1 (dig n) := by
  have := RtB.of (n : Int)
  unfold sgn at this
  rwa [if_neg (by omega), if_neg (by omega), Int.natAbs_natCast] at this
theorem RtB.inj {s t : Int} {l m : List Int} (h : RtB s l) (k : RtB t m) (e : zv s l = zv t m) : s = t ∧ l = m := by
  constructor
  · rw [← h.sg, ← k.sg, e]
  · rw [h.eqd, k.eqd, e]
/-- results that are there on a condition -/
def oS (p : Prop) [Decidable p] (z : Int) : Int := if p then sgn z else 0
def oD (p : Prop) [Decidable p] (z : Int) : List Int := if p then dig z.natAbs else []
theorem oS_y {p : Prop} [Decidable p] (h : p) (z : Int) : oS p z = sgn z := if_pos h
theorem oD_y {p : Prop} [Decidable p] (h : p) (z : Int) : oD p z = dig z.natAbs := if_pos h
theorem oS_n {p : Prop} [Decidable p] (h : ¬ p) (z : Int) : oS p z = 0 := if_neg h
theorem oD_n {p : Prop} [Decidable p] (h : ¬ p) (z : Int) : oD p z = [] := if_neg h
/-! ### comparing -/
def cmpI (x y : Int) : Int := if x < y then -1 else if x = y then 0 else 1
theorem cmpI_nat {a b : Nat} : cmpI a b = if a < b then -1 else if a = b then 0 else 1 := by
  unfold cmpI
  by_cases h : a < b
  · rw [if_pos h, if_pos (by omega)]
  · rw [if_neg h, if_neg (by omega)]
    by_cases e : a = b
    · rw [if_pos e, if_pos (by omega)]
    · rw [if_neg e, if_neg (by omega)]
theorem cmp_len {a b : List Int} (ha : Dg a) (hb : Dg b) (hz : Nz b) (h : a.length < b.length) : nv a < nv b := by
  refine Decidable.by_contra fun hc => ?_
  have := len_le ha hb hz (by omega)
  omega
theorem cmp_at {a b : List Int} {i : Nat} (ha : Dg a) (hb : Dg b) (hl : a.length = b.length) (hi : i < a.length) (hd : a.drop (i + 1) = b.drop (i + 1)) (h : a.getD i 0 < b.getD i 0) : nv a < nv b := by
  have e1 := nv_split a i
  have e2 := nv_split b i
  rw [Nat.min_eq_left (by omega), nv_drop hi] at e1
  rw [Nat.min_eq_left (by omega), nv_drop (l := b) (by omega), ← hd] at e2
  have t1 := nv_lt (ha.take i)
  rw [List.length_take, Nat.min_eq_left (by omega)] at t1
  have a1 := ha.get' i
  have b1 := hb.get' i
  have hlt : (a.getD i 0).toNat + 1 ≤ (b.getD i 0).toNat := by omega
  have h2 := Nat.mul_le_mul_left (1048576 ^ i) hlt
  rw [Nat.mul_add] at h2 e1 e2
  omega
theorem drop_eq {a b : List Int} {i : Nat} (hl : a.length = b.length) (hi : i < a.length) (hd : a.drop (i + 1) = b.drop (i + 1)) (h : a.getD i 0 = b.getD i 0) : a.drop i = b.drop i := by
  rw [List.drop_eq_getElem_cons hi, List.drop_eq_getElem_cons (show i < b.length by omega), hd]
  congr 1
  simpa [List.getD_eq_getElem?_getD, hi, show i < b.length by omega] using h
theorem cmp_ne {a b : List Int} {i : Nat} (ha : Dg a) (hb : Dg b) (hl : a.length = b.length) (hi : i < a.length) (hd : a.drop (i + 1) = b.drop (i + 1)) (h : a.getD i 0 ≠ b.getD i 0) : cmpI (a.getD i 0) (b.getD i 0) = cmpI (nv a) (nv b) := by
  rcases Int.lt_or_gt_of_ne h with h | h
  · have := cmp_at ha hb hl hi hd h
    unfold cmpI; rw [if_pos h, if_pos (by omega)]
  · have := cmp_at hb ha hl.symm (by omega) hd.symm h
    unfold cmpI; rw [if_neg (by omega), if_neg (by omega), if_neg (by omega), if_neg (by omega)]
theorem cmp_lens {a b : List Int} (ha : Dg a) (hb : Dg b) (za : Nz a) (zb : Nz b) (h : ¬ (a.length : Int) = b.length) : cmpI a.length b.length = cmpI (nv a) (nv b) := by
  rcases Int.lt_or_gt_of_ne h with h | h
  · have := cmp_len ha hb zb (by omega)
    unfold cmpI; rw [if_pos h, if_pos (by omega)]
  · have := cmp_len hb ha za (by omega)
    unfold cmpI; rw [if_neg (by omega), if_neg (by omega), if_neg (by omega), if_neg (by omega)]
section
variable {s t : Int} {l m : List Int}
theorem cmp_z (h : RtB s l) (k : RtB t m) : (if s = t then s * cmpI (nv l) (nv m) else cmpI s t) = cmpI (zv s l) (zv t m) := by
  unfold zv cmpI
  rcases h.cases with ⟨a, rfl⟩ | ⟨a, rfl⟩ | ⟨a, rfl⟩ <;> rcases k.cases with ⟨b, rfl⟩ | ⟨b, rfl⟩ | ⟨b, rfl⟩ <;> simp <;> (try split) <;> (try split) <;> omega
/-! ### sums -/
theorem add_same (h : RtB s l) (k : RtB t m) (hs : 0 ≤ s * t) : (zv s l + zv t m).natAbs = nv l + nv m ∧ (if nv l + nv m = 0 then 0 else if s = 0 then t else s) = sgn (zv s l + zv t m) := by
  unfold zv sgn
  rcases h.cases with ⟨a, rfl⟩ | ⟨a, rfl⟩ | ⟨a, rfl⟩ <;> rcases k.cases with ⟨b, rfl⟩ | ⟨b, rfl⟩ | ⟨b, rfl⟩ <;> simp at hs ⊢ <;> (try omega) <;> constructor <;> (repeat' split) <;> omega
theorem add_less (h : RtB s l) (k : RtB t m) (hs : ¬ 0 ≤ s * t) (hlt : nv l < nv m) : (zv s l + zv t m).natAbs = nv m - nv l ∧ (if nv m - nv l = 0 then 0 else t) = sgn (zv s l + zv t m) := by
  unfold zv sgn
  rcases h.cases with ⟨a, rfl⟩ | ⟨a, rfl⟩ | ⟨a, rfl⟩ <;> rcases k.cases with ⟨b, rfl⟩ | ⟨b, rfl⟩ | ⟨b, rfl⟩ <;> simp at hs ⊢ <;> constructor <;> (repeat' split) <;> omega
theorem add_more (h : RtB s l) (k : RtB t m) (hs : ¬ 0 ≤ s * t) (hge : nv m ≤ nv l) : (zv s l + zv t m).natAbs = nv l - nv m ∧ (if nv l - nv m = 0 then 0 else s) = sgn (zv s l + zv t m) := by
  unfold zv sgn
  rcases h.cases with ⟨a, rfl⟩ | ⟨a, rfl⟩ | ⟨a, rfl⟩ <;> rcases k.cases with ⟨b, rfl⟩ | ⟨b, rfl⟩ | ⟨b, rfl⟩ <;> simp at hs ⊢ <;> constructor <;> (repeat' split) <;> omega
theorem neg_z (h : RtB s l) : zv (-s) l = - zv s l := by unfold zv; rw [Int.neg_mul]
theorem RtB.neg (h : RtB s l) : RtB (-s) l := by
  refine ⟨h.1, ?_⟩
  rcases h.2 with ⟨h1, h2⟩ | ⟨h1, h2, h3⟩
  · exact .inl ⟨h1, by omega⟩
  · exact .inr ⟨h1, by omega, h3⟩
theorem mul_z (h : RtB s l) (k : RtB t m) : (zv s l * zv t m).natAbs = nv l * nv m ∧ (if nv l * nv m = 0 then 0 else s * t) = sgn (zv s l * zv t m) := by
  have e : (zv s l * zv t m).natAbs = nv l * nv m := by rw [Int.natAbs_mul, h.abs, k.abs]
  refine ⟨e, ?_⟩
  have e2 : zv s l * zv t m = (s * t) * ((nv l * nv m : Nat) : Int) := by
    unfold zv; rw [Int.natCast_mul, Int.mul_assoc, Int.mul_assoc, Int.mul_left_comm (nv l : Int)]
  rw [e2]
  rcases h.cases with ⟨a, rfl⟩ | ⟨a, rfl⟩ | ⟨a, rfl⟩ <;> rcases k.cases with ⟨b, rfl⟩ | ⟨b, rfl⟩ | ⟨b, rfl⟩ <;> (try (rw [a]; simp [sgn]; done)) <;> (try (rw [b]; simp [sgn]; done))
  all_goals
    have hp : 0 < nv l * nv m := Nat.mul_pos a b
    generalize nv l * nv m = p at *
    rw [if_neg (by omega)]
    unfold sgn
    simp
    omega
/-! ### floors -/
def flo (a b : Int) : Int := if 0 < b then a / b else (-a) / (-b)
def fmo (a b : Int) : Int := a - b * flo a b
theorem div_same (h : RtB s l) (k : RtB t m) (ht : nv m ≠ 0) (hs : 0 ≤ s * t ∨ nv l % nv m = 0) : (flo (zv s l) (zv t m)).natAbs = nv l / nv m ∧ (fmo (zv s l) (zv t m)).natAbs = nv l % nv m ∧
    (if nv l / nv m = 0 then 0 else s * t) = sgn (flo (zv s l) (zv t m)) ∧ (if nv l % nv m = 0 then 0 else s) = sgn (fmo (zv s l) (zv t m)) := by
  have hd := Nat.div_add_mod (nv l) (nv m)
  have hr := Nat.mod_lt (nv l) (Nat.pos_of_ne_zero ht)
  have hf : flo (zv s l) (zv t m) = s * t * ((nv l / nv m : Nat) : Int) := by
    unfold flo zv
    have key : (nv l : Int) / nv m = ((nv l / nv m : Nat) : Int) := (Int.natCast_ediv _ _).symm
    have key2 : nv l % nv m = 0 → (-(nv l : Int)) / nv m = -((nv l / nv m : Nat) : Int) := fun h0 => by
      have : (nv l : Int) = nv m * ((nv l / nv m : Nat) : Int) := by rw [← Int.natCast_mul]; congr 1; omega
      rw [this, ← Int.mul_neg, Int.mul_ediv_cancel_left _ (by omega)]
    rcases h.cases with ⟨a, rfl⟩ | ⟨a, rfl⟩ | ⟨a, rfl⟩ <;> rcases k.cases with ⟨b, rfl⟩ | ⟨b, rfl⟩ | ⟨b, rfl⟩ <;> (try omega)
    · simp
    · simp
    · rw [if_pos (by omega)]; simp only [Int.one_mul]; exact key
    · rw [if_neg (by omega)]
      have h0 : nv l % nv m = 0 := by rcases hs with hs | hs <;> omega
      have := key2 h0
      simp only [Int.neg_mul, Int.one_mul, Int.neg_neg] at this ⊢; exact this
    · rw [if_pos (by omega)]
      have h0 : nv l % nv m = 0 := by rcases hs with hs | hs <;> omega
      have := key2 h0
      simp only [Int.neg_mul, Int.one_mul, Int.mul_one] at this ⊢; exact this
    · rw [if_neg (by omega)]; simp only [Int.neg_mul, Int.one_mul, Int.neg_neg, Int.mul_neg, Int.mul_one]; exact key
  have hm : fmo (zv s l) (zv t m) = s * ((nv l % nv m : Nat) : Int) := by
    unfold fmo
    rw [hf]
    have e : zv t m * (s * t * ((nv l / nv m : Nat) : Int)) = s * (t * t) * ((nv m * (nv l / nv m) : Nat) : Int) := by
      unfold zv; rw [Int.natCast_mul]
      generalize (nv m : Int) = x; generalize ((nv l / nv m : Nat) : Int) = y
      grind
    have tt : t * t = 1 := by rcases k.cases with ⟨b, rfl⟩ | ⟨b, rfl⟩ | ⟨b, rfl⟩ <;> first | omega | rfl
    rw [e, tt, Int.mul_one]
    unfold zv
    rw [← Int.mul_sub]; congr 1; omega
  rw [hf, hm]
  refine ⟨?_, ?_, ?_, ?_⟩
  · have e0 : nv l = 0 → nv l / nv m = 0 := fun a => by rw [a]; simp
    generalize nv l / nv m = q at *
    rcases h.cases with ⟨a, rfl⟩ | ⟨a, rfl⟩ | ⟨a, rfl⟩ <;> rcases k.cases with ⟨b, rfl⟩ | ⟨b, rfl⟩ | ⟨b, rfl⟩ <;> omega
  · have e0 : nv l = 0 → nv l % nv m = 0 := fun a => by rw [a]; simp
    generalize nv l % nv m = q at *
    rcases h.cases with ⟨a, rfl⟩ | ⟨a, rfl⟩ | ⟨a, rfl⟩ <;> omega
  · generalize hq : nv l / nv m = q at *
    unfold sgn
    rcases h.cases with ⟨a, rfl⟩ | ⟨a, rfl⟩ | ⟨a, rfl⟩ <;> rcases k.cases with ⟨b, rfl⟩ | ⟨b, rfl⟩ | ⟨b, rfl⟩ <;> (try omega) <;> simp <;> (repeat' split) <;> omega
  · generalize hq : nv l % nv m = q at *
    unfold sgn
    rcases h.cases with ⟨a, rfl⟩ | ⟨a, rfl⟩ | ⟨a, rfl⟩ <;> simp <;> (repeat' split) <;> omega
theorem div_diff (h : RtB s l) (k : RtB t m) (ht : nv m ≠ 0) (hs : s * t < 0) (h0 : nv l % nv m ≠ 0) : (flo (zv s l) (zv t m)).natAbs = nv l / nv m + 1 ∧ (fmo (zv s l) (zv t m)).natAbs = nv m - nv l % nv m ∧
    -1 = sgn (flo (zv s l) (zv t m)) ∧ t = sgn (fmo (zv s l) (zv t m)) := by
  have hd := Nat.div_add_mod (nv l) (nv m)
  have hr := Nat.mod_lt (nv l) (Nat.pos_of_ne_zero ht)
  have hf : flo (zv s l) (zv t m) = -((nv l / nv m + 1 : Nat) : Int) := by
    have key : (-(nv l : Int)) / nv m = -((nv l / nv m + 1 : Nat) : Int) := by
      refine ((Int.ediv_emod_unique (r := ((nv m - nv l % nv m : Nat) : Int)) (by omega)).2 ⟨?_, by omega, by omega⟩).1
      rw [Int.mul_neg, ← Int.natCast_mul, Nat.mul_add]; omega
    unfold flo zv
    rcases h.cases with ⟨a, rfl⟩ | ⟨a, rfl⟩ | ⟨a, rfl⟩ <;> rcases k.cases with ⟨b, rfl⟩ | ⟨b, rfl⟩ | ⟨b, rfl⟩ <;> (try omega)
    · rw [if_neg (by omega)]; simp only [Int.neg_mul, Int.one_mul, Int.neg_neg]; exact key
    · rw [if_pos (by omega)]; simp only [Int.neg_mul, Int.one_mul, Int.mul_one]; exact key
  have hm : fmo (zv s l) (zv t m) = t * ((nv m - nv l % nv m : Nat) : Int) := by
    unfold fmo
    rw [hf]
    have e : nv m * (nv l / nv m + 1) = nv m * (nv l / nv m) + nv m := by rw [Nat.mul_add, Nat.mul_one]
    unfold zv
    rw [Int.mul_neg, Int.mul_assoc, ← Int.natCast_mul, e]
    rcases h.cases with ⟨a, rfl⟩ | ⟨a, rfl⟩ | ⟨a, rfl⟩ <;> rcases k.cases with ⟨b, rfl⟩ | ⟨b, rfl⟩ | ⟨b, rfl⟩ <;> omega
  rw [hf, hm]
  refine ⟨by rw [Int.natAbs_neg, Int.natAbs_natCast], ?_, ?_, ?_⟩
  · rcases k.cases with ⟨b, rfl⟩ | ⟨b, rfl⟩ | ⟨b, rfl⟩ <;> omega
  · unfold sgn
    have : ((nv l / nv m + 1 : Nat) : Int) > 0 := by
      generalize nv l / nv m = q
      omega
    rw [if_pos (by omega)]
  · unfold sgn
    rcases k.cases with ⟨b, rfl⟩ | ⟨b, rfl⟩ | ⟨b, rfl⟩
    · omega
    · rw [if_neg (by omega), if_neg (by omega)]
    · rw [if_pos (by omega)]
end
end Bg
end Kb
