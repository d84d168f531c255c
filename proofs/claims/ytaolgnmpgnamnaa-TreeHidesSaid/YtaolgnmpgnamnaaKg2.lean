/- Rules for operations that take slice values apart: build, buildSlice, box. No program in sight. -/
import Derived.Test.YtaolgnmpgnamnaaKg1
namespace Kb
open Go
/-- slice values, by their parts -/
def slv (a : Nat → Option Addr) (n c : Nat → Nat) : Nat → Value := fun k => .slice (a k) (n k) (c k)
def listV (l : List Value) : Nat → Value := fun k => l.getD k (.slice none 0 0)
theorem listV_sl {l : List Value} (h : ∀ x ∈ l, ∃ n, IsSl x n) : ∃ a n c, listV l = slv a n c := by
  have key : ∀ k, ∃ a n c, listV l k = .slice a n c := fun k => by
    unfold listV
    by_cases hk : k < l.length
    · have hm : l.getD k (.slice none 0 0) ∈ l := by simp [hk]
      obtain ⟨n, a, c, e, _⟩ := h _ hm
      exact ⟨a, n, c, e⟩
    · rw [List.getD_eq_getElem?_getD, List.getElem?_eq_none (by omega)]
      exact ⟨none, 0, 0, rfl⟩
  have h2 : ∀ k, ∃ p : Option Addr × Nat × Nat, listV l k = .slice p.1 p.2.1 p.2.2 := fun k => by
    obtain ⟨a, n, c, e⟩ := key k
    exact ⟨(a, n, c), e⟩
  exact ⟨fun k => (Classical.choose (h2 k)).1, fun k => (Classical.choose (h2 k)).2.1, fun k => (Classical.choose (h2 k)).2.2, funext fun k => Classical.choose_spec (h2 k)⟩
section
variable {P : Program} {R : RC} {w0 : World} {X : List Nat} {i : Nat}
def RC.bld (R : RC) (G : Gh) (i : Nat) : Option (TypeId × Option Nat × Array (Nat × Value)) := match (R.ops[i]?).map (fun o : Oper => o.op) with
  | some (.build t parts) => some (t, none, parts.map fun (k, x) => (k, R.evalAt G i x))
  | some (.buildSlice t len parts) => some (t, some len, parts.map fun (k, x) => (k, R.evalAt G i x))
  | some (.box t x) => some (t, none, #[(0, R.evalAt G i x)])
  | _ => none
def RC.isBuild (R : RC) (i : Nat) : Nat := match (R.ops[i]?).map (fun o : Oper => o.op) with
  | some (.build ..) => 1
  | some (.buildSlice ..) => 2
  | some (.box ..) => 3
  | _ => 0
structure BuildOf (P : Program) (R : RC) (i : Nat) (t : TypeId) (ps : (Nat → Value) → Array (Nat × Value)) (rs : (Nat → Value) → Value) (v : Nat → Value) (G : Gh) : Prop where
  eq : (R.bld G i, R.isBuild i, R.val i (RC.put G i {}), (R.ups i).map (·.1), R.fact i (RC.put G i {})) = (some (t, none, ps v), 1, rs v, [], True)
theorem One.buildS {t : TypeId} {ps : (Nat → Value) → Array (Nat × Value)} {rs : (Nat → Value) → Value} {l : Gh → List Value} (h : ∀ G, BuildOf P R i t ps rs (listV (l G)) G)
    (hb : ∀ a n c w, (Instr.build t (ps (slv a n c))).run P w = .ok (rs (slv a n c)) w) (hv : ∀ G w, R.Sees w0 X G i w → ∀ x ∈ l G, ∃ n, IsSl x n) : One R P w0 X i := fun o ho G w hs => by
  have h0 := (h G).eq
  simp only [Prod.mk.injEq] at h0
  obtain ⟨e1, e2, e3, e4, e5⟩ := h0
  obtain ⟨a, n, c, hl⟩ := listV_sl (hv G w hs)
  rw [hl] at e1 e3
  unfold RC.bld at e1
  unfold RC.isBuild at e2
  rw [ho] at e1 e2
  obtain ⟨dst, op, type, pos, after, guard⟩ := o
  cases op <;> simp only [Option.map_some] at e1 e2 <;> first | cases e2 | skip
  case build t' parts =>
    simp only [Option.some.injEq, Prod.mk.injEq] at e1
    obtain ⟨rfl, _, hp⟩ := e1
    have hr : (execOp (R.evalAt G i) { dst, op := .build t' parts, type, pos, after, guard }).run P w = .ok (.value (rs (slv a n c))) w := by
      have := hb a n c w
      rw [← hp] at this
      simp [execOp, this]
    unfold Does
    rw [hr, ← e3]
    exact ⟨{}, RC.Left.pure (ups_nil e4) (e5 ▸ trivial)⟩
structure NewOf (P : Program) (R : RC) (i kind : Nat) (t : TypeId) (len : Option Nat) (r : Nat) (T : TypeId) (mk : Nat → Value) (ps : (Nat → Value) → Array (Nat × Value)) (arr : (Nat → Value) → Array Value) (v : Nat → Value) (G : Gh) (b : Nat) : Prop where
  eq : (R.bld G i, R.isBuild i, R.val i (RC.put G i { b := b }), R.news (RC.put G i { b := b }) i, R.fact i (RC.put G i { b := b })) = (some (t, len, ps v), kind, mk b, [(r, some (b, .cells (arr v) T))], True)
theorem left_new {G : Gh} {w : World} {r : Nat} {T : TypeId} {arr : Array Value} {v : Value} (hv : v = R.val i (RC.put G i { b := w.heap.size })) (e2 : R.news (RC.put G i { b := w.heap.size }) i = [(r, some (w.heap.size, .cells arr T))]) (e3 : R.fact i (RC.put G i { b := w.heap.size })) :
    R.Left w { w with heap := w.heap.push (.cells arr T) } G i { b := w.heap.size } v := by
  have one : ∀ p ∈ R.ups i, p.1 = r ∧ p.2 (RC.put G i { b := w.heap.size }) = some (w.heap.size, .cells arr T) := fun p hp => by
    have : (p.1, p.2 (RC.put G i { b := w.heap.size })) ∈ R.news (RC.put G i { b := w.heap.size }) i := List.mem_map.2 ⟨p, hp, rfl⟩
    rw [e2] at this
    simpa using this
  refine ⟨hv, e3, base_push _ _, (fun b o h => by cases h), fun b h => absurd rfl h, fun p hp b o' he => ?_, fun p hp q hq b o1 o2 _ _ => ?_⟩
  · rw [(one p hp).2] at he
    cases he
    exact ⟨push_get, .inl (Nat.le_refl _), rfl⟩
  · rw [(one p hp).1, (one q hq).1]
theorem One.buildSliceS {t r len : Nat} {T : TypeId} {ps : (Nat → Value) → Array (Nat × Value)} {arr : (Nat → Value) → Array Value} {l : Gh → List Value} (h : ∀ G b, NewOf P R i 2 t (some len) r T (fun b => .slice (some ⟨b, 0, none⟩) len len) ps arr (listV (l G)) G b)
    (hb : ∀ a n c w, (Instr.buildSlice t len (ps (slv a n c))).run P w = .ok (.slice (some ⟨w.heap.size, 0, none⟩) len len) { w with heap := w.heap.push (.cells (arr (slv a n c)) T) }) (hv : ∀ G w, R.Sees w0 X G i w → ∀ x ∈ l G, ∃ n, IsSl x n) : One R P w0 X i := fun o ho G w hs => by
  have h0 := (h G w.heap.size).eq
  simp only [Prod.mk.injEq] at h0
  obtain ⟨e1, e2, e3, e4, e5⟩ := h0
  obtain ⟨a, n, c, hl⟩ := listV_sl (hv G w hs)
  rw [hl] at e1 e4
  unfold RC.bld at e1
  unfold RC.isBuild at e2
  rw [ho] at e1 e2
  obtain ⟨dst, op, type, pos, after, guard⟩ := o
  cases op <;> simp only [Option.map_some] at e1 e2 <;> first | cases e2 | skip
  case buildSlice t' len' parts =>
    simp only [Option.some.injEq, Prod.mk.injEq] at e1
    obtain ⟨rfl, rfl, hp⟩ := e1
    have hr : (execOp (R.evalAt G i) { dst, op := .buildSlice t' len' parts, type, pos, after, guard }).run P w = .ok (.value (.slice (some ⟨w.heap.size, 0, none⟩) len' len')) { w with heap := w.heap.push (.cells (arr (slv a n c)) T) } := by
      have := hb a n c w
      rw [← hp] at this
      simp [execOp, this]
    unfold Does
    rw [hr]
    exact ⟨_, left_new e3.symm e4 (e5 ▸ trivial)⟩
theorem One.boxS {t r : Nat} {T : TypeId} {ps : (Nat → Value) → Array (Nat × Value)} {arr : (Nat → Value) → Array Value} {l : Gh → List Value} (h : ∀ G b, NewOf P R i 3 t none r T (fun b => .pointer (some ⟨b, 0, none⟩)) ps arr (listV (l G)) G b)
    (hb : ∀ a n c w, (Instr.box t (((ps (slv a n c)).getD 0 (0, undef)).2)).run P w = .ok (.pointer (some ⟨w.heap.size, 0, none⟩)) { w with heap := w.heap.push (.cells (arr (slv a n c)) T) }) (hv : ∀ G w, R.Sees w0 X G i w → ∀ x ∈ l G, ∃ n, IsSl x n) : One R P w0 X i := fun o ho G w hs => by
  have h0 := (h G w.heap.size).eq
  simp only [Prod.mk.injEq] at h0
  obtain ⟨e1, e2, e3, e4, e5⟩ := h0
  obtain ⟨a, n, c, hl⟩ := listV_sl (hv G w hs)
  rw [hl] at e1 e4
  unfold RC.bld at e1
  unfold RC.isBuild at e2
  rw [ho] at e1 e2
  obtain ⟨dst, op, type, pos, after, guard⟩ := o
  cases op <;> simp only [Option.map_some] at e1 e2 <;> first | cases e2 | skip
  case box t' x =>
    simp only [Option.some.injEq, Prod.mk.injEq] at e1
    obtain ⟨rfl, _, hp⟩ := e1
    have hr : (execOp (R.evalAt G i) { dst, op := .box t' x, type, pos, after, guard }).run P w = .ok (.value (.pointer (some ⟨w.heap.size, 0, none⟩))) { w with heap := w.heap.push (.cells (arr (slv a n c)) T) } := by
      have := hb a n c w
      rw [← hp] at this
      simp only [Array.getD_eq_getD_getElem?, List.getElem?_toArray] at this
      simp at this
      simp [execOp, this]
    unfold Does
    rw [hr]
    exact ⟨_, left_new e3.symm e4 (e5 ▸ trivial)⟩
/-! ### literals under a guard: their block is new read-only memory -/
structure NewM (P : Program) (R : RC) (w0 : World) (i : Nat) (mk : Nat → Value) (arr : Array Value) (T : TypeId) (G : Gh) (b : Nat) : Prop where
  eq : (R.val i (RC.put G i { b := b, H := entH (some (b, .cells arr T)) }), (R.ups i).map (·.1)) = (mk b, [])
  fact : R.fact i (RC.put G i { b := b, H := entH (some (b, .cells arr T)) }) = (entH (some (b, .cells arr T)) = entH (some (b, .cells arr T)) ∧ New w0 (entH (some (b, .cells arr T))))
theorem left_newM {G : Gh} {w : World} {T : TypeId} {arr : Array Value} {mk : Nat → Value} (h : NewM P R w0 i mk arr T G w.heap.size) (hb : Base X w0 w) :
    R.Left w { w with heap := w.heap.push (.cells arr T) } G i { b := w.heap.size, H := entH (some (w.heap.size, .cells arr T)) } (mk w.heap.size) := by
  have e := h.eq
  simp only [Prod.mk.injEq] at e
  have hn : ∀ w1 : World, w1.heap.size ≤ w.heap.size → New w1 (entH (some (w.heap.size, .cells arr T))) := fun w1 h1 => entH_new (e := some (w.heap.size, .cells arr T)) fun b o he => by cases he; exact h1
  rw [← e.1]
  refine RC.Left.grow (ups_nil e.2) ?_ (base_push _ _) (entH_agrees (e := some (w.heap.size, .cells arr T)) fun b o he => by cases he; exact push_get) (hn w (Nat.le_refl _))
  rw [h.fact]
  exact ⟨rfl, hn w0 hb.size⟩
theorem One.newM {T : TypeId} (mk : Nat → Value) {arr : Gh → Array Value} (h : ∀ G w, R.ex P G i w = some (.ok (.value (mk w.heap.size)) { w with heap := w.heap.push (.cells (arr G) T) })) (h2 : ∀ G b, NewM P R w0 i mk (arr G) T G b) : One R P w0 X i := fun o ho G w hs => by
  have h0 := h G w
  unfold RC.ex at h0
  rw [ho] at h0
  simp only [Option.map_some, Option.some.injEq] at h0
  unfold Does
  rw [h0]
  exact ⟨_, left_newM (h2 G w.heap.size) hs.base⟩
structure BldOf (R : RC) (i kind : Nat) (t : TypeId) (len : Option Nat) (ps : (Nat → Value) → Array (Nat × Value)) (v : Nat → Value) (G : Gh) : Prop where
  eq : (R.bld G i, R.isBuild i) = (some (t, len, ps v), kind)
theorem One.buildSliceM {t len : Nat} {T : TypeId} {ps : (Nat → Value) → Array (Nat × Value)} {arr : (Nat → Value) → Array Value} {l : Gh → List Value} (h : ∀ G, BldOf R i 2 t (some len) ps (listV (l G)) G) (h2 : ∀ G b, NewM P R w0 i (fun b => .slice (some ⟨b, 0, none⟩) len len) (arr (listV (l G))) T G b)
    (hb : ∀ a n c w, (Instr.buildSlice t len (ps (slv a n c))).run P w = .ok (.slice (some ⟨w.heap.size, 0, none⟩) len len) { w with heap := w.heap.push (.cells (arr (slv a n c)) T) }) (hv : ∀ G w, R.Sees w0 X G i w → ∀ x ∈ l G, ∃ n, IsSl x n) : One R P w0 X i := fun o ho G w hs => by
  have h0 := (h G).eq
  have h3 := h2 G w.heap.size
  simp only [Prod.mk.injEq] at h0
  obtain ⟨e1, e2⟩ := h0
  obtain ⟨a, n, c, hl⟩ := listV_sl (hv G w hs)
  rw [hl] at e1 h3
  unfold RC.bld at e1
  unfold RC.isBuild at e2
  rw [ho] at e1 e2
  obtain ⟨dst, op, type, pos, after, guard⟩ := o
  cases op <;> simp only [Option.map_some] at e1 e2 <;> first | cases e2 | skip
  case buildSlice t' len' parts =>
    simp only [Option.some.injEq, Prod.mk.injEq] at e1
    obtain ⟨rfl, rfl, hp⟩ := e1
    have hr : (execOp (R.evalAt G i) { dst, op := .buildSlice t' len' parts, type, pos, after, guard }).run P w = .ok (.value (.slice (some ⟨w.heap.size, 0, none⟩) len' len')) { w with heap := w.heap.push (.cells (arr (slv a n c)) T) } := by
      have := hb a n c w
      rw [← hp] at this
      simp [execOp, this]
    unfold Does
    rw [hr]
    exact ⟨_, left_newM h3 hs.base⟩
end
/-- a literal in new memory, read -/
theorem OSl.litH {α : Type} [Dat α] {E : TypeId} {e : Ent} {H K : Heaplet} {l : List α} {v : Value} (h : OSl E K l v e) (hH : H = entH e) (hA : Sub K (hun H K)) : RSl (hun H K) l v := by
  subst hH
  exact h.frozen hA hun_left
end Kb
