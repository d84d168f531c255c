/- Rules for operations on memory: what an operation needs is said under 'R.Sees'; values may be the choices of earlier operations. No program in sight. -/
import Derived.Test.YtmoekalfmahljaaKc
import Derived.Laws.StructEq
import Derived.Laws.Strings
set_option linter.unusedVariables false
set_option linter.unusedSectionVars false
set_option linter.unusedSimpArgs false
namespace Kb
open Go
abbrev Gh := Nat → Rec

/-! ### types -/
/-- is it a type of several cells? -/
def aggB (P : Program) (t : TypeId) : Bool := match P.underlying t with
  | some (.struct _) => true
  | some (.array _ _) => true
  | _ => false
def wrapT (P : Program) (t : TypeId) (vs : List Value) : Value := bif aggB P t then .agg vs.toArray else vs.headD undef
def sizeT (P : Program) (t : TypeId) : Option Nat := (P.info? t).map (·.size)
theorem run_isAgg {P : Program} {w : World} {t : TypeId} (h : (P.underlying t).isSome = true) : (isAgg t).run P w = .ok (aggB P t) w := by
  unfold isAgg aggB underlying
  cases hu : P.underlying t with
  | none => rw [hu] at h; cases h
  | some d => cases d <;> simp [hu]
theorem run_sizeOf {P : Program} {w : World} {t : TypeId} {n : Nat} (h : sizeT P t = some n) : (Go.sizeOf t).run P w = Result.ok n w := by
  unfold sizeT at h
  unfold Go.sizeOf typeInfo
  cases hi : P.info? t with
  | none => simp [hi] at h
  | some i => simp [hi] at h ⊢; exact h
theorem loadVar_run {P : Program} {w : World} {t : TypeId} {a : Addr} {vs : List Value} (hu : (P.underlying t).isSome = true) (hz : sizeT P t = some vs.length) (h1 : aggB P t = false → vs.length = 1)
    (hc : ∀ (j : Nat) (v : Value), vs[j]? = some v → w.cell? (a.add j) = some v) : (loadVar t a).run P w = .ok (wrapT P t vs) w := by
  unfold loadVar wrapT
  rw [Sem.run_bind, run_isAgg hu]
  simp only [Result.andThen_ok]
  cases hb : aggB P t with
  | true =>
    simp only [if_true, Sem.run_bind, run_sizeOf hz, Result.andThen_ok, run_loadCells_list w a vs hc, cond_true, Sem.run_pure]
  | false =>
    simp only [Bool.false_eq_true, if_false, cond_false]
    match vs, h1 hb with
    | [v], _ =>
      have h0 := hc 0 v rfl
      have e : a.add 0 = a := by simp [Addr.add]
      rw [e] at h0
      simp [run_load, h0]

section
variable {P : Program} {R : RC} {w0 : World} {X : List Nat} {i : Nat}
/-! ### what earlier operations have left -/
theorem RC.Sees.get {G : Gh} {w : World} (hs : R.Sees w0 X G i w) (j : Nat) {F : Prop} {p : Bool} (hb : R.bef i j = true) (hp : R.gd G j = p) (ht : p = true) (e : R.fact j G = F) : F := e ▸ hs.fact j hb (hp.trans ht)
theorem RC.Sees.heap {G : Gh} {w : World} (hs : R.Sees w0 X G i w) (j : Nat) (hb : R.bef i j = true) : Agrees w (G j).H := hs.agrG j hb
theorem RC.Sees.read {G : Gh} {w : World} {H : Heaplet} (hs : R.Sees w0 X G i w) (k : Nat) (h : R.A[k]? = some H) : Agrees w H := hs.agr H (List.mem_of_getElem? h)
theorem RC.Sees.own {G : Gh} {w : World} (hs : R.Sees w0 X G i w) {r : Nat} {e : Ent} (h : (R.entAt G i r, (R.c i).rds.contains r || R.wrE r i) = (e, true)) : EntIn w e := fun b o hb => by
  simp only [Prod.mk.injEq] at h
  exact (hs.ent r h.2 b o (h.1.trans hb)).1
theorem RC.Done.get {nt : Nat} {G : Gh} {a : Act} {w : World} (hs : R.Done nt w0 X G a w) (j : Nat) {F : Prop} (hb : decide (j < R.ops.size) = true) (hp : R.gd G j = true) (e : R.fact j G = F) : F := e ▸ hs.fact j (of_decide_eq_true hb) hp

/-! ### calls with a plain result -/
theorem One.callP {v : Gh → Value} {f : FuncId} {args : Gh → Array Value} (h : ∀ G w, R.is P G w i = enters f (args G) (v G) w) (hc : ∀ G w, R.Sees w0 X G i w → Calls P f (args G) w fun e w' => e = .returned (v G) ∧ Base [] w w') : One R P w0 X i := fun o ho G w hs => by
  have := h G w
  unfold RC.is enters at this
  simp only [Prod.mk.injEq] at this
  obtain ⟨h1, h2, h3, h4⟩ := this
  unfold RC.ex at h1
  rw [ho] at h1
  simp only [Option.map_some, Option.some.injEq] at h1
  unfold Does
  rw [h1]
  refine (hc G w hs).mono ?_
  rintro e w' ⟨rfl, hb⟩
  refine ⟨_, rfl, {}, ?_⟩
  rw [← h2]
  exact RC.Left.grow (ups_nil h3) (h4 ▸ trivial) hb (fun b o h => by cases h) (fun b h => absurd rfl h)

/-! ### loads -/
/-- a load: of which type, from where -/
def RC.ldr (R : RC) (G : Gh) (i : Nat) : Option (TypeId × Value) := match (R.ops[i]?).map (fun o : Oper => o.op) with
  | some (.load t x) => some (t, R.evalAt G i x)
  | _ => none
structure LoadOf (P : Program) (R : RC) (i : Nat) (t : TypeId) (p : Addr) (vs : List Value) (G : Gh) : Prop where
  eq : (R.ldr G i, (P.underlying t).isSome, sizeT P t, aggB P t || vs.length == 1, R.val i (RC.put G i {}), (R.ups i).map (·.1), R.fact i (RC.put G i {})) =
    (some (t, .pointer (some p)), true, some vs.length, true, wrapT P t vs, [], True)
theorem One.load {t : TypeId} {p : Gh → Addr} {vs : Gh → List Value} (h : ∀ G, LoadOf P R i t (p G) (vs G) G)
    (hc : ∀ G w, R.Sees w0 X G i w → ∀ (j : Nat) (v : Value), (vs G)[j]? = some v → w.cell? ((p G).add j) = some v) : One R P w0 X i := fun o ho G w hs => by
  have h0 := (h G).eq
  simp only [Prod.mk.injEq] at h0
  obtain ⟨e1, e2, e3, e4, e5, e6, e7⟩ := h0
  unfold RC.ldr at e1
  rw [ho] at e1
  obtain ⟨dst, op, type, pos, after, guard⟩ := o
  cases op <;> simp only [Option.map_some] at e1 <;> first | cases e1 | skip
  case load t' x =>
    simp only [Option.some.injEq, Prod.mk.injEq] at e1
    obtain ⟨rfl, hx⟩ := e1
    have hl := loadVar_run (w := w) (a := p G) e2 e3 (fun hb => by rw [hb] at e4; simpa using e4) (hc G w hs)
    unfold Does
    have hr : (execOp (R.evalAt G i) { dst, op := .load t' x, type, pos, after, guard }).run P w = .ok (.value (wrapT P t' (vs G))) w := by
      simp [execOp, Instr.loadAt, hx, Instr.sureAddr, hl]
    rw [hr, ← e5]
    exact ⟨{}, RC.Left.pure (ups_nil e6) (e7 ▸ trivial)⟩
/-- from memory that is only read -/
theorem One.loadC {t : TypeId} {p : Gh → Addr} {vs : Gh → List Value} {H : Gh → Heaplet} (h : ∀ G, LoadOf P R i t (p G) (vs G) G)
    (hc : ∀ G w, R.Sees w0 X G i w → Agrees w (H G) ∧ HCells (H G) (p G) (vs G)) : One R P w0 X i :=
  One.load h fun G w hs => (hc G w hs).2.cell (hc G w hs).1
/-- from a block of the call's own -/
theorem One.loadE {t r off : Nat} {b : Gh → Nat} {vs : Gh → List Value} {arr : Gh → Array Value} {T : TypeId} {fr : Nat × Nat}
    (h : ∀ G, LoadOf P R i t ⟨b G, off, none⟩ (vs G) G) (he : ∀ G, (R.entAt G i r, (R.c i).rds.contains r, (List.range (vs G).length).map fun j => (arr G)[off + j]?) = (some (b G, .cells (arr G) T fr), true, (vs G).map some)) : One R P w0 X i :=
  One.load (p := fun G => ⟨b G, off, none⟩) h fun G w hs j v hj => by
    have h0 := he G
    simp only [Prod.mk.injEq] at h0
    obtain ⟨e1, e2, e3⟩ := h0
    obtain ⟨hb, _⟩ := hs.ent r (by rw [e2]; rfl) _ _ e1
    have hlt : j < (vs G).length := (List.getElem?_eq_some_iff.1 hj).1
    have e4 := congrArg (fun l => l[j]?) e3
    simp only [List.getElem?_map, List.getElem?_range hlt, Option.map_some, hj, Option.some.injEq] at e4
    rw [add_eq rfl]
    simp [World.cell?, hb, e4]

/-! ### index, len, slice -/
def RC.ixr (R : RC) (G : Gh) (i : Nat) : Option (TypeId × Value × Value) := match (R.ops[i]?).map (fun o : Oper => o.op) with
  | some (.indexAddr t x n) => some (t, R.evalAt G i x, R.evalAt G i n)
  | _ => none
def sliceOf (P : Program) (t : TypeId) : Option TypeId := match P.underlying t with
  | some (.slice e) => some e
  | _ => none
theorem slice_of {P : Program} {t e : TypeId} (h : sliceOf P t = some e) : P.underlying t = some (.slice e) := by
  unfold sliceOf at h
  split at h <;> simp_all
structure IndexOf (P : Program) (R : RC) (i : Nat) (t e : TypeId) (size : Nat) (v : Value) (k : IntKind) (n : Int) (G : Gh) : Prop where
  eq : (R.ixr G i, sliceOf P t, sizeT P e, R.val i (RC.put G i {}), (R.ups i).map (·.1), R.fact i (RC.put G i {})) =
    (some (t, v, .int k n), some e, some size, .pointer (some (elemAddr v (n.toNat * size))), [], True)
theorem One.index {t e : TypeId} {size : Nat} {v : Gh → Value} {k : IntKind} {n : Int} (h : ∀ G, IndexOf P R i t e size (v G) k n G)
    (hb : ∀ G w, R.Sees w0 X G i w → ∃ len : Nat, IsSl (v G) len ∧ 0 ≤ n ∧ n < len) : One R P w0 X i := fun o ho G w hs => by
  have h0 := (h G).eq
  simp only [Prod.mk.injEq] at h0
  obtain ⟨e1, e2, e3, e4, e5, e6⟩ := h0
  obtain ⟨len, hv, h1, h2⟩ := hb G w hs
  unfold RC.ixr at e1
  rw [ho] at e1
  obtain ⟨dst, op, type, pos, after, guard⟩ := o
  cases op <;> simp only [Option.map_some] at e1 <;> first | cases e1 | skip
  case indexAddr t' x ix =>
    simp only [Option.some.injEq, Prod.mk.injEq] at e1
    obtain ⟨rfl, hx, hn⟩ := e1
    have hu := slice_of e2
    obtain ⟨a, c, hv, ha, hc⟩ := hv
    rw [hv] at hx e4
    cases a with
    | none => have := ha rfl; omega
    | some a =>
      have hr : (execOp (R.evalAt G i) { dst, op := .indexAddr t' x ix, type, pos, after, guard }).run P w = .ok (.value (.pointer (some (elemAddr (.slice (some a) len c) (n.toNat * size))))) w := by
        simp [execOp, Instr.indexAt, hx, hn, asIntOf, underlying, hu, run_sizeOf e3, h1, h2, elemAddr]
      unfold Does
      rw [hr, ← e4]
      exact ⟨{}, RC.Left.pure (ups_nil e5) (e6 ▸ trivial)⟩
/-- the length of a slice -/
def RC.lnr (R : RC) (G : Gh) (i : Nat) : Option (TypeId × Value) := match (R.ops[i]?).map (fun o : Oper => o.op) with
  | some (.call { callee := .builtin .len, args, argTypes }) => match args.toList, argTypes.toList with
    | [x], [t] => some (t, R.evalAt G i x)
    | _, _ => none
  | _ => none
structure LenOf (P : Program) (R : RC) (i : Nat) (t : TypeId) (v : Value) (n : Int) (G : Gh) : Prop where
  eq : (R.lnr G i, (sliceOf P t).isSome, R.val i (RC.put G i {}), (R.ups i).map (·.1), R.fact i (RC.put G i {})) = (some (t, v), true, .int .i64 n, [], True)
theorem One.len {t : TypeId} {n : Int} {v : Gh → Value} (h : ∀ G, LenOf P R i t (v G) n G) (hv : ∀ G w, R.Sees w0 X G i w → ∃ len : Nat, IsSl (v G) len ∧ n = len) : One R P w0 X i := fun o ho G w hs => by
  have h0 := (h G).eq
  simp only [Prod.mk.injEq] at h0
  obtain ⟨e1, e2, e3, e4, e5⟩ := h0
  unfold RC.lnr at e1
  rw [ho] at e1
  obtain ⟨dst, op, type, pos, after, guard⟩ := o
  simp only [Option.map_some] at e1
  split at e1
  · rename_i args argTypes heq
    simp only [Option.some.injEq] at heq
    subst heq
    split at e1
    · rename_i x t' hx ht
      simp only [Option.some.injEq, Prod.mk.injEq] at e1
      obtain ⟨rfl, hv'⟩ := e1
      obtain ⟨len, ⟨a, c, hv2, _⟩, rfl⟩ := hv G w hs
      rw [hv2] at hv'
      obtain ⟨l, rfl⟩ : ∃ l : List Operand, args = l.toArray := ⟨args.toList, by simp⟩
      obtain ⟨l2, rfl⟩ : ∃ l : List TypeId, argTypes = l.toArray := ⟨argTypes.toList, by simp⟩
      simp only at hx ht
      subst hx ht
      obtain ⟨d, hu⟩ : ∃ d, P.underlying t' = some (.slice d) := by
        unfold sliceOf at e2
        split at e2
        · rename_i d hd; exact ⟨d, hd⟩
        · cases e2
      have hr : (execOp (R.evalAt G i) { dst, op := .call { callee := .builtin .len, args := #[x], argTypes := #[t'] }, type, pos, after, guard }).run P w = .ok (.value (.int .i64 len)) w := by
        simp [execOp, resolve, invoke, builtin, Builtin.len_, underlying, hu, hv', goInt]
      unfold Does
      rw [hr, ← e3]
      exact ⟨{}, RC.Left.pure (ups_nil e4) (e5 ▸ trivial)⟩
    · cases e1
  · cases e1
def RC.slr (R : RC) (G : Gh) (i : Nat) : Option (TypeId × Value × Option Value × Option Value × Bool) := match (R.ops[i]?).map (fun o : Oper => o.op) with
  | some (.slice t x lo hi mx) => some (t, R.evalAt G i x, lo.map (R.evalAt G i), hi.map (R.evalAt G i), mx.isNone)
  | _ => none
structure SliceOf (P : Program) (R : RC) (i : Nat) (t E : TypeId) (size : Nat) (v : Value) (lo hi : Option Int) (l h : Int) (G : Gh) : Prop where
  eq : (R.slr G i, sliceOf P t, sizeT P E, R.val i (RC.put G i {}), (R.ups i).map (·.1), R.fact i (RC.put G i {})) =
    (some (t, v, lo.map (.int .i64 ·), hi.map (.int .i64 ·), true), some E, some size, subV v size l.toNat h.toNat, [], True)
/-- 'x[lo:hi]'; without lo: l = 0; without hi: h is the length -/
theorem One.slice {t E : TypeId} {size : Nat} {v : Gh → Value} {lo hi : Option Int} {l h : Int}
    (hs' : ∀ G, SliceOf P R i t E size (v G) lo hi l h G) (hlo : lo = some l ∨ (lo = none ∧ l = 0)) (hb : ∀ G w, R.Sees w0 X G i w → ∃ n : Nat, IsSl (v G) n ∧ (hi = some h ∨ (hi = none ∧ h = n)) ∧ 0 ≤ l ∧ l ≤ h ∧ h ≤ n) : One R P w0 X i := fun o ho G w hs => by
  have h0 := (hs' G).eq
  simp only [Prod.mk.injEq] at h0
  obtain ⟨e1, e2, e3, e4, e5, e6⟩ := h0
  obtain ⟨n, ⟨a, c, hv, _, hc⟩, hhi, b1, b2, b3⟩ := hb G w hs
  rw [hv] at e1 e4
  have hu := slice_of e2
  unfold RC.slr at e1
  rw [ho] at e1
  obtain ⟨dst, op, type, pos, after, guard⟩ := o
  cases op <;> simp only [Option.map_some] at e1 <;> first | cases e1 | skip
  case slice t' x lo' hi' mx =>
    simp only [Option.some.injEq, Prod.mk.injEq] at e1
    obtain ⟨rfl, hx, hl, hh, hm⟩ := e1
    have hmx : mx = none := by simpa using hm
    subst hmx
    have hc' : (h : Int) ≤ (c : Int) := by omega
    have h0' : 0 ≤ h := by omega
    have hbd : (Instr.sliceBounds true n c (lo'.map (R.evalAt G i)) (hi'.map (R.evalAt G i)) none).run P w = .ok (l.toNat, h.toNat, c) w := by
      rw [hl, hh]
      have hlh : l ≤ (h.toNat : Int) := by omega
      rcases hlo with rfl | ⟨rfl, rfl⟩ <;> rcases hhi with rfl | ⟨rfl, rfl⟩ <;>
        simp [Instr.sliceBounds, Instr.sliceBound, asIntOf, h0', hc', b1, hlh] <;> omega
    have hr : (execOp (R.evalAt G i) { dst, op := .slice t' x lo' hi' none, type, pos, after, guard }).run P w = .ok (.value (subV (.slice a n c) size l.toNat h.toNat)) w := by
      simp [execOp, Instr.sliceAt, underlying, hu, hx, Instr.slice, hbd, run_sizeOf e3, subV]
    unfold Does
    rw [hr, ← e4]
    exact ⟨{}, RC.Left.pure (ups_nil e5) (e6 ▸ trivial)⟩

/-! ### blocks of the call's own -/
theorem push_get {w : World} {o : Obj} : ({ w with heap := w.heap.push o } : World).heap[w.heap.size]? = some o := by simp
theorem base_push {w : World} (o : Obj) (Y : List Nat) : Base Y w { w with heap := w.heap.push o } :=
  ⟨rfl, rfl, rfl, by simp, fun k hk _ => by
    show (w.heap.push o)[k]? = _
    rw [Array.getElem?_push, if_neg (by omega)]⟩
/-- the entries that an operation writes, as it leaves them -/
def RC.news (R : RC) (G : Gh) (i : Nat) : List (Nat × Ent) := (R.ups i).map fun p => (p.1, p.2 G)
/-- a new block: its address is the operation's own choice -/
theorem One.new {r : Nat} {T : TypeId} (mk : Nat → Value) {arr : Gh → Array Value}
    (h : ∀ G w, R.ex P G i w = some (.ok (.value (mk w.heap.size)) { w with heap := w.heap.push (.cells (arr G) T) }))
    (h2 : ∀ G b, (R.val i (RC.put G i { b := b }), R.news (RC.put G i { b := b }) i, R.fact i (RC.put G i { b := b })) = (mk b, [(r, some (b, .cells (arr G) T))], True)) : One R P w0 X i := fun o ho G w hs => by
  have h0 := h G w
  unfold RC.ex at h0
  rw [ho] at h0
  simp only [Option.map_some, Option.some.injEq] at h0
  have h3 := h2 G w.heap.size
  simp only [Prod.mk.injEq] at h3
  obtain ⟨e1, e2, e3⟩ := h3
  have one : ∀ p ∈ R.ups i, p.1 = r ∧ p.2 (RC.put G i { b := w.heap.size }) = some (w.heap.size, .cells (arr G) T) := fun p hp => by
    have : (p.1, p.2 (RC.put G i { b := w.heap.size })) ∈ R.news (RC.put G i { b := w.heap.size }) i := List.mem_map.2 ⟨p, hp, rfl⟩
    rw [e2] at this
    simpa using this
  unfold Does
  rw [h0]
  refine ⟨{ b := w.heap.size }, e1.symm, e3 ▸ trivial, base_push _ _, (fun b o h => by cases h), fun b h => absurd rfl h, fun p hp b o' he => ?_, fun p hp q hq b o1 o2 _ _ => ?_⟩
  · rw [(one p hp).2] at he
    cases he
    exact ⟨push_get, .inl (Nat.le_refl _), rfl⟩
  · rw [(one p hp).1, (one q hq).1]

/-- a store: of which type, where, what -/
def RC.str (R : RC) (G : Gh) (i : Nat) : Option (TypeId × Value × Value) := match (R.ops[i]?).map (fun o : Oper => o.op) with
  | some (.store t a x) => some (t, R.evalAt G i a, R.evalAt G i x)
  | _ => none
theorem cell1_cells {u : Value} (h : cell1 u = true) : u.cells.toList = [u] := by cases u <;> first | rfl | cases h
theorem all_cons1 {u : Value} {l : List Value} (h : cell1 u = true) (t : l.all cell1 = true) : (u :: l).all cell1 = true := by rw [List.all_cons, h, t]; rfl
structure StoreOf (P : Program) (R : RC) (i : Nat) (t r b off : Nat) (u : Value) (vs : List Value) (arr : Array Value) (T : TypeId) (G : Gh) : Prop where
  eq : (R.str G i, sizeT P t, decide (off + vs.length ≤ arr.size), R.entAt G i r, R.val i (RC.put G i {}), R.news (RC.put G i {}) i, R.fact i (RC.put G i {})) =
    (some (t, .pointer (some ⟨b, off, none⟩), u), some vs.length, true, some (b, .cells arr T), undef, [(r, some (b, .cells (writeA arr off vs) T))], True)
theorem One.storeX {t r off : Nat} {T : TypeId} {b : Gh → Nat} {u : Gh → Value} {vs : Gh → List Value} {arr : Gh → Array Value} (h : ∀ G, StoreOf P R i t r (b G) off (u G) (vs G) (arr G) T G)
    (h1 : ∀ G w, R.Sees w0 X G i w → (u G).cells.toList = vs G ∧ (vs G).all cell1 = true) : One R P w0 X i := fun o ho G w hs => by
  have h0 := (h G).eq
  simp only [Prod.mk.injEq] at h0
  obtain ⟨e1, e2, e3, e5, e6, e7, e8⟩ := h0
  obtain ⟨e0, e4⟩ := h1 G w hs
  have one : ∀ p ∈ R.ups i, p.1 = r ∧ p.2 (RC.put G i {}) = some (b G, .cells (writeA (arr G) off (vs G)) T) := fun p hp => by
    have : (p.1, p.2 (RC.put G i {})) ∈ R.news (RC.put G i {}) i := List.mem_map.2 ⟨p, hp, rfl⟩
    rw [e7] at this
    simpa using this
  have hw : R.wrE r i = true := by
    unfold RC.news at e7
    cases hu : R.ups i with
    | nil => rw [hu] at e7; cases e7
    | cons p l =>
      rw [hu] at e7
      simp only [List.map_cons, List.cons.injEq, Prod.mk.injEq] at e7
      unfold RC.wrE
      rw [hu]
      simp [e7.1.1]
  obtain ⟨hb, _⟩ := hs.ent r (by rw [hw]; simp) _ _ e5
  have hlt := RC.heap_lt hb
  unfold RC.str at e1
  rw [ho] at e1
  obtain ⟨dst, op, type, pos, after, guard⟩ := o
  cases op <;> simp only [Option.map_some] at e1 <;> first | cases e1 | skip
  case store t' a x =>
    simp only [Option.some.injEq, Prod.mk.injEq] at e1
    obtain ⟨rfl, ha, hx⟩ := e1
    have hx' : (R.evalAt G i x).cells.toList = vs G := by rw [hx]; exact e0
    have hsz : (R.evalAt G i x).cells.size = (vs G).length := by rw [← Array.length_toList, hx']
    have hst := storeCells_run (P := P) (vs G) 0 off (arr G) w hb (by have := of_decide_eq_true e3; omega) (fun v hv => List.all_eq_true.1 e4 v hv)
    have hr : (execOp (R.evalAt G i) { dst, op := .store t' a x, type, pos, after, guard }).run P w = .ok .skip (setBlk w (b G) (.cells (writeA (arr G) off (vs G)) T)) := by
      simp [execOp, Instr.storeAt, ha, Instr.sureAddr, storeVar, run_sizeOf e2, hsz, hx', hst]
    unfold Does
    rw [hr]
    refine ⟨{}, e6.symm, e8 ▸ trivial, ⟨rfl, rfl, rfl, by simp [setBlk], fun k hk hn => ?_⟩, (fun b o h => by cases h), fun b h => absurd rfl h, fun p hp b' o' he => ?_, fun p hp q hq b o1 o2 _ _ => ?_⟩
    · have : b G ≠ k := fun e => hn (by
        subst e
        refine List.mem_filterMap.2 ?_
        obtain ⟨p, hp, hpr⟩ := List.any_eq_true.1 hw
        exact ⟨p, hp, by rw [show p.1 = r by simpa using hpr, e5]; rfl⟩)
      simp [setBlk, Array.getElem?_setIfInBounds_ne this]
    · rw [(one p hp).2] at he
      cases he
      exact ⟨by simp [setBlk, hlt], .inr ⟨p, hp, _, by rw [(one p hp).1]; exact e5⟩, rfl⟩
    · rw [(one p hp).1, (one q hq).1]
theorem One.store {t r off : Nat} {T : TypeId} {b : Gh → Nat} {u : Gh → Value} {vs : Gh → List Value} {arr : Gh → Array Value} (h : ∀ G, StoreOf P R i t r (b G) off (u G) (vs G) (arr G) T G) (h1 : ∀ G, ((u G).cells.toList, (vs G).all cell1) = (vs G, true)) : One R P w0 X i :=
  One.storeX h fun G _ _ => ⟨congrArg Prod.fst (h1 G), congrArg Prod.snd (h1 G)⟩

/-! ### owned slices -/
theorem news_one {G : Gh} {r : Nat} {e : Ent} (h : R.news G i = [(r, e)]) : (∀ p ∈ R.ups i, p.1 = r ∧ p.2 G = e) ∧ R.wrE r i = true := by
  refine ⟨fun p hp => ?_, ?_⟩
  · have : (p.1, p.2 G) ∈ R.news G i := List.mem_map.2 ⟨p, hp, rfl⟩
    rw [h] at this
    simpa using this
  · unfold RC.news at h
    cases hu : R.ups i with
    | nil => rw [hu] at h; cases h
    | cons p l =>
      rw [hu] at h
      simp only [List.map_cons, List.cons.injEq, Prod.mk.injEq] at h
      unfold RC.wrE
      rw [hu]
      simp [h.1.1]
/-- from one entry to another -/
theorem left_one {G : Gh} {w w' : World} {g : Rec} {r : Nat} {e : Ent} (hn : R.news (RC.put G i g) i = [(r, g.e)]) (ha : R.entAt G i r = e) (hH : g.H = fun _ => none) (hf : R.fact i (RC.put G i g)) (hg : Grows e g.e w w') : R.Left w w' G i g (R.val i (RC.put G i g)) := by
  obtain ⟨one, hw⟩ := news_one hn
  refine ⟨rfl, hf, ?_, (fun b o h => by rw [hH] at h; cases h), (fun b h => by rw [hH] at h; exact absurd rfl h), fun p hp b o hb => ?_, fun p hp q hq b o1 o2 _ _ => by rw [(one p hp).1, (one q hq).1]⟩
  · refine ⟨hg.base.os, hg.base.tape, hg.base.output, hg.base.size, fun k hk hnk => hg.base.keep k hk fun hm => hnk ?_⟩
    obtain ⟨p, hp, hpr⟩ := List.any_eq_true.1 hw
    refine List.mem_filterMap.2 ⟨p, hp, ?_⟩
    rw [show p.1 = r by simpa using hpr, ha]
    simpa using hm
  · rw [(one p hp).2] at hb
    refine ⟨hg.in' b o hb, ?_, by rw [hH]⟩
    rcases hg.from' b o hb with h1 | ⟨o', h1⟩
    · exact .inl h1
    · exact .inr ⟨p, hp, o', by rw [(one p hp).1, ha]; exact h1⟩
def RC.apr (R : RC) (G : Gh) (i : Nat) : Option (TypeId × TypeId × Value × Value) := match (R.ops[i]?).map (fun o : Oper => o.op) with
  | some (.call { callee := .builtin .append, args, argTypes }) => match args.toList, argTypes.toList with
    | [x, y], [t, u] => some (t, u, R.evalAt G i x, R.evalAt G i y)
    | _, _ => none
  | _ => none
def infoOf (P : Program) (E : TypeId) : Option (Nat × Nat × Option Nat) := (P.info? E).map fun i => (i.size, i.bytes, i.zero.map fun z => z.cells.size)
structure AppendOf (P : Program) (R : RC) (i : Nat) (t E : TypeId) (size bytes r : Nat) (v : Value) (e : Ent) (x : Value) (F : Value → Ent → Prop) (G : Gh) (g : Rec) : Prop where
  eq : (R.apr G i, sliceOf P t, infoOf P E, R.entAt G i r, R.val i (RC.put G i g), R.news (RC.put G i g) i, decide (0 < size), decide (0 < bytes)) =
    (some (t, t, v, x), some E, some (size, bytes, some size), e, g.v, [(r, g.e)], true, true)
  fact : R.fact i (RC.put G i g) = F g.v g.e
theorem One.append {t E : TypeId} {size bytes r : Nat} {rows news : Gh → List (List Value)} {v x : Gh → Value} {e : Gh → Ent} {H : Gh → Heaplet} {F : Gh → Value → Ent → Prop}
    (h : ∀ G g, AppendOf P R i t E size bytes r (v G) (e G) (x G) (F G) G g)
    (hp : ∀ G w, R.Sees w0 X G i w → (OwnS E size (rows G) (v G) (e G) ∧ Agrees w (H G) ∧ HSlice (H G) size (news G) (x G) ∧ ((rows G).length + (news G).length) * bytes ≤ 140737488355328) ∧ ∀ v e, OwnS E size (rows G ++ news G) v e → F G v e) : One R P w0 X i := fun o ho G w hs => by
  have h0 := (h G {}).eq
  simp only [Prod.mk.injEq] at h0
  obtain ⟨e1, e2, e3, e4, _, e6, e7, e8⟩ := h0
  have hsz := of_decide_eq_true e7
  have hby := of_decide_eq_true e8
  obtain ⟨⟨own, hA, hx, hbytes⟩, hF⟩ := hp G w hs
  have h63 : (rows G).length + (news G).length ≤ maxLen := by
    have : (rows G).length + (news G).length ≤ ((rows G).length + (news G).length) * bytes := Nat.le_mul_of_pos_right _ hby
    simp only [maxLen]; omega
  have hw := (news_one e6).2
  have he : EntIn w (e G) := hs.own (r := r) (by rw [e4, hw]; simp)
  have hu := slice_of e2
  unfold infoOf at e3
  cases hi : P.info? E with
  | none => simp [hi] at e3
  | some inf =>
    simp only [hi, Option.map_some, Option.some.injEq, Prod.mk.injEq] at e3
    obtain ⟨i1, i2, i3⟩ := e3
    cases hz : inf.zero with
    | none => simp [hz] at i3
    | some z =>
      simp only [hz, Option.map_some, Option.some.injEq] at i3
      obtain ⟨v', e', w', hr, ho', hg⟩ := append_run (w := w) (ty := o.type) hu hi hz i1 i2 i3 hsz own he hx hA hbytes h63
      unfold RC.apr at e1
      rw [ho] at e1
      obtain ⟨dst, op, type, pos, after, guard⟩ := o
      simp only [Option.map_some] at e1
      split at e1
      · rename_i args argTypes heq
        simp only [Option.some.injEq] at heq
        subst heq
        split at e1
        · rename_i x y t' u' hx ht
          simp only [Option.some.injEq, Prod.mk.injEq] at e1
          obtain ⟨rfl, rfl, hv, hxv⟩ := e1
          obtain ⟨l, rfl⟩ : ∃ l : List Operand, args = l.toArray := ⟨args.toList, by simp⟩
          obtain ⟨l2, rfl⟩ : ∃ l : List TypeId, argTypes = l.toArray := ⟨argTypes.toList, by simp⟩
          simp only at hx ht
          subst hx ht
          have hrun : (execOp (R.evalAt G i) { dst, op := .call { callee := .builtin .append, args := #[x, y], argTypes := #[u', u'] }, type, pos, after, guard }).run P w = .ok (.value v') w' := by
            simp only at hr
            simp [execOp, resolve, invoke, builtin, hv, hxv, hr]
          unfold Does
          rw [hrun]
          have hq := h G { v := v', e := e' }
          have h5 := hq.eq
          simp only [Prod.mk.injEq] at h5
          refine ⟨{ v := v', e := e' }, ?_⟩
          have := left_one (g := { v := v', e := e' }) h5.2.2.2.2.2.1 e4 rfl (by rw [hq.fact]; exact hF _ _ ho') hg
          rw [h5.2.2.2.2.1] at this
          exact this
        · cases e1
      · cases e1
def RC.mkr (R : RC) (G : Gh) (i : Nat) : Option (TypeId × Value × Value) := match (R.ops[i]?).map (fun o : Oper => o.op) with
  | some (.makeSlice t l c) => some (t, R.evalAt G i l, R.evalAt G i c)
  | _ => none
def zeroOf (P : Program) (E : TypeId) : Option (Nat × Nat × Option (List Value)) := (P.info? E).map fun i => (i.size, i.bytes, i.zero.map fun z => z.cells.toList)
structure MakeOf (P : Program) (R : RC) (i : Nat) (t E : TypeId) (size bytes r : Nat) (n : Int) (row : List Value) (F : Value → Ent → Prop) (G : Gh) (g : Rec) : Prop where
  eq : (R.mkr G i, sliceOf P t, zeroOf P E, R.entAt G i r, R.val i (RC.put G i g), R.news (RC.put G i g) i, row.length, row.all cell1) =
    (some (t, .int .i64 n, .int .i64 n), some E, some (size, bytes, some row), none, g.v, [(r, g.e)], size, true)
  fact : R.fact i (RC.put G i g) = F g.v g.e
theorem One.make {t E : TypeId} {size bytes r : Nat} {n : Int} {row : List Value} {F : Gh → Value → Ent → Prop} (h : ∀ G g, MakeOf P R i t E size bytes r n row (F G) G g)
    (hp : ∀ G w, R.Sees w0 X G i w → (0 ≤ n ∧ n ≤ 9223372036854775807 ∧ bytes * n ≤ 281474976710656) ∧ ∀ v e, OwnS E size (List.replicate n.toNat row) v e → F G v e) : One R P w0 X i := fun o ho G w hs => by
  have h0 := (h G {}).eq
  simp only [Prod.mk.injEq] at h0
  obtain ⟨e1, e2, e3, e4, _, e6, e7, e8⟩ := h0
  obtain ⟨⟨hn0, hn63, hbytes⟩, hF⟩ := hp G w hs
  have hu := slice_of e2
  subst e7
  unfold zeroOf at e3
  cases hi : P.info? E with
  | none => simp [hi] at e3
  | some inf =>
    simp only [hi, Option.map_some, Option.some.injEq, Prod.mk.injEq] at e3
    obtain ⟨i1, i2, i3⟩ := e3
    cases hz : inf.zero with
    | none => simp [hz] at i3
    | some z =>
      simp only [hz, Option.map_some, Option.some.injEq] at i3
      obtain ⟨m, rfl⟩ : ∃ m : Nat, n = m := ⟨n.toNat, by omega⟩
      have h63 : m ≤ maxLen := by simp only [maxLen]; omega
      have hmk := run_make (P := P) w t E inf z hu hi hz .i64 .i64 m m (by omega) (Int.le_refl _) (by
        rw [i2]; exact hbytes) hn63
      unfold RC.mkr at e1
      rw [ho] at e1
      obtain ⟨dst, op, type, pos, after, guard⟩ := o
      cases op <;> simp only [Option.map_some] at e1 <;> first | cases e1 | skip
      case makeSlice t' l c =>
        simp only [Option.some.injEq, Prod.mk.injEq] at e1
        obtain ⟨rfl, hl, hc⟩ := e1
        have hcells : z.cells = row.toArray := by rw [← i3]
        rw [i1, hcells] at hmk
        simp only [Int.toNat_natCast] at hmk
        have hrun : (execOp (R.evalAt G i) { dst, op := .makeSlice t' l c, type, pos, after, guard }).run P w = .ok (.value (.slice (some ⟨w.heap.size, 0, none⟩) m m)) (w.alloc (.cells (madeCells row.toArray (m * row.length)) E)) := by
          simp [execOp, hl, hc, hmk]
        unfold Does
        rw [hrun]
        have hq := h G { v := .slice (some ⟨w.heap.size, 0, none⟩) m m, e := some (w.heap.size, .cells (madeCells row.toArray (m * row.length)) E) }
        have h5 := hq.eq
        simp only [Prod.mk.injEq] at h5
        refine ⟨{ v := .slice (some ⟨w.heap.size, 0, none⟩) m m, e := some (w.heap.size, .cells (madeCells row.toArray (m * row.length)) E) }, ?_⟩
        have := left_one (w := w) (w' := w.alloc (.cells (madeCells row.toArray (m * row.length)) E)) (g := { v := .slice (some ⟨w.heap.size, 0, none⟩) m m, e := some (w.heap.size, .cells (madeCells row.toArray (m * row.length)) E) }) h5.2.2.2.2.2.1 e4 rfl
          (by rw [hq.fact]; exact hF _ _ (made_own (fun u hu => List.all_eq_true.1 e8 u hu) h63))
          ⟨fun b o hb => by cases hb; exact push_get, fun b o hb => by cases hb; exact .inl (Nat.le_refl _), base_push _ _⟩
        rw [h5.2.2.2.2.1] at this
        exact this
structure StoreOwnOf (P : Program) (R : RC) (i : Nat) (t r : Nat) (p : Addr) (size off : Nat) (u : Value) (vs : List Value) (e : Ent) (F : Ent → Prop) (G : Gh) (g : Rec) : Prop where
  eq : (R.str G i, sizeT P t, decide (off + vs.length ≤ size), R.entAt G i r, R.val i (RC.put G i g), R.news (RC.put G i g) i) =
    (some (t, .pointer (some p), u), some vs.length, true, e, undef, [(r, g.e)])
  fact : R.fact i (RC.put G i g) = F g.e
theorem One.storeOwn {t r E size off : Nat} {k : Int} {rows : Gh → List (List Value)} {row vs : Gh → List Value} {v : Gh → Value} {e : Gh → Ent} {p : Gh → Addr} {u : Gh → Value} {F : Gh → Ent → Prop}
    (h : ∀ G g, StoreOwnOf P R i t r (p G) size off (u G) (vs G) (e G) (F G) G g)
    (hk : ∀ G w, R.Sees w0 X G i w → (OwnS E size (rows G) (v G) (e G) ∧ p G = (elemAddr (v G) (k.toNat * size)).add off ∧ (rows G)[k.toNat]? = some (row G) ∧ (u G).cells.toList = vs G ∧ (vs G).all cell1 = true) ∧ ∀ e, OwnS E size ((rows G).set k.toNat (writeL (row G) off (vs G))) (v G) e → F G e) : One R P w0 X i := fun o ho G w hs => by
  have h0 := (h G {}).eq
  simp only [Prod.mk.injEq] at h0
  obtain ⟨e1, e2, e3, e5, _, e7⟩ := h0
  obtain ⟨⟨own, hp, hk, e0, e4⟩, hF⟩ := hk G w hs
  rw [hp] at e1
  have hw := (news_one e7).2
  have he : EntIn w (e G) := hs.own (r := r) (by rw [e5, hw]; simp)
  obtain ⟨e', w', hst, ho', hg⟩ := own_store (P := P) (w := w) own he hk (of_decide_eq_true e3) (fun u hu => List.all_eq_true.1 e4 u hu)
  unfold RC.str at e1
  rw [ho] at e1
  obtain ⟨dst, op, type, pos, after, guard⟩ := o
  cases op <;> simp only [Option.map_some] at e1 <;> first | cases e1 | skip
  case store t' a x =>
    simp only [Option.some.injEq, Prod.mk.injEq] at e1
    obtain ⟨rfl, ha, hx⟩ := e1
    have hx' : (R.evalAt G i x).cells.toList = vs G := by rw [hx]; exact e0
    have hsz : (R.evalAt G i x).cells.size = (vs G).length := by rw [← Array.length_toList, hx']
    have hr : (execOp (R.evalAt G i) { dst, op := .store t' a x, type, pos, after, guard }).run P w = .ok .skip w' := by
      simp [execOp, Instr.storeAt, ha, Instr.sureAddr, storeVar, run_sizeOf e2, hsz, hx', hst]
    unfold Does
    rw [hr]
    have hq := h G { e := e' }
    have h5 := hq.eq
    simp only [Prod.mk.injEq] at h5
    refine ⟨{ e := e' }, ?_⟩
    have := left_one (g := { e := e' }) h5.2.2.2.2.2 e5 rfl (by rw [hq.fact]; exact hF _ ho') hg
    rw [h5.2.2.2.2.1] at this
    exact this
end

/-! ### strings, equality of structs -/
theorem beq_bytes (a b : ByteArray) : (a == b) = decide (a = b) := by
  obtain ⟨⟨x⟩⟩ := a
  obtain ⟨⟨y⟩⟩ := b
  show ((⟨x⟩ : Array UInt8) == ⟨y⟩) = _
  rw [Bool.eq_iff_iff]; simp
theorem toList_bytes (a b : ByteArray) : (a.toList == b.toList) = decide (a = b) := by rw [← beq_toListBytes, beq_bytes]
section
variable {P : Program} {R : RC} {w0 : World} {X : List Nat} {i : Nat}
def RC.bir (R : RC) (G : Gh) (i : Nat) : Option (Bool × TypeId × Value × Value) := match (R.ops[i]?).map (fun o : Oper => o.op) with
  | some (.binOp .eql t x y _) => some (false, t, R.evalAt G i x, R.evalAt G i y)
  | some (.binOp .neq t x y _) => some (true, t, R.evalAt G i x, R.evalAt G i y)
  | _ => none
structure EqOf (P : Program) (R : RC) (i : Nat) (neq : Bool) (t : TypeId) (xs ys : Array Value) (p : Bool) (G : Gh) : Prop where
  eq : (R.bir G i, P.eqGuardType P.depth t, R.val i (RC.put G i {}), (R.ups i).map (·.1), R.fact i (RC.put G i {})) =
    (some (neq, t, .agg xs, .agg ys), false, .bool p, [], True)
/-- '==' of structs -/
theorem One.aggEq {neq : Bool} {t : TypeId} {xs ys : Array Value} {b p : Bool} (h : ∀ G, EqOf P R i neq t xs ys p G) (hp : p = (neq ^^ b)) (he : ∀ w, (Op.equal t (.agg xs) (.agg ys)).run P w = .ok b w) : One R P w0 X i := fun o ho G w hs => by
  have h0 := (h G).eq
  simp only [Prod.mk.injEq] at h0
  obtain ⟨e1, e2, e3, e4, e5⟩ := h0
  unfold RC.bir at e1
  rw [ho] at e1
  obtain ⟨dst, op, type, pos, after, guard⟩ := o
  have he' : ∀ w, (Op.equalIn 10000 t (.agg xs) (.agg ys)).run P w = .ok b w := he
  have fin : (execOp (R.evalAt G i) { dst, op, type, pos, after, guard }).run P w = .ok (.value (.bool p)) w → Does P (R.evalAt G i) { dst, op, type, pos, after, guard } w fun v w' => ∃ g, R.Left w w' G i g v := fun hr => by
    unfold Does
    rw [hr, ← e3]
    exact ⟨{}, RC.Left.pure (ups_nil e4) (e5 ▸ trivial)⟩
  simp only [Option.map_some] at e1
  split at e1
  · rename_i t' x y ty heq
    simp only [Option.some.injEq] at heq
    subst heq
    simp only [Option.some.injEq, Prod.mk.injEq] at e1
    obtain ⟨rfl, rfl, hx, hy⟩ := e1
    refine fin ?_
    simp [execOp, hx, hy, run_eqGuard_agg w .eql t' x y xs ys e2, run_eql_struct, he', hp]
  · rename_i t' x y ty heq
    simp only [Option.some.injEq] at heq
    subst heq
    simp only [Option.some.injEq, Prod.mk.injEq] at e1
    obtain ⟨rfl, rfl, hx, hy⟩ := e1
    refine fin ?_
    simp [execOp, hx, hy, run_eqGuard_agg w .neq t' x y xs ys e2, run_neq_struct, he', hp]
  · cases e1
end
end Kb
