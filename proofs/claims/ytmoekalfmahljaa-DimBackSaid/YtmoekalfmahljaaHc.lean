/- Words for loads, stores, new blocks, slices. No program in sight. -/
import Derived.Test.YtmoekalfmahljaaHb
set_option linter.unusedVariables false
set_option linter.unusedSectionVars false
set_option linter.unusedSimpArgs false
namespace Kb
open Go
def entB : Ent → Nat
  | some (b, _) => b
  | _ => 0
def entA : Ent → Array Value
  | some (_, .cells a _ _) => a
  | _ => #[]
def entT : Ent → TypeId
  | some (_, .cells _ T _) => T
  | _ => 0
def RC.ldt (R : RC) (i : Nat) : TypeId := match (R.ops[i]?).map (fun o : Oper => o.op) with
  | some (.load t _) => t
  | _ => 0
/-- a load, whence the cells are known -/
theorem load_does {P : Program} {c : Cx P} {i : Nat} {h : HintD} {G : Gh} {w : World} (hi : c.hs[i]? = some h) (hn : h.news = []) (hp : c.R.fact i (RC.put G i {})) {o : Oper} (ho : c.R.ops[i]? = some o) {t : TypeId} {p : Addr} {vs : List Value} {x : Value}
    (e1 : c.R.ldr G i = some (t, .pointer (some p))) (e2 : (P.underlying t).isSome = true) (e3 : sizeT P t = some vs.length) (e4 : (aggB P t || vs.length == 1) = true) (e5 : x = wrapT P t vs) (e6 : c.R.val i (RC.put G i {}) = x)
    (hc : ∀ (j : Nat) (v : Value), vs[j]? = some v → w.cell? (p.add j) = some v) : Does P (c.R.evalAt G i) o w fun v w' => ∃ g, c.R.Left w w' G i g v := by
  unfold RC.ldr at e1
  rw [ho] at e1
  obtain ⟨dst, op, type, pos, after, guard⟩ := o
  cases op <;> simp only [Option.map_some] at e1 <;> first | cases e1 | skip
  case load t' x' =>
    simp only [Option.some.injEq, Prod.mk.injEq] at e1
    obtain ⟨rfl, hx⟩ := e1
    have hl := loadVar_run (w := w) (a := p) e2 e3 (fun hb => by rw [hb] at e4; simpa using e4) hc
    unfold Does
    have hr : (execOp (c.R.evalAt G i) { dst, op := .load t' x', type, pos, after, guard }).run P w = .ok (.value (wrapT P t' vs)) w := by
      simp [execOp, Instr.loadAt, hx, Instr.sureAddr, hl]
    rw [hr]
    show ∃ g, c.R.Left w w G i g (wrapT P t' vs)
    rw [← e5, ← e6]
    exact ⟨{}, RC.Left.pure (by rw [Cx.upsOf hi, hn]; rfl) hp⟩
theorem conj_nil {P : Program} {c : Cx P} {i : Nat} {h : HintD} (hi : c.hs[i]? = some h) (hn : h.news = []) (hp : ∀ G, h.facts G = [] ∧ h.pu G = []) (G : Gh) : c.R.fact i G := by
  have := Cx.plain hi hn hp G
  simp only [Prod.mk.injEq] at this
  rw [this.2]; trivial
/-- facts that hold ahead of an operation, behind it -/
theorem fact_of {P : Program} {c : Cx P} {i : Nat} {h : HintD} {G : Gh} {w : World} (ok : c.Ok) (hil : i < c.ops.size) (hi : c.hs[i]? = some h) (hs : c.R.Sees c.w0 c.X G i w) {g : Rec} (hg : ∀ b, g.H b ≠ none → w.heap.size ≤ b)
    (hf : ∀ f ∈ h.facts (c.R.vis i (RC.put G i g)), f.at (JV (c.R.vis i (RC.put G i g)) c.N c.ops.size) (JV (c.R.vis i (RC.put G i g)) (hun c.N c.H) c.ops.size))
    (hn : ∀ q ∈ h.news, (q.2.1 (c.R.vis i (RC.put G i g))).at (q.2.2 (c.R.vis i (RC.put G i g))) (JV (c.R.vis i (RC.put G i g)) c.N c.ops.size) (JV (c.R.vis i (RC.put G i g)) (hun c.N c.H) c.ops.size))
    (hp : conjL (h.pu (c.R.vis i (RC.put G i g)))) : c.R.fact i (RC.put G i g) := by
  rw [Cx.factOf hi]
  refine conjL_of fun p hm => ?_
  simp only [List.mem_append, List.mem_map, List.mem_flatMap] at hm
  rcases hm with (⟨f, hm, rfl⟩ | ⟨q, hq, hm⟩) | hm
  · exact hf f hm
  · exact conjL_mem (LE.ats_at.2 (hn q hq)) p hm
  · exact conjL_mem hp p hm
/-- what lies ahead lies behind too -/
theorem ahead {P : Program} {c : Cx P} {i : Nat} {G : Gh} {w : World} (ok : c.Ok) (hil : i < c.ops.size) (hs : c.R.Sees c.w0 c.X G i w) {g : Rec} (hg : ∀ b, g.H b ≠ none → w.heap.size ≤ b) :
    Sub (c.J i G true) (JV (c.R.vis i (RC.put G i g)) c.N c.ops.size) ∧ Sub (c.J i G false) (JV (c.R.vis i (RC.put G i g)) (hun c.N c.H) c.ops.size) ∧ Sub g.H (JV (c.R.vis i (RC.put G i g)) c.N c.ops.size) ∧ Sub g.H (JV (c.R.vis i (RC.put G i g)) (hun c.N c.H) c.ops.size) :=
  ⟨(Cx.post_le hs ok true hg hil).1, (Cx.post_le hs ok false hg hil).1, (Cx.post_le hs ok true hg hil).2, (Cx.post_le hs ok false hg hil).2⟩
theorem no_H {w : World} : ∀ b, ({} : Rec).H b ≠ none → w.heap.size ≤ b := fun b h => absurd rfl h
def aggV (a : Bool) (vs : List Value) : Value := bif a then .agg vs.toArray else vs.headD undef
namespace Hint
variable {P : Program}
/-- n cells of the block of entry r, from off on; a: a type of several cells -/
def ld (r off : Nat) (a : Bool) (vs : Gh → List Value) : Hint P where
  d := { val := fun G => aggV a (vs G), rds := [r] }
  τ := Option (TypeId × Value) × Bool × Option Nat × Bool × Value × Value × Ent × List (Option Value)
  lhs c i G _ _ := (c.R.ldr G i, (P.underlying (c.R.ldt i)).isSome, sizeT P (c.R.ldt i), aggB P (c.R.ldt i) || (vs G).length == 1, aggV a (vs G), c.R.val i (RC.put G i {}), c.R.entAt G i r, (List.range (vs G).length).map fun j => (entA (c.R.entAt G i r))[off + j]?)
  rhs c i G _ _ := (some (c.R.ldt i, .pointer (some ⟨entB (c.R.entAt G i r), off, none⟩)), true, some (vs G).length, true, wrapT P (c.R.ldt i) (vs G), aggV a (vs G), some (entB (c.R.entAt G i r), .cells (entA (c.R.entAt G i r)) (entT (c.R.entAt G i r))), (vs G).map some)
  sound c i _ _ hi h := fun o ho G w hs => by
    have h0 := h G {} w
    simp only [Prod.mk.injEq] at h0
    obtain ⟨e1, e2, e3, e4, e5, e6, e7, e8⟩ := h0
    refine load_does hi rfl (conj_nil hi rfl (fun _ => ⟨rfl, rfl⟩) _) ho e1 e2 e3 e4 e5 e6 fun j v hj => ?_
    have hr : (c.R.c i).rds.contains r = true := by rw [Cx.c_of hi]; simp [HintD.cert]
    obtain ⟨hb, _⟩ := hs.ent r (by rw [hr]; rfl) _ _ e7
    have hlt : j < (vs G).length := (List.getElem?_eq_some_iff.1 hj).1
    have e9 := congrArg (fun l => l[j]?) e8
    simp only [List.getElem?_map, List.getElem?_range hlt, Option.map_some, hj, Option.some.injEq] at e9
    rw [add_eq rfl]
    simp [World.cell?, hb, e9]
end Hint
def offA (a : Addr) : Option Nat → Addr
  | none => a
  | some n => a.add n
theorem offA_eq (a : Addr) (o : Option Nat) : offA a o = a.add (o.getD 0) := by
  cases o with
  | none => exact (add_zero' a).symm
  | some n => rfl
/-- an operation that only computes, whatever it is -/
theorem still_does {P : Program} {c : Cx P} {i : Nat} {h : HintD} {G : Gh} {w : World} (hi : c.hs[i]? = some h) (hn : h.news = []) (hp : ∀ g, c.R.fact i (RC.put G i g)) {o : Oper} {x : Value} (hr : (execOp (c.R.evalAt G i) o).run P w = .ok (.value x) w) (hv : c.R.val i (RC.put G i {}) = x) :
    Does P (c.R.evalAt G i) o w fun v w' => ∃ g, c.R.Left w w' G i g v := by
  unfold Does
  rw [hr, ← hv]
  exact ⟨{}, RC.Left.pure (by rw [Cx.upsOf hi, hn]; rfl) (hp {})⟩
theorem index_run {P : Program} {R : RC} {G : Gh} {i : Nat} {w : World} {o : Oper} (ho : R.ops[i]? = some o) {t E : TypeId} {size : Nat} {v : Value} {k : IntKind} {n : Int} (e1 : R.ixr G i = some (t, v, .int k n)) (e2 : sliceOf P t = some E) (e3 : sizeT P E = some size)
    {len : Nat} (hv : IsSl v len) (h1 : 0 ≤ n) (h2 : n < len) : (execOp (R.evalAt G i) o).run P w = .ok (.value (.pointer (some (elemAddr v (n.toNat * size))))) w := by
  unfold RC.ixr at e1
  rw [ho] at e1
  obtain ⟨dst, op, type, pos, after, guard⟩ := o
  cases op <;> simp only [Option.map_some] at e1 <;> first | cases e1 | skip
  case indexAddr t' x ix =>
    simp only [Option.some.injEq, Prod.mk.injEq] at e1
    obtain ⟨rfl, hx, hn⟩ := e1
    have hu := slice_of e2
    obtain ⟨a, c, rfl, ha, hc⟩ := hv
    cases a with
    | none => have := ha rfl; omega
    | some a => simp [execOp, Instr.indexAt, hx, hn, asIntOf, underlying, hu, run_sizeOf e3, h1, h2, elemAddr]
def RC.ixt (R : RC) (i : Nat) : TypeId := match (R.ops[i]?).map (fun o : Oper => o.op) with
  | some (.indexAddr t _ _) => t
  | _ => 0
namespace Hint
variable {P : Program}
/-- the address of an element -/
def ix {α : Type} [Dat α] {l : List α} {s : Gh → SV} {g : Prop} (Γ : GdI g) (κ : Kw α l s) (k : Int) (h : g → 0 ≤ k ∧ k < l.length) : Hint P where
  d := { val := fun G => .pointer (some (elemAddr (κ.v G) (k.toNat * Dat.size α))), rds := κ.rdr }
  τ := Option (TypeId × Value × Value) × Option Nat × Value × Option Bool × (Option (Bool × (Ent → Heaplet → Prop)) × Bool)
  lhs c i G _ _ := (c.R.ixr G i, (sliceOf P (c.R.ixt i)).bind (sizeT P), c.R.val i (RC.put G i {}), Γ.B.map fun _ => c.R.gd G i, κ.lhs c i G)
  rhs c i G _ _ := (some (c.R.ixt i, κ.v G, .int .i64 k), some (Dat.size α), .pointer (some (elemAddr (κ.v G) (k.toNat * Dat.size α))), Γ.B, κ.rhs G)
  sound c i ok hil hi h0 := fun o ho G w hs => by
    have h1 := h0 G {} w
    simp only [Prod.mk.injEq] at h1
    obtain ⟨e1, e2, e3, e4, e5⟩ := h1
    have hr := κ.read ok hil hs e5
    obtain ⟨b0, b1⟩ := h (Cx.gdOk Γ hs e4)
    simp only [Option.bind_eq_some_iff] at e2
    obtain ⟨E, e2, e6⟩ := e2
    exact still_does hi rfl (fun g => conj_nil hi rfl (fun _ => ⟨rfl, rfl⟩) _) (index_run ho e1 e2 e6 hr.isSl b0 (by omega)) e3
/-- an element, or cells of it; what lies in it can be read from then on -/
def le {α : Type} [Dat α] {l : List α} {s : Gh → SV} {g : Prop} (Γ : GdI g) (κ : Kw α l s) (k : Int) (off : Option Nat) (nest : Bool) (x : α) (hx : x = l.getD k.toNat default) (h : g → 0 ≤ k ∧ k < l.length) (a : Bool) (vs : Gh → List Value) : Hint P where
  d := { val := fun G => aggV a (vs G), rds := κ.rdr, facts := fun _ => bif nest then [⟨κ.t, fun H => Dat.good H x, fun _ _ k h => Dat.mono _ _ _ k h, Dat.q x, fun H h => Dat.hq H x h⟩] else [] }
  τ := Option (TypeId × Value) × Bool × Option Nat × Bool × Value × Value × List Value × Option Bool × (Option (Bool × (Ent → Heaplet → Prop)) × Bool)
  lhs c i G _ _ := (c.R.ldr G i, (P.underlying (c.R.ldt i)).isSome, sizeT P (c.R.ldt i), aggB P (c.R.ldt i) || (vs G).length == 1, aggV a (vs G), c.R.val i (RC.put G i {}), ((Dat.cells x).drop (off.getD 0)).take (vs G).length, Γ.B.map fun _ => c.R.gd G i, κ.lhs c i G)
  rhs c i G _ _ := (some (c.R.ldt i, .pointer (some (offA (elemAddr (κ.v G) (k.toNat * Dat.size α)) off))), true, some (vs G).length, true, wrapT P (c.R.ldt i) (vs G), aggV a (vs G), vs G, Γ.B, κ.rhs G)
  sound c i ok hil hi h0 := fun o ho G w hs => by
    have h1 := h0 G {} w
    simp only [Prod.mk.injEq] at h1
    obtain ⟨e1, e2, e3, e4, e5, e6, e7, e8, e9⟩ := h1
    obtain ⟨en, q1, q2, _, _⟩ := Src.get ok hil hs e9
    have hr := κ.rd G en _ _ q1 (Cx.J_le hs κ.t) (entH_agrees q2)
    obtain ⟨b0, b1⟩ := h (Cx.gdOk Γ hs e8)
    refine load_does hi rfl ?_ ho e1 e2 e3 e4 e5 e6 ?_
    · obtain ⟨a1, a2, _⟩ := ahead ok hil hs (g := {}) no_H
      refine fact_of ok hil hi hs no_H (fun f hf => ?_) (fun q hq => by cases hq) trivial
      cases nest
      · cases hf
      · have hf : f = ⟨κ.t, fun H => Dat.good H x, fun _ _ k h => Dat.mono _ _ _ k h, Dat.q x, fun H h => Dat.hq H x h⟩ := by simpa using hf
        subst hf
        have hg := κ.gd G en _ q1 x (getD_mem (by omega) hx)
        unfold FP.at
        show bif κ.t then _ else _
        cases et : κ.t <;> rw [et] at hg
        · exact Dat.mono _ _ _ a2 hg
        · exact Dat.mono _ _ _ a1 hg
    · rw [offA_eq]
      have := ((hr.at b1 b0 hx).part e7).cell (w := w) (fun _ _ h => h)
      exact this
end Hint
end Kb
