/- More words: append of zeros to nil, the front of an owned slice. No program in sight. -/
import Derived.Test.YtmoekalfmahljaaHj
import Derived.Lib.AppendZeros
set_option linter.unusedVariables false
set_option linter.unusedSimpArgs false
set_option linter.unusedSectionVars false
namespace Kb
open Go
theorem zero_flatten {row : List Value} : ∀ n : Nat, (Builtin.zeroCells row.toArray n).toList = (List.replicate n row).flatten := by
  intro n
  have hlen : (List.replicate n row).flatten.length = n * row.length := by
    rw [flatten_len (size := row.length) (fun r hr => by rw [List.eq_of_mem_replicate hr]), List.length_replicate]
  refine List.ext_getElem? fun j => ?_
  by_cases hj : j < n * row.length
  · have hp : 0 < row.length := by
      rcases Nat.eq_zero_or_pos row.length with h | h
      · rw [h] at hj; simp at hj
      · exact h
    have hm : j % row.length < row.length := Nat.mod_lt _ hp
    have hd : j / row.length < n := by rw [Nat.div_lt_iff_lt_mul hp]; exact hj
    have h1 := flatten_get (size := row.length) (rows := List.replicate n row) (fun r hr => by rw [List.eq_of_mem_replicate hr]) (j / row.length) (j % row.length) row row[j % row.length] (by simp [hd]) (by simp [hm])
    rw [Nat.div_add_mod'] at h1
    rw [h1]
    simp [Builtin.zeroCells, hj, hm]
  · have h0 : n * row.length ≤ j := Nat.le_of_not_lt hj
    rw [List.getElem?_eq_none (by simp [Builtin.zeroCells]; exact h0), List.getElem?_eq_none (by rw [hlen]; exact h0)]
theorem apz_run {P : Program} {w : World} {t tn ty E : TypeId} {i : TypeInfo} {z : Value} {kn : IntKind} {row : List Value} (ht : P.underlying t = some (.slice E)) (htn : P.underlying tn = some (.int kn)) (hi : P.info? E = some i) (hz : i.zero = some z) (hzc : z.cells.toList = row) (hs : i.size = row.length) (h1 : ∀ u ∈ row, cell1 u = true) (hp : 0 < row.length)
    {n : Nat} (h0 : 0 < n) (h63 : n ≤ maxLen) (h48 : n * i.bytes ≤ 281474976710656) :
    ∃ v' e' w', (Builtin.append_ #[t, tn] ty #[.slice none 0 0, .int .i64 n]).run P w = .ok v' w' ∧ OwnS E row.length (List.replicate n row) v' e' ∧ Grows none e' w w' := by
  have hr := Lib.run_append_nil_zeros w t tn ty E i z .i64 kn ht htn hi hz n h0 (by omega) (by simp only [maxLen] at h63; omega) h48
  have hrow : row.toArray = z.cells := by rw [← hzc]
  rw [← hrow] at hr
  have hge := grownCap_ge w n 0 E
  refine ⟨_, some (w.heap.size, .cells (Builtin.zeroCells row.toArray n ++ Builtin.zeroCells row.toArray (grownCap w n 0 E - n)) E), _, hr, ⟨fun r hr => by rw [List.eq_of_mem_replicate hr], fun r hr => by rw [List.eq_of_mem_replicate hr]; exact h1, .inr ⟨_, _, _, by simp, rfl, by simpa using hge, grownCap_le_maxLen w n 0 E h63, ?_, ?_⟩⟩, ?_, ?_, ?_⟩
  · rw [Array.size_append, size_zeroCells, size_zeroCells, ← Nat.add_mul]; congr 1; omega
  · rw [Array.toList_append, zero_flatten, List.length_replicate]
    rw [List.take_append_of_le_length (by rw [flatten_len (size := row.length) (fun r hr => by rw [List.eq_of_mem_replicate hr]), List.length_replicate]; exact Nat.le_refl _)]
    rw [List.take_of_length_le]
    rw [flatten_len (size := row.length) (fun r hr => by rw [List.eq_of_mem_replicate hr]), List.length_replicate]; exact Nat.le_refl _
  · intro b o hb; cases hb; exact push_get
  · intro b o hb; cases hb; exact .inl (Nat.le_refl _)
  · refine ⟨rfl, rfl, rfl, ?_, fun k hk _ => ?_⟩
    · show _ ≤ (w.heap.push _).size
      rw [Array.size_push]; exact Nat.le_succ _
    · show (w.heap.push _)[k]? = _
      rw [Array.getElem?_push, if_neg (Nat.ne_of_lt hk)]
def intOf (P : Program) (t : TypeId) : Bool := match P.underlying t with
  | some (.int _) => true
  | _ => false
theorem int_of {P : Program} {t : TypeId} (h : intOf P t = true) : ∃ k, P.underlying t = some (.int k) := by
  unfold intOf at h
  split at h
  · exact ⟨_, by assumption⟩
  · cases h
def RC.bnr (R : RC) (G : Gh) (i : Nat) : Option (BinOp × Value × Value) := match (R.ops[i]?).map (fun o : Oper => o.op) with
  | some (.binOp op _ x y _) => some (op, R.evalAt G i x, R.evalAt G i y)
  | _ => none
def noEq : BinOp → Bool
  | .eql => false
  | .neq => false
  | _ => true
theorem noEq_guard {P : Program} {op : BinOp} (h : noEq op = true) (T : TypeId) (x y : Operand) (a b : Value) (w : World) : (eqGuard op T x y a b).run P w = .ok () w := by
  cases op <;> first | exact absurd h (by decide) | rfl
theorem rem_run {P : Program} {T : TypeId} {w : World} {x y n : Int} (h0 : 0 ≤ x) (hy : y ≠ 0) (hn : n = x % y) : (binOp .rem T (.int .i64 x) (.int .i64 y)).run P w = .ok (.int .i64 n) w := by
  simp [binOp, Op.intDiv, hy, Int.tmod_eq_emod_of_nonneg h0, hn]
theorem quo_run {P : Program} {T : TypeId} {w : World} {x y n : Int} (h0 : 0 ≤ x) (hy : 0 < y) (hn : n = x / y) (hi : n ≤ 9223372036854775807) : (binOp .quo T (.int .i64 x) (.int .i64 y)).run P w = .ok (.int .i64 n) w := by
  have hy' : y ≠ 0 := by omega
  have h3 : 0 ≤ x / y := Int.ediv_nonneg h0 (by omega)
  have hw : IntKind.i64.wrap (x.tdiv y) = n := by rw [Int.tdiv_eq_ediv_of_nonneg h0, ← hn, IntKind.wrap_i64]; omega
  simp [binOp, Op.intDiv, hy', hw]
namespace Hint
variable {P : Program}
/-- an operation of two operands, its run known -/
def bin {g : Prop} (Γ : GdI g) (op : BinOp) (x y v : Value) (h : g → ∀ (T : TypeId) (w : World), (binOp op T x y).run P w = .ok v w) : Hint P where
  d := { val := fun _ => v }
  τ := Option (BinOp × Value × Value) × Value × Option Bool × Bool
  lhs c i G _ _ := (c.R.bnr G i, c.R.val i (RC.put G i {}), Γ.B.map fun _ => c.R.gd G i, noEq op)
  rhs _ _ _ _ _ := (some (op, x, y), v, Γ.B, true)
  sound c i _ _ hi h0 := fun o ho G w hs => by
    have h1 := h0 G {} w
    simp only [Prod.mk.injEq] at h1
    obtain ⟨e1, e2, e3, e4⟩ := h1
    refine Cx.still hi rfl (fun _ => ⟨rfl, rfl⟩) ho (x := v) ?_ e2
    have hr := h (Cx.gdOk Γ hs e3)
    unfold RC.bnr at e1
    rw [ho] at e1
    obtain ⟨dst, op', type, pos, after, guard⟩ := o
    cases op' <;> simp only [Option.map_some] at e1 <;> first | (simp at e1; done) | skip
    case binOp o2 t' x' y' b' =>
      simp only [Option.some.injEq, Prod.mk.injEq] at e1
      obtain ⟨rfl, h1, h2⟩ := e1
      simp [execOp, h1, h2, noEq_guard e4, hr]
def rmv {g : Prop} (Γ : GdI g) (x y n : Int) (hn : n = x % y) (h : g → 0 ≤ x ∧ 0 < y) : Hint P := bin Γ .rem (.int .i64 x) (.int .i64 y) (.int .i64 n) fun hg _ _ => rem_run (h hg).1 (by have := (h hg).2; omega) hn
def qov {g : Prop} (Γ : GdI g) (x y n : Int) (hn : n = x / y) (h : g → 0 ≤ x ∧ 0 < y) (hi : g → n ≤ 9223372036854775807) : Hint P := bin Γ .quo (.int .i64 x) (.int .i64 y) (.int .i64 n) fun hg _ _ => quo_run (h hg).1 (h hg).2 hn (hi hg)
/-- append(nil, make([]T, k)...) -/
def apz {α : Type} [Dat α] (n r : Nat) (t tn : TypeId) (E : TypeId) (bytes : Nat) (k : Int) (l2 : List α) (hl : l2 = List.replicate k.toNat default) (h0 : 0 < k) (h63 : k ≤ 9223372036854775807) (hb : k * bytes ≤ 281474976710656) : Hint P where
  d := { val := fun G => (G n).s.v, news := [(r, fun G => os true E l2 (G n).s, fun G => (G n).e)] }
  τ := Option (TypeId × TypeId × Value × Value) × Option TypeId × Bool × Option (Nat × Nat × Option (List Value)) × Nat × Bool × Bool × Ent
  lhs c i G _ _ := (c.R.apr G i, sliceOf P t, intOf P tn, zeroOf P E, i, decide (0 < Dat.size α), (Dat.cells (default : α)).all cell1, c.R.entAt G i r)
  rhs c i _ _ _ := (some (t, tn, .slice none 0 0, .int .i64 k), some E, true, some (Dat.size α, bytes, some (Dat.cells (default : α))), n, true, true, none)
  sound c i ok hil hi h := fun o ho G w hs => by
    have h1 := h G {} w
    simp only [Prod.mk.injEq] at h1
    obtain ⟨e1, e2, e3, e4, rfl, e5, e6, e7⟩ := h1
    obtain ⟨kn, e3⟩ := int_of e3
    unfold zeroOf at e4
    cases hin : P.info? E with
    | none => simp [hin] at e4
    | some inf =>
      simp only [hin, Option.map_some, Option.some.injEq, Prod.mk.injEq] at e4
      obtain ⟨i1, i2, i3⟩ := e4
      cases hz : inf.zero with
      | none => simp [hz] at i3
      | some z =>
        simp only [hz, Option.map_some, Option.some.injEq] at i3
        have hkn : (k.toNat : Int) = k := by omega
        clear h
        obtain ⟨v', e', w', hr, ho', hg⟩ := apz_run (w := w) (ty := o.type) (n := k.toNat) (slice_of e2) e3 hin hz i3 (by rw [i1, Dat.len]) (fun u hu => List.all_eq_true.1 e6 u hu) (by rw [Dat.len]; exact of_decide_eq_true e5) (by omega) (by simp only [maxLen]; omega) (by
          rw [i2]
          have h3 : ((k.toNat * bytes : Nat) : Int) ≤ ((281474976710656 : Nat) : Int) := by rw [Int.natCast_mul, hkn]; exact hb
          exact Int.ofNat_le.1 h3)
        rw [hkn] at hr
        have hrun : (execOp (c.R.evalAt G i) o).run P w = .ok (.value v') w' := by
          unfold RC.apr at e1
          rw [ho] at e1
          obtain ⟨dst, op, type, pos, after, guard⟩ := o
          simp only [Option.map_some] at e1
          split at e1
          · rename_i args argTypes heq
            simp only [Option.some.injEq] at heq
            subst heq
            split at e1
            · rename_i x y t' u' hx ht
              simp only [Option.some.injEq, Prod.mk.injEq] at e1
              obtain ⟨rfl, rfl, hv, hxv⟩ := e1
              obtain ⟨l, rfl⟩ : ∃ l : List Operand, args = l.toArray := ⟨args.toList, by simp⟩
              obtain ⟨l2, rfl⟩ : ∃ l : List TypeId, argTypes = l.toArray := ⟨argTypes.toList, by simp⟩
              simp only at hx ht
              subst hx ht
              simp only at hr
              simp [execOp, resolve, invoke, builtin, hv, hxv, hr]
            · cases e1
          · cases e1
        obtain ⟨s', rfl⟩ := own_sv ho'
        unfold Does
        rw [hrun]
        have hv := Cx.vis_self (c := c) (i := i) (G := G) { s := s', e := e' }
        refine ⟨{ s := s', e := e' }, left_turn ok hil hi hs rfl rfl e7 hg ?_ ?_ rfl rfl ?_⟩
        · show (c.R.vis i (RC.put G i { s := s', e := e' }) i).e = _
          rw [hv]
        · show OSl E _ l2 _ _
          rw [hv]
          refine ⟨?_, fun x hx => ?_⟩
          · have : rows l2 = List.replicate k.toNat (Dat.cells (default : α)) := by rw [hl]; simp [rows]
            rw [this, ← Dat.len (default : α)]; exact ho'
          · rw [hl] at hx
            rw [(List.eq_of_mem_replicate hx : x = default)]
            exact Dat.zero _
        · rw [Cx.valOf hi]
          show SV.v _ = _
          rw [hv]
/-- the front of an owned slice -/
def fro {α : Type} [Dat α] (n r : Nat) (E : TypeId) (t : Bool) (l : List α) (s : Gh → SV) (b : Int) (l2 : List α) (hl : l2 = l.take b.toNat) (h0 : 0 ≤ b) (h1 : b ≤ l.length) : Hint P where
  d := { val := fun G => ((s G).sub (Dat.size α) 0 b.toNat).v, news := [(r, fun G => os t E l2 ((s G).sub (Dat.size α) 0 b.toNat), fun G => (G n).e)] }
  τ := Option (TypeId × Value × Option Value × Option Value × Bool) × Option Nat × SV × Option LE × Nat
  lhs c i G g _ := (c.R.slr G i, (sliceOf P (c.R.slt i)).bind (sizeT P), s (c.R.vis i (RC.put G i g)), c.leAt i r G, i)
  rhs c i G _ _ := (some (c.R.slt i, (s G).v, none, some (.int .i64 b), true), some (Dat.size α), s G, some (os t E l (s G)), n)
  sound c i ok hil hi h := fun o ho G w hs => by
    have h2 := fun g => h G g w
    simp only [Prod.mk.injEq] at h2
    obtain ⟨e1, e2, _, e4, rfl⟩ := h2 {}
    simp only [Option.bind_eq_some_iff] at e2
    obtain ⟨E', e2, e6⟩ := e2
    have hw : c.R.wrE r i = true := by unfold RC.wrE; rw [Cx.upsOf hi]; simp
    obtain ⟨en, a1, a2, a3⟩ := Cx.own_at ok hil hs e4 (by rw [hw]; simp)
    have own : OSl E (c.J i G t) l (s G).v en := by
      unfold os ow LE.at at a2
      cases t <;> exact a2
    have hrun := slice_does (w := w) (lo := none) (hi := some b) (l := 0) (h := b) ho e1 e2 e6 rfl rfl own.isSl (by omega) h0 h1
    unfold Does
    rw [hrun]
    have hv := Cx.vis_self (c := c) (i := i) (G := G) { e := en }
    have hsv := (h2 { e := en }).2.2.1
    refine ⟨{ e := en }, left_turn ok hil hi hs rfl rfl a1 ⟨a3, fun b o hb => .inr ⟨o, hb⟩, Base.refl _ _⟩ ?_ ?_ rfl rfl ?_⟩
    · show (c.R.vis i (RC.put G i { e := en }) i).e = _
      rw [hv]; rfl
    · have key : OSl E (c.J i G t) l2 ((s G).sub (Dat.size α) 0 b.toNat).v en := by
        rw [hl]; exact own.take (by omega)
      show bif t then OSl E _ l2 _ _ else OSl E _ l2 _ _
      rw [hv, hsv]
      cases t <;> exact key
    · rw [Cx.valOf hi]
      show SV.v _ = _
      rw [hsv]; rfl
/-- a slice written out that nobody will write, whose data hold what this region has made -/
def nrG {α : Type} [Dat α] (n : Nat) (t : Bool) (E : TypeId) (l : Gh → List α) (k : Nat) (hk : ∀ G, (l G).length = k) (qs : List Kv) (hq : ∀ G H, allR qs G H → ∀ x ∈ l G, Dat.good H x) (arr : Gh → Array Value) : Hint P where
  d := { val := fun G => .slice (atB (G n).b) k k, facts := fun G => [fs t (l G) ⟨atB (G n).b, k, k⟩] }
  τ := Option (Result Next) × Nat × List Value × Bool × Bool × List (Option (Bool × (Ent → Heaplet → Prop)) × Bool) × List α
  lhs c i G g w := (c.R.ex P G i w, i, (arr G).toList, decide (k ≤ maxLen), tOk t qs, qs.map (Kv.chk c i G), l (c.R.vis i (RC.put G i g)))
  rhs _ _ G _ w := (some (.ok (.value (.slice (atB w.heap.size) k k)) { w with heap := w.heap.push (.cells (arr G) E) }), n, (rows (l G)).flatten, true, true, qs.map (Kv.want G), l G)
  sound c i ok hil hi h := fun o ho G w hs => by
    have h0 := fun g => h G g w
    simp only [Prod.mk.injEq, RC.ex, ho, Option.map_some, Option.some.injEq] at h0
    obtain ⟨e1, rfl, e4, e5, e6, e7, _⟩ := h0 {}
    unfold Does
    rw [e1]
    have hv := Cx.vis_self (c := c) (i := i) (G := G) { b := w.heap.size, H := entH (some (w.heap.size, .cells (arr G) E)) }
    have e8 := (h0 { b := w.heap.size, H := entH (some (w.heap.size, .cells (arr G) E)) }).2.2.2.2.2.2
    have hfr : ∀ b, entH (some (w.heap.size, .cells (arr G) E)) b ≠ none → w.heap.size ≤ b := entH_new (w0 := w) fun b o he => by cases he; exact Nat.le_refl _
    obtain ⟨a1, a2, a3, a4⟩ := ahead ok hil hs (g := { b := w.heap.size, H := entH (some (w.heap.size, .cells (arr G) E)) }) hfr
    refine ⟨{ b := w.heap.size, H := entH (some (w.heap.size, .cells (arr G) E)) }, left_grow ok hil hi hs rfl (base_push _ _) (entH_agrees (e := some (w.heap.size, .cells (arr G) E)) fun b o he => by cases he; exact push_get) hfr (fun f hf => ?_) trivial ?_⟩
    · have hf : f = fs t (l (c.R.vis i (RC.put G i { b := w.heap.size, H := entH (some (w.heap.size, .cells (arr G) E)) }))) ⟨atB (c.R.vis i (RC.put G i { b := w.heap.size, H := entH (some (w.heap.size, .cells (arr G) E)) }) i).b, k, k⟩ := by simpa using hf
      rw [hv, e8] at hf
      subst hf
      have key : ∀ H K, Sub H K → Sub (entH (some (w.heap.size, .cells (arr G) E))) K → (∀ x ∈ l G, Dat.good H x) → RSl K (l G) (.slice (atB w.heap.size) k k) := fun H K k1 k2 hg => (OSl.lit (E := E) (g := w.heap.size) hg (by rw [e4, hk, e5])).frozen k1 k2
      have hR := hq G _ (allR_of ok hil hs e7 e6)
      show bif t then _ else _
      cases t
      · exact key _ _ a2 a4 hR
      · exact key _ _ a1 a3 hR
    · rw [Cx.valOf hi]
      show Value.slice _ _ _ = _
      rw [hv]
/-- append of a slice whose data hold what this region has made -/
def apG {α : Type} [Dat α] (n r : Nat) (E : TypeId) (bytes : Nat) (z t : Bool) (l : List α) (s : Gh → SV) (src : Src) (ts : Bool) (m : Gh → List α) (k : Nat) (hk : ∀ G, (m G).length = k) (s2 : Gh → SV) (t2 : Bool) (hb : (l.length + k) * bytes ≤ 140737488355328)
    (hz : z = true → l = [] ∧ ∀ G, s G = {}) (ht : t2 = true → t = true ∧ ts = true) : Hint P where
  d := { val := fun G => (G n).s.v, news := [(r, fun G => os t2 E (l ++ m G) (G n).s, fun G => (G n).e)] }
  τ := Option (TypeId × TypeId × Value × Value) × Option TypeId × Option (Nat × Nat × Option Nat) × Option LE × Nat × Bool × Bool × (Option (Bool × (Ent → Heaplet → Prop)) × Bool) × List α
  lhs c i G g _ := (c.R.apr G i, sliceOf P (c.R.apt G i), infoOf P E, c.leAt i r G, i, decide (0 < Dat.size α), decide (0 < bytes), src.what c i G, m (c.R.vis i (RC.put G i g)))
  rhs c i G _ _ := (some (c.R.apt G i, c.R.apt G i, (s G).v, (s2 G).v), some E, some (Dat.size α, bytes, some (Dat.size α)), some (nilOr t E l (s G) z), n, true, true, (some (ts, fun _ H => RSl H (m G) (s2 G).v), true), m G)
  sound c i ok hil hi h := fun o ho G w hs => by
    have h0 := fun g => h G g w
    simp only [Prod.mk.injEq] at h0
    obtain ⟨e1, e2, e3, e4, rfl, e6, e7, e8, _⟩ := h0 {}
    have hw : c.R.wrE r i = true := by unfold RC.wrE; rw [Cx.upsOf hi]; simp
    obtain ⟨en, a1, a2, a3⟩ := Cx.own_at ok hil hs e4 (by rw [hw]; simp)
    obtain ⟨own, hgood⟩ := nilOr_own (fun hz' => ⟨(hz hz').1, (hz hz').2 G⟩) a2
    obtain ⟨e', q1, q2, _⟩ := Src.get ok hil hs e8
    have hx : RSl (c.J i G ts) (m G) (s2 G).v := q1
    obtain ⟨v', en', w', hr, ho', hg⟩ := append_does ho e1 e2 e3 (of_decide_eq_true e6) (of_decide_eq_true e7) own a3 hx.sl (Cx.J_le hs ts) (by simpa [hk] using hb)
    obtain ⟨s', rfl⟩ := own_sv ho'
    unfold Does
    rw [hr]
    have hv := Cx.vis_self (c := c) (i := i) (G := G) { s := s', e := en' }
    have e9 := (h0 { s := s', e := en' }).2.2.2.2.2.2.2.2
    refine ⟨{ s := s', e := en' }, left_turn ok hil hi hs rfl rfl a1 hg ?_ ?_ rfl rfl ?_⟩
    · show (c.R.vis i (RC.put G i { s := s', e := en' }) i).e = _
      rw [hv]
    · show bif t2 then OSl E _ _ _ _ else OSl E _ _ _ _
      rw [hv, e9]
      have ho2 : OwnS E (Dat.size α) (rows (l ++ m G)) s'.v en' := by rw [rows_append]; exact ho'
      have fin : ∀ x ∈ l ++ m G, Dat.good (c.J i G t2) x := fun x hx' => by
        rcases List.mem_append.1 hx' with hx' | hx'
        · cases t2 with
          | true => have := hgood x hx'; rw [(ht rfl).1] at this; exact this
          | false =>
            have := hgood x hx'
            cases t
            · exact this
            · exact Dat.mono _ _ _ (Cx.J_true_le hs false) this
        · cases t2 with
          | true => have := hx.good x hx'; rw [(ht rfl).2] at this; exact this
          | false => exact Dat.mono _ _ _ (Cx.J_le_false hs _) (hx.good x hx')
      cases t2
      · exact ⟨ho2, fin⟩
      · exact ⟨ho2, fin⟩
    · rw [Cx.valOf hi]
      show SV.v _ = _
      rw [hv]
end Hint
end Kb
