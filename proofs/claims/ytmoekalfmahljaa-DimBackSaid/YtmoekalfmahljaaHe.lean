/- Words for owned slices and for calls. No program in sight. -/
import Derived.Test.YtmoekalfmahljaaHd
set_option linter.unusedVariables false
set_option linter.unusedSectionVars false
set_option linter.unusedSimpArgs false
namespace Kb
open Go
def RC.apt (R : RC) (G : Gh) (i : Nat) : TypeId := match R.apr G i with
  | some (t, _) => t
  | none => 0
def nilOr {α : Type} [Dat α] (t : Bool) (E : TypeId) (l : List α) (s : SV) : Bool → LE
  | true => .no
  | false => os t E l s
theorem nilOr_own {α : Type} [Dat α] {t : Bool} {E : TypeId} {l : List α} {s : SV} {z : Bool} (hz : z = true → l = [] ∧ s = {}) {e : Ent} {N K : Heaplet} (h : (nilOr t E l s z).at e N K) : OwnS E (Dat.size α) (rows l) s.v ((nilOr t E l s z).ent e) ∧ (∀ x ∈ l, Dat.good (bif t then N else K) x) := by
  cases z with
  | true =>
    obtain ⟨rfl, rfl⟩ := hz rfl
    exact ⟨OwnS.nil _ _, fun x hx => by cases hx⟩
  | false =>
    unfold nilOr os ow LE.at at h
    cases t
    · exact ⟨h.sl, h.good⟩
    · exact ⟨h.sl, h.good⟩
theorem own_sv {E : TypeId} {size : Nat} {rs : List (List Value)} {v : Value} {e : Ent} (h : OwnS E size rs v e) : ∃ s : SV, v = s.v := by
  rcases h.val with ⟨rfl, rfl, _⟩ | ⟨g, cap, cur, rfl, _⟩
  · exact ⟨{}, rfl⟩
  · exact ⟨⟨_, _, cap⟩, rfl⟩
theorem append_does {P : Program} {R : RC} {G : Gh} {i : Nat} {w : World} {o : Oper} (ho : R.ops[i]? = some o) {t E : TypeId} {size bytes : Nat} {rs news : List (List Value)} {v x : Value} {e : Ent} {H : Heaplet}
    (e1 : R.apr G i = some (t, t, v, x)) (e2 : sliceOf P t = some E) (e3 : infoOf P E = some (size, bytes, some size)) (hsz : 0 < size) (hby : 0 < bytes) (own : OwnS E size rs v e) (he : EntIn w e) (hx : HSlice H size news x) (hA : Agrees w H) (hbytes : (rs.length + news.length) * bytes ≤ 140737488355328) :
    ∃ v' e' w', (execOp (R.evalAt G i) o).run P w = .ok (.value v') w' ∧ OwnS E size (rs ++ news) v' e' ∧ Grows e e' w w' := by
  have h63 : rs.length + news.length ≤ maxLen := by
    have : rs.length + news.length ≤ (rs.length + news.length) * bytes := Nat.le_mul_of_pos_right _ hby
    simp only [maxLen]; omega
  have hu := slice_of e2
  unfold infoOf at e3
  cases hi : P.info? E with
  | none => simp [hi] at e3
  | some inf =>
    simp only [hi, Option.map_some, Option.some.injEq, Prod.mk.injEq] at e3
    obtain ⟨i1, i2, i3⟩ := e3
    cases hz : inf.zero with
    | none => simp [hz] at i3
    | some z =>
      simp only [hz, Option.map_some, Option.some.injEq] at i3
      obtain ⟨v', e', w', hr, ho', hg⟩ := append_run (w := w) (ty := o.type) hu hi hz i1 i2 i3 hsz own he hx hA hbytes h63
      refine ⟨v', e', w', ?_, ho', hg⟩
      unfold RC.apr at e1
      rw [ho] at e1
      obtain ⟨dst, op, type, pos, after, guard⟩ := o
      simp only [Option.map_some] at e1
      split at e1
      · rename_i args argTypes heq
        simp only [Option.some.injEq] at heq
        subst heq
        split at e1
        · rename_i x y t' u' hx ht
          simp only [Option.some.injEq, Prod.mk.injEq] at e1
          obtain ⟨rfl, rfl, hv, hxv⟩ := e1
          obtain ⟨l, rfl⟩ : ∃ l : List Operand, args = l.toArray := ⟨args.toList, by simp⟩
          obtain ⟨l2, rfl⟩ : ∃ l : List TypeId, argTypes = l.toArray := ⟨argTypes.toList, by simp⟩
          simp only at hx ht
          subst hx ht
          simp only at hr
          simp [execOp, resolve, invoke, builtin, hv, hxv, hr]
        · cases e1
      · cases e1
theorem make_does {P : Program} {R : RC} {G : Gh} {i : Nat} {w : World} {o : Oper} (ho : R.ops[i]? = some o) {t E : TypeId} {size bytes : Nat} {n : Int} {row : List Value} (e1 : R.mkr G i = some (t, .int .i64 n, .int .i64 n)) (e2 : sliceOf P t = some E) (e3 : zeroOf P E = some (size, bytes, some row)) (e7 : row.length = size) (e8 : row.all cell1 = true)
    (hn0 : 0 ≤ n) (hn63 : n ≤ 9223372036854775807) (hbytes : bytes * n ≤ 281474976710656) :
    ∃ o', (execOp (R.evalAt G i) o).run P w = .ok (.value (.slice (atB w.heap.size) n.toNat n.toNat)) { w with heap := w.heap.push o' } ∧ OwnS E size (List.replicate n.toNat row) (.slice (atB w.heap.size) n.toNat n.toNat) (some (w.heap.size, o')) := by
  have hu := slice_of e2
  subst e7
  unfold zeroOf at e3
  cases hi : P.info? E with
  | none => simp [hi] at e3
  | some inf =>
    simp only [hi, Option.map_some, Option.some.injEq, Prod.mk.injEq] at e3
    obtain ⟨i1, i2, i3⟩ := e3
    cases hz : inf.zero with
    | none => simp [hz] at i3
    | some z =>
      simp only [hz, Option.map_some, Option.some.injEq] at i3
      obtain ⟨m, rfl⟩ : ∃ m : Nat, n = m := ⟨n.toNat, by omega⟩
      have h63 : m ≤ maxLen := by simp only [maxLen]; omega
      have hmk := run_make (P := P) w t E inf z hu hi hz .i64 .i64 m m (by omega) (Int.le_refl _) (by rw [i2]; exact hbytes) hn63
      unfold RC.mkr at e1
      rw [ho] at e1
      obtain ⟨dst, op, type, pos, after, guard⟩ := o
      cases op <;> simp only [Option.map_some] at e1 <;> first | cases e1 | skip
      case makeSlice t' l c =>
        simp only [Option.some.injEq, Prod.mk.injEq] at e1
        obtain ⟨rfl, hl, hc⟩ := e1
        have hcells : z.cells = row.toArray := by rw [← i3]
        rw [i1, hcells] at hmk
        simp only [Int.toNat_natCast] at hmk ⊢
        refine ⟨.cells (madeCells row.toArray (m * row.length)) E, ?_, made_own (fun u hu => List.all_eq_true.1 e8 u hu) h63⟩
        show _ = Result.ok (Next.value (.slice (some ⟨w.heap.size, 0, none⟩) m m)) (w.alloc (.cells (madeCells row.toArray (m * row.length)) E))
        simp [execOp, hl, hc, hmk]
theorem storeOwn_does {P : Program} {R : RC} {G : Gh} {i : Nat} {w : World} {o : Oper} (ho : R.ops[i]? = some o) {t E : TypeId} {size off k : Nat} {rs : List (List Value)} {row vs : List Value} {v u : Value} {e : Ent} {a : Addr} (e1 : R.str G i = some (t, .pointer (some a), u)) (ha : a = (elemAddr v (k * size)).add off) (e2 : sizeT P t = some vs.length) (e0 : u.cells.toList = vs)
    (own : OwnS E size rs v e) (he : EntIn w e) (hk : rs[k]? = some row) (hoff : off + vs.length ≤ size) (h1 : vs.all cell1 = true) :
    ∃ e' w', (execOp (R.evalAt G i) o).run P w = .ok .skip w' ∧ OwnS E size (rs.set k (writeL row off vs)) v e' ∧ Grows e e' w w' := by
  subst ha
  obtain ⟨e', w', hst, ho', hg⟩ := own_store (P := P) (w := w) own he hk hoff (fun u hu => List.all_eq_true.1 h1 u hu)
  refine ⟨e', w', ?_, ho', hg⟩
  unfold RC.str at e1
  rw [ho] at e1
  obtain ⟨dst, op, type, pos, after, guard⟩ := o
  cases op <;> simp only [Option.map_some] at e1 <;> first | cases e1 | skip
  case store t' a x =>
    simp only [Option.some.injEq, Prod.mk.injEq] at e1
    obtain ⟨rfl, ha, hx⟩ := e1
    have hx' : (R.evalAt G i x).cells.toList = vs := by rw [hx]; exact e0
    have hsz : (R.evalAt G i x).cells.size = vs.length := by rw [← Array.length_toList, hx']
    simp [execOp, Instr.storeAt, ha, Instr.sureAddr, storeVar, run_sizeOf e2, hsz, hx', hst]
/-- where a part of a slice lies -/
def SV.sub (s : SV) (size lo hi : Nat) : SV := ⟨if s.c = lo then s.a else s.a.map (·.add (lo * size)), hi - lo, s.c - lo⟩
theorem sub_eq {s : SV} {size lo hi : Nat} : subV s.v size lo hi = (s.sub size lo hi).v := rfl
theorem slice_does {P : Program} {R : RC} {G : Gh} {i : Nat} {w : World} {o : Oper} (ho : R.ops[i]? = some o) {t E : TypeId} {size n : Nat} {v : Value} {lo hi : Option Int} {l h : Int} (e1 : R.slr G i = some (t, v, lo.map (.int .i64 ·), hi.map (.int .i64 ·), true)) (e2 : sliceOf P t = some E) (e3 : sizeT P E = some size)
    (hlo : l = lo.getD 0) (hhi : h = hi.getD n) (hv : IsSl v n) (b1 : 0 ≤ l) (b2 : l ≤ h) (b3 : h ≤ n) : (execOp (R.evalAt G i) o).run P w = .ok (.value (subV v size l.toNat h.toNat)) w := by
  obtain ⟨a, c, rfl, _, hc⟩ := hv
  have hu := slice_of e2
  unfold RC.slr at e1
  rw [ho] at e1
  obtain ⟨dst, op, type, pos, after, guard⟩ := o
  cases op <;> simp only [Option.map_some] at e1 <;> first | cases e1 | skip
  case slice t' x lo' hi' mx =>
    simp only [Option.some.injEq, Prod.mk.injEq] at e1
    obtain ⟨rfl, hx, hl, hh, hm⟩ := e1
    have hmx : mx = none := by simpa using hm
    subst hmx
    have hc' : (h : Int) ≤ (c : Int) := by omega
    have h0' : 0 ≤ h := by omega
    have hbd : (Instr.sliceBounds true n c (lo'.map (R.evalAt G i)) (hi'.map (R.evalAt G i)) none).run P w = .ok (l.toNat, h.toNat, c) w := by
      rw [hl, hh]
      have hlh : l ≤ (h.toNat : Int) := by omega
      cases lo <;> cases hi <;> simp only [Option.getD_none, Option.getD_some] at hlo hhi <;> subst hlo hhi <;>
        simp [Instr.sliceBounds, Instr.sliceBound, asIntOf, h0', hc', b1, hlh] <;> omega
    simp [execOp, Instr.sliceAt, underlying, hu, hx, Instr.slice, hbd, run_sizeOf e3, subV]
def RC.slt (R : RC) (i : Nat) : TypeId := match (R.ops[i]?).map (fun o : Oper => o.op) with
  | some (.slice t _ _ _ _) => t
  | _ => 0
def RC.mkt (R : RC) (i : Nat) : TypeId := match (R.ops[i]?).map (fun o : Oper => o.op) with
  | some (.makeSlice t _ _) => t
  | _ => 0
namespace Hint
variable {P : Program}
/-- append to an owned slice (z: to nil, entry r is free) -/
def ap {α : Type} [Dat α] {m : List α} {s2 : Gh → SV} (n r : Nat) (E : TypeId) (bytes : Nat) (z t : Bool) (l : List α) (s : Gh → SV) (κ : Kw α m s2) (t2 : Bool) (l2 : List α) (hl : l2 = l ++ m) (hb : (l.length + m.length) * bytes ≤ 140737488355328)
    (hz : z = true → l = [] ∧ ∀ G, s G = {}) (ht : (t2 = true → t = true ∧ κ.t = true) ∨ ∀ (H : Heaplet) (x : α), Dat.good H x) : Hint P where
  d := { val := fun G => (G n).s.v, news := [(r, fun G => os t2 E l2 (G n).s, fun G => (G n).e)], rds := κ.rdr }
  τ := Option (TypeId × TypeId × Value × Value) × Option TypeId × Option (Nat × Nat × Option Nat) × Option LE × Nat × Bool × Bool × (Option (Bool × (Ent → Heaplet → Prop)) × Bool)
  lhs c i G _ _ := (c.R.apr G i, sliceOf P (c.R.apt G i), infoOf P E, c.leAt i r G, i, decide (0 < Dat.size α), decide (0 < bytes), κ.lhs c i G)
  rhs c i G _ _ := (some (c.R.apt G i, c.R.apt G i, (s G).v, κ.v G), some E, some (Dat.size α, bytes, some (Dat.size α)), some (nilOr t E l (s G) z), n, true, true, κ.rhs G)
  sound c i ok hil hi h := fun o ho G w hs => by
    have h0 := h G {} w
    simp only [Prod.mk.injEq] at h0
    obtain ⟨e1, e2, e3, e4, rfl, e6, e7, e8⟩ := h0
    have hw : c.R.wrE r i = true := by unfold RC.wrE; rw [Cx.upsOf hi]; simp
    obtain ⟨en, a1, a2, a3⟩ := Cx.own_at ok hil hs e4 (by rw [hw]; simp)
    obtain ⟨own, hgood⟩ := nilOr_own (fun hz' => ⟨(hz hz').1, (hz hz').2 G⟩) a2
    obtain ⟨e', q1, q2, _⟩ := Src.get ok hil hs e8
    have hx := κ.rd G e' _ _ q1 (Cx.J_le hs κ.t) (entH_agrees q2)
    obtain ⟨v', en', w', hr, ho', hg⟩ := append_does ho e1 e2 e3 (of_decide_eq_true e6) (of_decide_eq_true e7) own a3 hx.sl (fun _ _ h => h) (by simpa using hb)
    obtain ⟨s', rfl⟩ := own_sv ho'
    unfold Does
    rw [hr]
    have hv := Cx.vis_self (c := c) (i := i) (G := G) { s := s', e := en' }
    refine ⟨{ s := s', e := en' }, left_turn ok hil hi hs rfl rfl a1 hg ?_ ?_ rfl rfl ?_⟩
    · show (c.R.vis i (RC.put G i { s := s', e := en' }) i).e = _
      rw [hv]
    · show bif t2 then OSl E _ l2 _ _ else OSl E _ l2 _ _
      rw [hv]
      have ho2 : OwnS E (Dat.size α) (rows l2) s'.v en' := by rw [hl, rows_append] at *; exact ho'
      have hgm : ∀ x ∈ m, Dat.good (c.J i G κ.t) x := κ.gd G e' _ q1
      have fin : ∀ x ∈ l2, Dat.good (c.J i G t2) x := fun x hx => by
        rcases ht with ht | ht
        · rw [hl] at hx
          rcases List.mem_append.1 hx with hx | hx
          · cases t2 with
            | true => have := hgood x hx; rw [(ht rfl).1] at this; exact this
            | false =>
              have := hgood x hx
              cases t
              · exact this
              · exact Dat.mono _ _ _ (Cx.J_true_le hs false) this
          · cases t2 with
            | true => have := hgm x hx; rw [(ht rfl).2] at this; exact this
            | false => exact Dat.mono _ _ _ (Cx.J_le_false hs _) (hgm x hx)
        · exact ht _ x
      cases t2
      · exact ⟨ho2, fin⟩
      · exact ⟨ho2, fin⟩
    · rw [Cx.valOf hi]
      show SV.v _ = _
      rw [hv]
/-- make -/
def mks {α : Type} [Dat α] (n r : Nat) (E : TypeId) (bytes : Nat) (k : Int) (l2 : List α) (hl : l2 = List.replicate k.toNat default) (h0 : 0 ≤ k) (h63 : k ≤ 9223372036854775807) (hb : bytes * k ≤ 281474976710656) : Hint P where
  d := { val := fun G => (G n).s.v, news := [(r, fun G => os true E l2 (G n).s, fun G => (G n).e)] }
  τ := Option (TypeId × Value × Value) × Option TypeId × Option (Nat × Nat × Option (List Value)) × Nat × List Value × Bool
  lhs c i G _ _ := (c.R.mkr G i, sliceOf P (c.R.mkt i), zeroOf P E, i, Dat.cells (default : α), (Dat.cells (default : α)).all cell1)
  rhs c i _ _ _ := (some (c.R.mkt i, .int .i64 k, .int .i64 k), some E, some (Dat.size α, bytes, some (Dat.cells (default : α))), n, Dat.cells (default : α), true)
  sound c i ok hil hi h := fun o ho G w hs => by
    have h1 := h G {} w
    simp only [Prod.mk.injEq] at h1
    obtain ⟨e1, e2, e3, rfl, _, e8⟩ := h1
    obtain ⟨o', hr, ho'⟩ := make_does (w := w) ho e1 e2 e3 (Dat.len _) e8 h0 h63 hb
    unfold Does
    rw [hr]
    have hv := Cx.vis_self (c := c) (i := i) (G := G) { s := ⟨atB w.heap.size, k.toNat, k.toNat⟩, e := some (w.heap.size, o') }
    refine ⟨{ s := ⟨atB w.heap.size, k.toNat, k.toNat⟩, e := some (w.heap.size, o') }, left_turn ok hil hi hs rfl rfl rfl grows_push ?_ ?_ rfl rfl ?_⟩
    · show (c.R.vis i (RC.put G i { s := ⟨atB w.heap.size, k.toNat, k.toNat⟩, e := some (w.heap.size, o') }) i).e = _
      rw [hv]
    · show OSl E _ l2 _ _
      rw [hv]
      refine ⟨?_, fun x hx => ?_⟩
      · have : rows l2 = List.replicate k.toNat (Dat.cells (default : α)) := by rw [hl]; simp [rows]
        rw [this]; exact ho'
      · rw [hl] at hx
        rw [(List.eq_of_mem_replicate hx : x = default)]
        exact Dat.zero _
    · rw [Cx.valOf hi]
      show SV.v _ = _
      rw [hv]
/-- a store into an element (or into cells of it) of an owned slice -/
def se {α : Type} [Dat α] {g : Prop} (Γ : GdI g) (n r : Nat) (E : TypeId) (t : Bool) (l : List α) (s : Gh → SV) (k : Int) (off : Option Nat) (x x' : α) (hx : x = l.getD k.toNat default) (t2 : Bool) (l2 : List α) (hl : l2 = l.set k.toNat x') (h : g → 0 ≤ k ∧ k < l.length)
    (ht : t2 = true → t = true) (qs : List Kv) (hq : ∀ G H, (∀ x ∈ l, Dat.good H x) → allR qs G H → Dat.good H x') : Hint P where
  d := { val := fun _ => undef, news := [(r, fun G => os t2 E l2 (s G), fun G => (G n).e)] }
  τ := Option (TypeId × Value × Value) × Option Nat × Bool × Option LE × Nat × Bool × List Value × Bool × List (Option (Bool × (Ent → Heaplet → Prop)) × Bool) × SV × Option Bool
  lhs c i G g _ := (c.R.str G i, sizeT P (c.R.stt i), decide (off.getD 0 + (c.R.stv G i).cells.toList.length ≤ Dat.size α), c.leAt i r G, i, (c.R.stv G i).cells.toList.all cell1, Dat.cells x', tOk t2 qs, qs.map (Kv.chk c i G), s (c.R.vis i (RC.put G i g)), Γ.B.map fun _ => c.R.gd G i)
  rhs c i G _ _ := (some (c.R.stt i, .pointer (some (offA (elemAddr (s G).v (k.toNat * Dat.size α)) off)), c.R.stv G i), some (c.R.stv G i).cells.toList.length, true, some (os t E l (s G)), n, true, writeL (Dat.cells x) (off.getD 0) (c.R.stv G i).cells.toList, true, qs.map (Kv.want G), s G, Γ.B)
  sound c i ok hil hi h0 := fun o ho G w hs => by
    have h1 := fun g => h0 G g w
    simp only [Prod.mk.injEq] at h1
    obtain ⟨e1, e2, e3, e4, rfl, e6, e7, e8, e9, _, e11⟩ := h1 {}
    obtain ⟨b0, b1⟩ := h (Cx.gdOk Γ hs e11)
    have hw : c.R.wrE r i = true := by unfold RC.wrE; rw [Cx.upsOf hi]; simp
    obtain ⟨en, a1, a2, a3⟩ := Cx.own_at ok hil hs e4 (by rw [hw]; simp)
    have own : OwnS E (Dat.size α) (rows l) (s G).v en ∧ ∀ x ∈ l, Dat.good (c.J i G t) x := by
      unfold os ow LE.at at a2
      cases t
      · exact ⟨a2.sl, a2.good⟩
      · exact ⟨a2.sl, a2.good⟩
    obtain ⟨en', w', hr, ho', hg⟩ := storeOwn_does (w := w) (k := k.toNat) (row := Dat.cells x) ho e1 (offA_eq _ _) e2 rfl own.1 a3 (get_map' (by omega) hx) (of_decide_eq_true e3) e6
    unfold Does
    rw [hr]
    have hv := Cx.vis_self (c := c) (i := i) (G := G) { e := en' }
    have hsv := (h1 { e := en' }).2.2.2.2.2.2.2.2.2.1
    refine ⟨{ e := en' }, left_turn ok hil hi hs rfl rfl a1 hg ?_ ?_ rfl rfl (by rw [Cx.valOf hi])⟩
    · show (c.R.vis i (RC.put G i { e := en' }) i).e = _
      rw [hv]
    · show bif t2 then OSl E _ l2 _ _ else OSl E _ l2 _ _
      rw [hv, hsv]
      have ho2 : OwnS E (Dat.size α) (rows l2) (s G).v en' := by
        have : rows l2 = (rows l).set k.toNat (writeL (Dat.cells x) (off.getD 0) (c.R.stv G i).cells.toList) := by rw [hl, ← e7]; simp [rows, List.map_set]
        rw [this]; exact ho'
      have hgl : ∀ x ∈ l, Dat.good (c.J i G t2) x := fun y hy => by
        cases t2 with
        | true => rw [← ht rfl]; exact own.2 y hy
        | false => exact Dat.mono _ _ _ (Cx.J_le_false hs _) (own.2 y hy)
      have fin : ∀ x ∈ l2, Dat.good (c.J i G t2) x := fun y hy => by
        rw [hl] at hy
        rcases List.mem_or_eq_of_mem_set hy with hy | hy
        · exact hgl y hy
        · rw [hy]; exact hq G _ hgl (allR_of ok hil hs e9 e8)
      cases t2
      · exact ⟨ho2, fin⟩
      · exact ⟨ho2, fin⟩
/-- a part of a slice that can be read -/
def sl {α : Type} [Dat α] {l : List α} {s : Gh → SV} {g : Prop} (Γ : GdI g) (κ : Kw α l s) (hf : κ.f = true) (lo hi : Option Int) (a b : Int) (ha : a = lo.getD 0) (hb : b = hi.getD l.length) (l2 : List α) (hl : l2 = (l.take b.toNat).drop a.toNat) (h : g → 0 ≤ a ∧ a ≤ b ∧ b ≤ l.length) : Hint P where
  d := { val := fun G => ((s G).sub (Dat.size α) a.toNat b.toNat).v, facts := fun G => [fs κ.t l2 ((s G).sub (Dat.size α) a.toNat b.toNat)], rds := κ.rdr }
  τ := Option (TypeId × Value × Option Value × Option Value × Bool) × Option Nat × SV × Option Bool × (Option (Bool × (Ent → Heaplet → Prop)) × Bool)
  lhs c i G g _ := (c.R.slr G i, (sliceOf P (c.R.slt i)).bind (sizeT P), s (c.R.vis i (RC.put G i g)), Γ.B.map fun _ => c.R.gd G i, κ.lhs c i G)
  rhs c i G _ _ := (some (c.R.slt i, κ.v G, lo.map (.int .i64 ·), hi.map (.int .i64 ·), true), some (Dat.size α), s G, Γ.B, κ.rhs G)
  sound c i ok hil hi h0 := fun o ho G w hs => by
    have h1 := h0 G {} w
    simp only [Prod.mk.injEq] at h1
    obtain ⟨e1, e2, e3, e4, e5⟩ := h1
    obtain ⟨b0, b1, b2⟩ := h (Cx.gdOk Γ hs e4)
    simp only [Option.bind_eq_some_iff] at e2
    obtain ⟨E, e2, e6⟩ := e2
    obtain ⟨en, q1, q2, _⟩ := Src.get ok hil hs e5
    have hr := κ.rj hf G en _ q1
    have hrun := slice_does (w := w) ho e1 e2 e6 ha hb hr.isSl b0 b1 b2
    unfold Does
    rw [hrun]
    obtain ⟨a1, a2, _⟩ := ahead ok hil hs (g := {}) no_H
    refine ⟨{}, left_grow ok hil hi hs rfl (Base.refl _ _) (fun b o h => by cases h) no_H (fun f hf' => ?_) trivial ?_⟩
    · have hf' : f = fs κ.t l2 ((s (c.R.vis i (RC.put G i {}))).sub (Dat.size α) a.toNat b.toNat) := by simpa using hf'
      rw [e3] at hf'
      subst hf'
      have hsub := hr.sub (lo := a.toNat) (hi := b.toNat) (by omega) (by omega)
      rw [← hl] at hsub
      have key : ∀ H, RSl H l2 (subV (κ.v G) (Dat.size α) a.toNat b.toNat) → RSl H l2 ((s G).sub (Dat.size α) a.toNat b.toNat).v := fun H hh => hh
      show bif κ.t then _ else _
      generalize κ.t = t at *
      cases t
      · exact (key _ hsub).mono a2
      · exact (key _ hsub).mono a1
    · rw [Cx.valOf hi]
      show SV.v _ = _
      rw [e3]; rfl
/-- the length of a slice -/
def ln {α : Type} [Dat α] {l : List α} {s : Gh → SV} (κ : Kw α l s) : Hint P where
  d := { val := fun _ => .int .i64 (l.length : Int), rds := κ.rdr }
  τ := (World → Option (Result Next)) × Value × (Option (Bool × (Ent → Heaplet → Prop)) × Bool)
  lhs c i G _ _ := (fun w => c.R.ex P G i w, c.R.val i (RC.put G i {}), κ.lhs c i G)
  rhs _ _ G _ _ := (fun w => some (.ok (.value (.int .i64 ((s G).n : Int))) w), .int .i64 (l.length : Int), κ.rhs G)
  sound c i ok hil hi h0 := fun o ho G w hs => by
    have h1 := h0 G {} w
    simp only [Prod.mk.injEq] at h1
    obtain ⟨e1, e2, e3⟩ := h1
    have e1 := congrFun e1 w
    simp only [RC.ex, ho, Option.map_some, Option.some.injEq] at e1
    have hr := κ.read ok hil hs e3
    obtain ⟨a, c', e, _⟩ := hr.isSl
    have hn : (s G).n = l.length := by
      unfold Kw.v SV.v at e
      injection e
    rw [hn] at e1
    exact still_does hi rfl (fun g => conj_nil hi rfl (fun _ => ⟨rfl, rfl⟩) _) e1 e2
end Hint
end Kb
