/- Maps: words for making, asking, writing, counting. No program in sight. -/
import Derived.Test.YtmoekalfmahljaaHi
import Derived.MapKept
set_option linter.unusedVariables false
set_option linter.unusedSimpArgs false
set_option linter.unusedSectionVars false
namespace Kb
open Go
/-! ### what a map holds -/
class MKey (κ : Type) [DecidableEq κ] where
  enc : κ → Value
  desc : TypeDesc
  same : ∀ a b, Instr.sameNow desc (enc a) (enc b) = some (decide (a = b))
  key : ∀ a, MapKept.IsKey desc (enc a)
instance : MKey Int where
  enc := .int .i64
  desc := .int .i64
  same a b := by
    show (if IntKind.i64 = IntKind.i64 then some (a == b) else none) = _
    rw [if_pos rfl]; rfl
  key _ := rfl
instance : MKey ByteArray where
  enc := .string
  desc := .string
  same a b := by
    show some (a == b) = _
    rw [beq_bytes]
  key _ := trivial
section
variable {κ α : Type} [DecidableEq κ] [MKey κ]
def mlook (k : κ) : List (κ × α) → Option α
  | [] => none
  | p :: m => if k = p.1 then some p.2 else mlook k m
def mupd (k : κ) (x : α) : List (κ × α) → List (κ × α)
  | [] => [(k, x)]
  | p :: m => if k = p.1 then (k, x) :: m else p :: mupd k x m
def mfind (k : κ) : List (κ × α) → Option (Nat × α)
  | [] => none
  | p :: m => if k = p.1 then some (0, p.2) else (mfind k m).map fun q => (q.1 + 1, q.2)
theorem mlook_eq (k : κ) : ∀ m : List (κ × α), mlook k m = (mfind k m).map (·.2)
  | [] => rfl
  | p :: m => by
    unfold mlook mfind
    split
    · rfl
    · rw [mlook_eq k m]; cases mfind k m <;> rfl
theorem mupd_some {k : κ} {x : α} : ∀ {m : List (κ × α)} {q : Nat × α}, mfind k m = some q → mupd k x m = m.set q.1 (k, x) ∧ ∃ y, m[q.1]? = some (k, y)
  | p :: m, q, h => by
    unfold mfind at h
    unfold mupd
    split at h
    · rename_i e
      cases h
      rw [if_pos e]
      exact ⟨rfl, p.2, by simp [e]⟩
    · rename_i e
      rw [if_neg e]
      simp only [Option.map_eq_some_iff] at h
      obtain ⟨q', h1, rfl⟩ := h
      obtain ⟨h2, y, h3⟩ := mupd_some (x := x) h1
      exact ⟨by rw [h2]; rfl, y, by simpa using h3⟩
theorem mupd_none {k : κ} {x : α} : ∀ {m : List (κ × α)}, mfind k m = none → mupd k x m = m ++ [(k, x)]
  | [], _ => rfl
  | p :: m, h => by
    unfold mfind at h
    unfold mupd
    split at h
    · cases h
    · rename_i e
      rw [if_neg e]
      simp only [Option.map_eq_none_iff] at h
      rw [mupd_none h]; rfl
theorem mupd_mem {k : κ} {x : α} : ∀ {m : List (κ × α)} {p : κ × α}, p ∈ mupd k x m → p = (k, x) ∨ p ∈ m
  | [], p, h => by unfold mupd at h; exact .inl (by simpa using h)
  | q :: m, p, h => by
    unfold mupd at h
    split at h
    · rcases List.mem_cons.1 h with h | h
      · exact .inl h
      · exact .inr (List.mem_cons_of_mem _ h)
    · rcases List.mem_cons.1 h with h | h
      · exact .inr (by rw [h]; exact List.mem_cons_self)
      · rcases mupd_mem h with h | h
        · exact .inl h
        · exact .inr (List.mem_cons_of_mem _ h)
theorem mlook_upd {k : κ} {x : α} (k' : κ) : ∀ m : List (κ × α), mlook k' (mupd k x m) = if k' = k then some x else mlook k' m
  | [] => by unfold mupd mlook; rfl
  | p :: m => by
    unfold mupd
    by_cases e : k = p.1
    · rw [if_pos e]
      unfold mlook
      by_cases e2 : k' = k
      · rw [if_pos e2, if_pos e2]
      · rw [if_neg e2, if_neg e2]
        rw [if_neg (by rw [← e]; exact e2)]
    · rw [if_neg e]
      unfold mlook
      by_cases e2 : k' = p.1
      · rw [if_pos e2, if_pos e2, if_neg (by rw [e2]; exact fun h => e h.symm)]
      · rw [if_neg e2, if_neg e2, mlook_upd k' m]
theorem mlook_mem {k : κ} : ∀ {m : List (κ × α)} {y : α}, mlook k m = some y → (k, y) ∈ m
  | p :: m, y, h => by
    unfold mlook at h
    split at h
    · rename_i e; cases h; rw [e]; exact List.mem_cons_self
    · exact List.mem_cons_of_mem _ (mlook_mem h)
theorem mlook_none {k : κ} : ∀ {m : List (κ × α)}, mlook k m = none ↔ ∀ y, (k, y) ∉ m
  | [] => by simp [mlook]
  | p :: m => by
    unfold mlook
    split
    · rename_i e
      constructor
      · intro h; cases h
      · intro h; exact absurd (List.mem_cons.2 (.inl (by rw [e]))) (h p.2)
    · rename_i e
      rw [mlook_none]
      constructor
      · intro h y hy
        rcases List.mem_cons.1 hy with hy | hy
        · exact e (by rw [← hy])
        · exact h y hy
      · intro h y hy; exact h y (List.mem_cons_of_mem _ hy)
theorem mupd_len {k : κ} {x : α} (m : List (κ × α)) : (mupd k x m).length = m.length + (if (mlook k m).isSome then 0 else 1) := by
  rw [mlook_eq]
  cases h : mfind k m with
  | none => rw [mupd_none h]; simp
  | some q => rw [(mupd_some h).1]; simp
theorem findNow_eq (f : α → Value) (k : κ) : ∀ (m : List (κ × α)) (es : List MapEntry) (i : Nat), es.map (fun e => (e.key, e.val)) = m.map (fun p => (MKey.enc p.1, f p.2)) → Instr.findNow (MKey.desc κ) (MKey.enc k) es i = some ((mfind k m).map fun q => (i + q.1, f q.2))
  | [], [], i, _ => rfl
  | [], _ :: _, i, h => by simp at h
  | _ :: _, [], i, h => by simp at h
  | p :: m, e :: es, i, h => by
    simp only [List.map_cons, List.cons.injEq, Prod.mk.injEq] at h
    obtain ⟨⟨h1, h2⟩, h3⟩ := h
    unfold Instr.findNow
    rw [h1, MKey.same]
    unfold mfind
    by_cases e0 : k = p.1
    · rw [if_pos e0, decide_eq_true e0]
      simp [h2]
    · rw [if_neg e0, decide_eq_false e0]
      simp only []
      rw [findNow_eq f k m es (i + 1) h3]
      cases mfind k m <;> simp
      omega
/-- what the map's block holds -/
def MOb (f : α → Value) (m : List (κ × α)) (o : Obj) : Prop := ∃ (es : Array MapEntry) (c : Nat), o = .map es c ∧ es.toList.map (fun e => (e.key, e.val)) = m.map (fun p => (MKey.enc p.1, f p.2))
end
def mapOf (P : Program) (t : TypeId) : Option (TypeId × TypeId) := match P.underlying t with
  | some (.map k e) => some (k, e)
  | _ => none
theorem map_of {P : Program} {t k e : TypeId} (h : mapOf P t = some (k, e)) : P.underlying t = some (.map k e) := by
  unfold mapOf at h
  split at h <;> simp_all
section
variable {κ α : Type} [DecidableEq κ] [MKey κ] {P : Program} {w : World} {t kt et : TypeId} {f : α → Value} {m : List (κ × α)} {b : Nat} {o : Obj} {k : κ} {x : α}
theorem find_run {es : List MapEntry} (hk : P.underlying kt = some (MKey.desc κ)) (h : es.map (fun e => (e.key, e.val)) = m.map (fun p => (MKey.enc p.1, f p.2))) : (Instr.findKey kt (MKey.enc k) es).run P w = .ok ((mfind k m).map fun q => (q.1, f q.2)) w :=
  MapKept.run_findKey hk (by rw [findNow_eq f k m es 0 h]; cases mfind k m <;> simp)
theorem mu_run (hu : P.underlying t = some (.map kt et)) (hk : P.underlying kt = some (MKey.desc κ)) (hm : MOb f m o) (hb : w.heap[b]? = some o) :
    ∃ o', (Instr.mapUpdate t (.map (some b)) (MKey.enc k) (f x)).run P w = .ok () (setBlk w b o') ∧ MOb f (mupd k x m) o' := by
  obtain ⟨es, c, rfl, hes⟩ := hm
  have hfk := find_run (P := P) (w := w) (k := k) hk hes
  cases hfd : mfind k m with
  | none =>
    rw [hfd] at hfk
    refine ⟨.map (es.push { key := MKey.enc k, val := f x, born := c }) (c + 1), ?_, _, _, rfl, ?_⟩
    · simp [Instr.mapUpdate, run_underlying hu, MapKept.run_getObj_map hb, MapKept.run_checkKey hk (MKey.key k), hfk, MapKept.run_setObj_map _ hb, Result.andThen, setBlk]
    · rw [mupd_none hfd]
      simp [hes]
  | some q =>
    rw [hfd] at hfk
    obtain ⟨hup, y, hy⟩ := mupd_some (x := x) hfd
    have hlen : es.toList.length = m.length := by have := congrArg List.length hes; simpa using this
    have hql : q.1 < es.toList.length := by rw [hlen]; exact (List.getElem?_eq_some_iff.1 hy).1
    have hkey : (es[q.1]?).map (·.key) = some (MKey.enc k) := by
      have := congrArg (fun l => (l[q.1]?).map (·.1)) hes
      simp only [List.getElem?_map, hy, Option.map_map] at this
      simpa using this
    refine ⟨.map (es.modify q.1 fun e => { e with key := MKey.enc k, val := f x }) c, ?_, _, _, rfl, ?_⟩
    · simp [Instr.mapUpdate, run_underlying hu, MapKept.run_getObj_map hb, MapKept.run_checkKey hk (MKey.key k), hfk, hkey, MapKept.run_keyThatStays (MKey.key k), MapKept.run_setObj_map _ hb, Result.andThen, setBlk]
    · rw [hup, Array.toList_modify, List.map_set, ← hes]
      refine List.ext_getElem? fun j => ?_
      simp only [List.getElem?_map, List.getElem?_set, List.getElem?_modify, List.length_map]
      by_cases e : q.1 = j
      · subst e
        simp [hql]
        simp at hql
        rw [Array.getElem?_eq_getElem hql, if_pos hql]; rfl
      · simp [e]
theorem lk_run {z : Value} {ok : Bool} (hu : P.underlying t = some (.map kt et)) (hk : P.underlying kt = some (MKey.desc κ)) (hm : MOb f m o) (hb : w.heap[b]? = some o) (hz : (zeroValue et).run P w = .ok z w) :
    (Instr.lookup t (.map (some b)) (MKey.enc k) ok).run P w = .ok (if ok then .tuple #[((mlook k m).map f).getD z, .bool (mlook k m).isSome] else ((mlook k m).map f).getD z) w := by
  obtain ⟨es, c, rfl, hes⟩ := hm
  have hfk := find_run (P := P) (w := w) (k := k) hk hes
  rw [mlook_eq]
  cases hfd : mfind k m with
  | none =>
    rw [hfd] at hfk
    simp [Instr.lookup, run_underlying hu, MapKept.run_getObj_map hb, MapKept.run_checkKey hk (MKey.key k), hfk, hz, Result.andThen]
  | some q =>
    rw [hfd] at hfk
    simp [Instr.lookup, run_underlying hu, MapKept.run_getObj_map hb, MapKept.run_checkKey hk (MKey.key k), hfk, Result.andThen]
theorem ml_run {ty : TypeId} (hu : P.underlying t = some (.map kt et)) (hm : MOb f m o) (hb : w.heap[b]? = some o) : (Builtin.len_ #[t] ty #[.map (some b)]).run P w = .ok (.int .i64 (m.length : Int)) w := by
  obtain ⟨es, c, rfl, hes⟩ := hm
  have hlen : es.size = m.length := by have := congrArg List.length hes; simpa using this
  simp [Builtin.len_, run_underlying hu, MapKept.run_getObj_map hb, goInt, Result.andThen, hlen]
end
/-! ### the entry -/
section
variable {κ α : Type} [DecidableEq κ] [MKey κ] [Dat α]
/-- entry e holds the map m, at block b; a: its values are of several cells -/
def MP (a : Bool) (m : List (κ × α)) (b : Nat) (e : Ent) (H : Heaplet) : Prop := (∃ o, e = some (b, o) ∧ MOb (fun x : α => aggV a (Dat.cells x)) m o) ∧ ∀ p ∈ m, Dat.good H p.2
def mp (t a : Bool) (m : List (κ × α)) (b : Nat) : LE := .own t (MP a m b) (fun _ _ _ k h => ⟨h.1, fun p hp => Dat.mono _ _ _ k (h.2 p hp)⟩) True (fun _ _ _ => trivial)
theorem mp_at {t a : Bool} {m : List (κ × α)} {b : Nat} {e : Ent} {N K : Heaplet} (h : (mp t a m b).at e N K) : MP a m b e (bif t then N else K) := by
  cases t
  · exact h
  · exact h
end
def RC.mpu (R : RC) (G : Gh) (i : Nat) : Option (TypeId × Value × Value × Value) := match (R.ops[i]?).map (fun o : Oper => o.op) with
  | some (.mapUpdate t m k x) => some (t, R.evalAt G i m, R.evalAt G i k, R.evalAt G i x)
  | some (.insert t m k x) => some (t, R.evalAt G i m, R.evalAt G i k, R.evalAt G i x)
  | _ => none
def RC.mlk (R : RC) (G : Gh) (i : Nat) : Option (TypeId × Value × Value × Bool) := match (R.ops[i]?).map (fun o : Oper => o.op) with
  | some (.lookup t m k ok) => some (t, R.evalAt G i m, R.evalAt G i k, ok)
  | _ => none
def RC.mln (R : RC) (G : Gh) (i : Nat) : Option (TypeId × Value) := match (R.ops[i]?).map (fun o : Oper => o.op) with
  | some (.call { callee := .builtin .len, args, argTypes }) => match args.toList, argTypes.toList with
    | [x], [t] => some (t, R.evalAt G i x)
    | _, _ => none
  | _ => none
def lkV (a ok : Bool) (x : List Value) (is : Bool) : Value := bif ok then .tuple #[aggV a x, .bool is] else aggV a x
namespace Hint
variable {P : Program} {κ α : Type} [DecidableEq κ] [MKey κ] [Dat α]
/-- a new map -/
def mm (κ α : Type) [DecidableEq κ] [MKey κ] [Dat α] (n r : Nat) (a : Bool) : Hint P where
  d := { val := fun G => .map (some (G n).b), news := [(r, fun G => mp true a ([] : List (κ × α)) (G n).b, fun G => some ((G n).b, .map #[] 0))] }
  τ := Option (Result Next) × Nat
  lhs c i G _ w := (c.R.ex P G i w, i)
  rhs _ _ _ _ w := (some (.ok (.value (.map (some w.heap.size))) { w with heap := w.heap.push (.map #[] 0) }), n)
  sound c i ok hil hi h := fun o ho G w hs => by
    have h0 := h G { b := w.heap.size } w
    simp only [Prod.mk.injEq, RC.ex, ho, Option.map_some, Option.some.injEq] at h0
    obtain ⟨e1, rfl⟩ := h0
    unfold Does
    rw [e1]
    have hv := Cx.vis_self (c := c) (i := i) (G := G) { b := w.heap.size }
    refine ⟨{ b := w.heap.size }, left_turn ok hil hi hs (e1 := some (w.heap.size, .map #[] 0)) rfl rfl rfl grows_push ?_ ?_ rfl rfl ?_⟩
    · show some _ = _
      rw [hv]
    · show MP _ _ _ _ _
      rw [hv]
      exact ⟨⟨_, rfl, #[], 0, rfl, rfl⟩, fun p hp => by cases hp⟩
    · rw [Cx.valOf hi]
      show Value.map _ = _
      rw [hv]
/-- a write to the map of entry r -/
def mu (n r : Nat) (tt kt et : TypeId) (t a : Bool) (m : List (κ × α)) (b : Gh → Nat) (k : κ) (x : α) (m2 : List (κ × α)) (hm : m2 = mupd k x m) (t2 : Bool) (ht : t2 = true → t = true) (qs : List Kv) (hq : ∀ G H, allR qs G H → Dat.good H x) : Hint P where
  d := { val := fun _ => undef, news := [(r, fun G => mp t2 a m2 (b G), fun G => (G n).e)] }
  τ := Option (TypeId × Value × Value × Value) × Option (TypeId × TypeId) × Option TypeDesc × Option LE × Nat × Bool × List (Option (Bool × (Ent → Heaplet → Prop)) × Bool) × Nat
  lhs c i G g _ := (c.R.mpu G i, mapOf P tt, P.underlying kt, c.leAt i r G, i, tOk t2 qs, qs.map (Kv.chk c i G), b (c.R.vis i (RC.put G i g)))
  rhs _ _ G _ _ := (some (tt, .map (some (b G)), MKey.enc k, aggV a (Dat.cells x)), some (kt, et), some (MKey.desc κ), some (mp t a m (b G)), n, true, qs.map (Kv.want G), b G)
  sound c i ok hil hi h0 := fun o ho G w hs => by
    have h1 := fun g => h0 G g w
    simp only [Prod.mk.injEq] at h1
    obtain ⟨e1, e2, e3, e4, rfl, e6, e7, _⟩ := h1 {}
    have hw : c.R.wrE r i = true := by unfold RC.wrE; rw [Cx.upsOf hi]; simp
    obtain ⟨en, a1, a2, a3⟩ := Cx.own_at ok hil hs e4 (by rw [hw]; simp)
    obtain ⟨⟨ob, rfl, hob⟩, hgood⟩ := mp_at a2
    have hb := a3 (b G) ob rfl
    have hlt := RC.heap_lt hb
    obtain ⟨o', hr, hob'⟩ := mu_run (P := P) (w := w) (k := k) (x := x) (map_of e2) e3 hob hb
    have hg : Grows (some (b G, ob)) (some (b G, o')) w (setBlk w (b G) o') :=
      ⟨fun b' o2 hbo => by cases hbo; simp [setBlk, hlt], fun b' o2 hbo => by cases hbo; exact .inr ⟨_, rfl⟩, ⟨rfl, rfl, rfl, by simp [setBlk], fun j hj hn => by
        have : b G ≠ j := fun e => hn (by subst e; simp)
        simp [setBlk, Array.getElem?_setIfInBounds_ne this]⟩⟩
    have hrun : (execOp (c.R.evalAt G i) o).run P w = .ok .skip (setBlk w (b G) o') := by
      unfold RC.mpu at e1
      rw [ho] at e1
      obtain ⟨dst, op, type, pos, after, guard⟩ := o
      cases op <;> simp only [Option.map_some] at e1 <;> first | cases e1 | skip
      all_goals
        simp only [Option.some.injEq, Prod.mk.injEq] at e1
        obtain ⟨rfl, h1, h2, h3⟩ := e1
        simp [execOp, h1, h2, h3, hr]
    unfold Does
    rw [hrun]
    have hv := Cx.vis_self (c := c) (i := i) (G := G) { e := some (b G, o') }
    have hbv := (h1 { e := some (b G, o') }).2.2.2.2.2.2.2
    refine ⟨{ e := some (b G, o') }, left_turn ok hil hi hs rfl rfl a1 hg ?_ ?_ rfl rfl (by rw [Cx.valOf hi])⟩
    · show (c.R.vis i (RC.put G i { e := some (b G, o') }) i).e = _
      rw [hv]
    · have key : ∀ H, (∀ p ∈ m, Dat.good H p.2) → Dat.good H x → MP a m2 (b G) (some (b G, o')) H := fun H h1 h2 => ⟨⟨_, rfl, hm ▸ hob'⟩, fun p hp => by
        rw [hm] at hp
        rcases mupd_mem hp with hp | hp
        · rw [hp]; exact h2
        · exact h1 p hp⟩
      have hgx := hq G _ (allR_of ok hil hs e7 e6)
      show bif t2 then MP _ _ _ _ _ else MP _ _ _ _ _
      rw [hv, hbv]
      cases t2 with
      | true => rw [ht rfl] at hgood; exact key _ hgood hgx
      | false => exact key _ (fun p hp => by
          cases t with
          | true => exact Dat.mono _ _ _ (Cx.J_true_le hs false) (hgood p hp)
          | false => exact hgood p hp) hgx
/-- an element of the map of entry r -/
def lk (r : Nat) (tt kt et : TypeId) (t a ok : Bool) (m : List (κ × α)) (b : Gh → Nat) (k : κ) (x : α) (hx : x = (mlook k m).getD default) (is : Bool) (his : is = (mlook k m).isSome) (nest : Bool) : Hint P where
  d := { val := fun _ => lkV a ok (Dat.cells x) is, rds := [r], facts := fun _ => bif nest then [gf t x] else [] }
  τ := Option (TypeId × Value × Value × Bool) × Option (TypeId × TypeId) × Option TypeDesc × Option LE × Result Value
  lhs c i G _ w := (c.R.mlk G i, mapOf P tt, P.underlying kt, c.leAt i r G, (zeroValue et).run P w)
  rhs _ _ G _ w := (some (tt, .map (some (b G)), MKey.enc k, ok), some (kt, et), some (MKey.desc κ), some (mp t a m (b G)), .ok (aggV a (Dat.cells (default : α))) w)
  sound c i ok' hil hi h0 := fun o ho G w hs => by
    have h1 := h0 G {} w
    simp only [Prod.mk.injEq] at h1
    obtain ⟨e1, e2, e3, e4, e5⟩ := h1
    obtain ⟨en, a1, a2, a3⟩ := Cx.own_at ok' hil hs e4 (by rw [Cx.c_of hi]; simp [HintD.cert])
    obtain ⟨⟨ob, rfl, hob⟩, hgood⟩ := mp_at a2
    have hb := a3 (b G) ob rfl
    have hr := lk_run (P := P) (w := w) (k := k) (ok := ok) (map_of e2) e3 hob hb e5
    have hval : (if ok then .tuple #[((mlook k m).map fun x : α => aggV a (Dat.cells x)).getD (aggV a (Dat.cells (default : α))), .bool (mlook k m).isSome] else ((mlook k m).map fun x : α => aggV a (Dat.cells x)).getD (aggV a (Dat.cells (default : α)))) = lkV a ok (Dat.cells x) is := by
      unfold lkV
      rw [hx, his]
      cases mlook k m <;> cases ok <;> rfl
    rw [hval] at hr
    have hrun : (execOp (c.R.evalAt G i) o).run P w = .ok (.value (lkV a ok (Dat.cells x) is)) w := by
      unfold RC.mlk at e1
      rw [ho] at e1
      obtain ⟨dst, op, type, pos, after, guard⟩ := o
      cases op <;> simp only [Option.map_some] at e1 <;> first | cases e1 | skip
      case lookup t' m' k' ok2 =>
        simp only [Option.some.injEq, Prod.mk.injEq] at e1
        obtain ⟨rfl, h1, h2, rfl⟩ := e1
        simp [execOp, h1, h2, hr]
    unfold Does
    rw [hrun]
    obtain ⟨a4, a5, _⟩ := ahead ok' hil hs (g := {}) no_H
    have hgx : ∀ H, (∀ p ∈ m, Dat.good H p.2) → Dat.good H x := fun H hH => by
      rw [hx]
      cases hl : mlook k m with
      | none => exact Dat.zero H
      | some y => exact hH _ (mlook_mem hl)
    refine ⟨{}, left_grow ok' hil hi hs rfl (Base.refl _ _) (fun b o h => by cases h) no_H (fun f hf' => ?_) trivial ?_⟩
    · cases nest with
      | false => cases hf'
      | true =>
        have hf' : f = gf t x := by simpa using hf'
        subst hf'
        show bif t then _ else _
        cases t
        · exact Dat.mono _ _ _ a5 (hgx _ hgood)
        · exact Dat.mono _ _ _ a4 (hgx _ hgood)
    · rw [Cx.valOf hi]
/-- how many the map of entry r has -/
def ml (r : Nat) (tt kt et : TypeId) (t a : Bool) (m : List (κ × α)) (b : Gh → Nat) : Hint P where
  d := { val := fun _ => .int .i64 (m.length : Int), rds := [r] }
  τ := Option (TypeId × Value) × Option (TypeId × TypeId) × Option LE
  lhs c i G _ _ := (c.R.mln G i, mapOf P tt, c.leAt i r G)
  rhs _ _ G _ _ := (some (tt, .map (some (b G))), some (kt, et), some (mp t a m (b G)))
  sound c i ok' hil hi h0 := fun o ho G w hs => by
    have h1 := h0 G {} w
    simp only [Prod.mk.injEq] at h1
    obtain ⟨e1, e2, e4⟩ := h1
    obtain ⟨en, a1, a2, a3⟩ := Cx.own_at ok' hil hs e4 (by rw [Cx.c_of hi]; simp [HintD.cert])
    obtain ⟨⟨ob, rfl, hob⟩, hgood⟩ := mp_at a2
    have hb := a3 (b G) ob rfl
    refine Cx.still hi rfl (fun _ => ⟨rfl, rfl⟩) ho (x := .int .i64 (m.length : Int)) ?_ (by rw [Cx.valOf hi])
    unfold RC.mln at e1
    rw [ho] at e1
    obtain ⟨dst, op, type, pos, after, guard⟩ := o
    simp only [Option.map_some] at e1
    split at e1
    · rename_i args argTypes heq
      simp only [Option.some.injEq] at heq
      subst heq
      split at e1
      · rename_i x t' hx ht
        simp only [Option.some.injEq, Prod.mk.injEq] at e1
        obtain ⟨rfl, hv⟩ := e1
        obtain ⟨l, rfl⟩ : ∃ l : List Operand, args = l.toArray := ⟨args.toList, by simp⟩
        obtain ⟨l2, rfl⟩ : ∃ l : List TypeId, argTypes = l.toArray := ⟨argTypes.toList, by simp⟩
        simp only at hx ht
        subst hx ht
        simp [execOp, resolve, invoke, builtin, hv, ml_run (P := P) (w := w) (ty := type) (map_of e2) hob hb]
      · cases e1
    · cases e1
end Hint
/-- a map whose values need no memory -/
theorem V.trm {P : Program} {E : Env P} {S : Stop} {t : St} {κ α : Type} [DecidableEq κ] [MKey κ] [Dat α] (a : Bool) (m : List (κ × α)) (b : Nat) (r : Nat) (hr : t.L[r]? = some (mp false a m b)) (hg : ∀ (H : Heaplet) (x : α), Dat.good H x) (k : V E S ⟨t.sl, t.F, t.L.set r (mp true a m b)⟩) : V E S t := fun N ε ac w hin => by
  have hlt : r < t.L.length := (List.getElem?_eq_some_iff.1 hr).1
  have hents : ents (t.L.set r (mp true a m b)) ε = ents t.L ε := by
    refine List.ext_getElem? fun j => ?_
    rw [ents_get, ents_get, List.getElem?_set]
    by_cases e : r = j
    · subst e; rw [if_pos rfl, if_pos hlt, hr]; rfl
    · rw [if_neg e]
  refine k N ε ac w ⟨hin.slots, by rw [hents]; exact hin.st, hin.new, hin.facts, fun j y hy => ?_⟩
  rw [List.getElem?_set] at hy
  by_cases e : r = j
  · subst e
    rw [if_pos rfl, if_pos hlt] at hy
    cases hy
    have := hin.own r _ hr
    exact ⟨(this : MP a m b _ _).1, fun p _ => hg _ _⟩
  · rw [if_neg e] at hy
    exact hin.own j y hy
end Kb
