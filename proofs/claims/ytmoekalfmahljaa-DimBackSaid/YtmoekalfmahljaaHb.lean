/- The words themselves: one for each kind of operation, with the proof that the operation does what its word says. No program in sight. -/
import Derived.Test.YtmoekalfmahljaaHa
set_option linter.unusedVariables false
set_option linter.unusedSectionVars false
set_option linter.unusedSimpArgs false
namespace Kb
open Go

/-! ### guards -/
structure GdI (g : Prop) where
  B : Option Bool
  ok : (∀ b, B = some b → b = true) → g
def g0 : GdI True := ⟨none, fun _ => trivial⟩
def gT {b : Bool} {φ : Prop} (h : b = true ↔ φ) : GdI φ := ⟨some (true && (b == true)), fun k => h.1 (by simpa using k _ rfl)⟩
def gF {b : Bool} {φ : Prop} (h : b = false ↔ φ) : GdI φ := ⟨some (true && (b == false)), fun k => h.1 (by simpa using k _ rfl)⟩
def GdI.T {g : Prop} (o : GdI g) {b : Bool} {φ : Prop} (h : b = true ↔ φ) : GdI (g ∧ φ) := ⟨some (o.B.getD true && (b == true)), fun k => by
  have := k _ rfl
  rw [Bool.and_eq_true] at this
  exact ⟨o.ok fun b' hb => by rw [hb] at this; exact this.1, h.1 (by simpa using this.2)⟩⟩
def GdI.F {g : Prop} (o : GdI g) {b : Bool} {φ : Prop} (h : b = false ↔ φ) : GdI (g ∧ φ) := ⟨some (o.B.getD true && (b == false)), fun k => by
  have := k _ rfl
  rw [Bool.and_eq_true] at this
  exact ⟨o.ok fun b' hb => by rw [hb] at this; exact this.1, h.1 (by simpa using this.2)⟩⟩

structure Hint (P : Program) where
  d : HintD
  τ : Type
  lhs : Cx P → Nat → Gh → Rec → World → τ
  rhs : Cx P → Nat → Gh → Rec → World → τ
  sound : ∀ (c : Cx P) (i : Nat), c.Ok → i < c.ops.size → c.hs[i]? = some d → (∀ G g w, lhs c i G g w = rhs c i G g w) → One c.R P c.w0 c.X i

section
variable {P : Program} {c : Cx P} {i : Nat} {h : HintD} {G : Gh} {w : World}
theorem Cx.upsOf (hi : c.hs[i]? = some h) : c.R.ups i = h.news.map fun q => (q.1, fun G => (q.2.1 (c.R.vis i G)).ent (q.2.2 (c.R.vis i G))) := by
  unfold RC.ups; rw [Cx.c_of hi]; simp [HintD.cert]
theorem Cx.valOf (hi : c.hs[i]? = some h) : c.R.val i G = h.val (c.R.vis i G) := by
  unfold RC.val; rw [Cx.c_of hi]; rfl
theorem Cx.factOf (hi : c.hs[i]? = some h) (G : Gh) : c.R.fact i G = conjL ((h.facts (c.R.vis i G)).map (fun f => f.at (JV (c.R.vis i G) c.N c.ops.size) (JV (c.R.vis i G) (hun c.N c.H) c.ops.size)) ++ h.news.flatMap (fun q => (q.2.1 (c.R.vis i G)).ats (q.2.2 (c.R.vis i G)) (JV (c.R.vis i G) c.N c.ops.size) (JV (c.R.vis i G) (hun c.N c.H) c.ops.size)) ++ h.pu (c.R.vis i G)) := by
  unfold RC.fact; rw [Cx.c_of hi]; rfl
theorem Cx.vis_self (g : Rec) : c.R.vis i (RC.put G i g) i = g := by simp [RC.vis, RC.put]
theorem Cx.gdOk {g : Prop} (Γ : GdI g) (hs : c.R.Sees c.w0 c.X G i w) (h : (Γ.B.map fun _ => c.R.gd G i) = Γ.B) : g := Γ.ok fun b hb => by
  rw [hb] at h
  simp only [Option.map_some, Option.some.injEq] at h
  rw [← h]; exact hs.gd
theorem Cx.gdGet {B : Option Bool} (hs : c.R.Sees c.w0 c.X G i w) (h : (B.map fun _ => c.R.gd G i) = B) : B.getD true = true := by
  cases B with
  | none => rfl
  | some b =>
    simp only [Option.map_some, Option.some.injEq] at h
    rw [← h]; exact hs.gd
/-- an operation that leaves all as it was -/
theorem Cx.still (hi : c.hs[i]? = some h) (hn : h.news = []) (hp : ∀ G, h.facts G = [] ∧ h.pu G = []) {o : Oper} {x : Value} (ho : c.R.ops[i]? = some o) (he : (execOp (c.R.evalAt G i) o).run P w = .ok (.value x) w) (hv : c.R.val i (RC.put G i {}) = x) :
    Does P (c.R.evalAt G i) o w fun v w' => ∃ g, c.R.Left w w' G i g v := by
  unfold Does
  rw [he, ← hv]
  refine ⟨{}, RC.Left.pure ?_ ?_⟩
  · rw [Cx.upsOf hi, hn]; rfl
  · rw [Cx.factOf hi, hn, (hp _).1, (hp _).2]; trivial
theorem Cx.plain (hi : c.hs[i]? = some h) (hn : h.news = []) (hp : ∀ G, h.facts G = [] ∧ h.pu G = []) (G : Gh) : ((c.R.ups i).map (·.1), c.R.fact i G) = ([], True) := by
  rw [Cx.upsOf hi, Cx.factOf hi, hn, (hp _).1, (hp _).2]; rfl
end
namespace Hint
variable {P : Program}
/-- it computes x -/
def v (x : Gh → Value) : Hint P where
  d := { val := x }
  τ := Option (Result Next) × Value
  lhs c i G _ w := (c.R.ex P G i w, c.R.val i (RC.put G i {}))
  rhs _ _ G _ w := (some (.ok (.value (x G)) w), x G)
  sound c i _ _ hi h := fun o ho G w hs => by
    have h0 := h G {} w
    simp only [Prod.mk.injEq, RC.ex, ho, Option.map_some, Option.some.injEq] at h0
    exact Cx.still hi rfl (fun _ => ⟨rfl, rfl⟩) ho h0.1 h0.2
def k (x : Value) : Hint P := v fun _ => x
/-- it computes x, which is y -/
def e {g : Prop} (Γ : GdI g) (x y : Value) (hxy : g → x = y) : Hint P where
  d := { val := fun _ => y }
  τ := Option (Result Next) × Value × Option Bool
  lhs c i G _ w := (c.R.ex P G i w, c.R.val i (RC.put G i {}), Γ.B.map fun _ => c.R.gd G i)
  rhs _ _ _ _ w := (some (.ok (.value x) w), y, Γ.B)
  sound c i _ _ hi h := fun o ho G w hs => by
    have h0 := h G {} w
    simp only [Prod.mk.injEq, RC.ex, ho, Option.map_some, Option.some.injEq] at h0
    exact Cx.still hi rfl (fun _ => ⟨rfl, rfl⟩) ho h0.1 (by rw [h0.2.1, hxy (Cx.gdOk Γ hs h0.2.2)])
/-- numbers -/
def arg {g : Prop} (Γ : GdI g) (t n : Int) (hn : n = t) (h : g → -9223372036854775808 ≤ n ∧ n ≤ 9223372036854775807) : Hint P := e Γ (.int .i64 (IntKind.i64.wrap t)) (.int .i64 n) fun hg => by
  obtain ⟨lo, hi⟩ := h hg
  subst hn; congr 1; rw [IntKind.wrap_i64]; omega
def ar (t n : Int) (hn : n = t) (lo : -9223372036854775808 ≤ n) (hi : n ≤ 9223372036854775807) : Hint P := arg g0 t n hn fun _ => ⟨lo, hi⟩
def bo (t b : Bool) (hb : t = b) : Hint P := e g0 (.bool t) (.bool b) fun _ => by rw [hb]
def quo {g : Prop} (Γ : GdI g) (x y n : Int) (hn : n = x / y) (h : g → 0 ≤ x ∧ 0 < y) (hi : g → n ≤ 9223372036854775807) : Hint P := e Γ (.int .i64 (IntKind.i64.wrap (x.tdiv y))) (.int .i64 n) fun hg => by
  obtain ⟨h0, h1⟩ := h hg
  have h2 := hi hg
  have h3 : 0 ≤ x / y := Int.ediv_nonneg h0 (by omega)
  rw [Int.tdiv_eq_ediv_of_nonneg h0, ← hn]
  congr 1; rw [IntKind.wrap_i64]; omega
def rem {g : Prop} (Γ : GdI g) (x y n : Int) (hn : n = x % y) (h : g → 0 ≤ x) : Hint P := e Γ (.int .i64 (x.tmod y)) (.int .i64 n) fun hg => by
  rw [Int.tmod_eq_emod_of_nonneg (h hg), ← hn]
/-! ### && and || -/
end Hint
def RC.pkr (R : RC) (G : Gh) (i : Nat) : Option (Value × Value × Value) := match (R.ops[i]?).map (fun o : Oper => o.op) with
  | some (.pick c a b) => some (R.evalAt G i c, R.evalAt G i a, R.evalAt G i b)
  | _ => none
theorem pick_run {P : Program} {R : RC} {G : Gh} {i : Nat} {w : World} {o : Oper} {b : Bool} {x y : Value} (ho : R.ops[i]? = some o) (h : R.pkr G i = some (.bool b, x, y)) : (execOp (R.evalAt G i) o).run P w = .ok (.value (if b then x else y)) w := by
  unfold RC.pkr at h
  rw [ho] at h
  obtain ⟨dst, op, type, pos, after, guard⟩ := o
  cases op <;> simp only [Option.map_some] at h <;> first | cases h | skip
  case pick c x' y' =>
    simp only [Option.some.injEq, Prod.mk.injEq] at h
    obtain ⟨h1, h2, h3⟩ := h
    simp [execOp, h1, h2, h3, asBool]
namespace Hint
variable {P : Program}
/-- b1 && b2; u: the second one stands under no guard of its own -/
def and {g : Prop} (Γ : GdI g) (u : Bool) (b1 b2 : Bool) : Hint P where
  d := { val := fun _ => .bool (b1 && b2) }
  τ := Option (Value × Value × Value) × Value × Option Bool
  lhs c i G _ _ := (c.R.pkr G i, c.R.val i (RC.put G i {}), Γ.B.map fun _ => c.R.gd G i)
  rhs _ _ _ _ _ := (some (.bool b1, (bif u then .bool b2 else bif (Γ.B.getD true && (b1 == true)) then .bool b2 else undef), .bool false), .bool (b1 && b2), Γ.B)
  sound c i _ _ hi h := fun o ho G w hs => by
    have h0 := h G {} w
    simp only [Prod.mk.injEq] at h0
    obtain ⟨h1, h2, h3⟩ := h0
    have hb := Cx.gdGet hs h3
    refine Cx.still hi rfl (fun _ => ⟨rfl, rfl⟩) ho (pick_run ho h1) ?_
    rw [h2, hb]
    cases b1 <;> cases u <;> rfl
def or {g : Prop} (Γ : GdI g) (u : Bool) (b1 b2 : Bool) : Hint P where
  d := { val := fun _ => .bool (b1 || b2) }
  τ := Option (Value × Value × Value) × Value × Option Bool
  lhs c i G _ _ := (c.R.pkr G i, c.R.val i (RC.put G i {}), Γ.B.map fun _ => c.R.gd G i)
  rhs _ _ _ _ _ := (some (.bool b1, .bool true, (bif u then .bool b2 else bif (Γ.B.getD true && (b1 == false)) then .bool b2 else undef)), .bool (b1 || b2), Γ.B)
  sound c i _ _ hi h := fun o ho G w hs => by
    have h0 := h G {} w
    simp only [Prod.mk.injEq] at h0
    obtain ⟨h1, h2, h3⟩ := h0
    have hb := Cx.gdGet hs h3
    refine Cx.still hi rfl (fun _ => ⟨rfl, rfl⟩) ho (pick_run ho h1) ?_
    rw [h2, hb]
    cases b1 <;> cases u <;> rfl
end Hint

/-! ### what can be read, where an operation finds it -/
inductive Src where
  /-- nothing needs to be known -/
  | n
  /-- known ahead of the region -/
  | f (k : Nat)
  /-- left by operation j -/
  | g (j k : Nat)
  /-- entry r, the call's own -/
  | o (r : Nat)
def LE.own? : LE → Option (Bool × (Ent → Heaplet → Prop))
  | .own t p _ _ _ => some (t, p)
  | _ => none
section
variable {P : Program} (c : Cx P)
/-- entry r as operation i finds it -/
def Cx.leAt (i r : Nat) (G : Gh) : Option LE := match lastW (c.R.wrE r) i with
  | some k => (c.hs[k]?).bind fun h => (h.news.find? fun q => q.1 == r).map fun q => q.2.1 (c.R.vis k G)
  | none => c.t.L[r]?
def Src.what (i : Nat) (G : Gh) : Src → Option (Bool × (Ent → Heaplet → Prop)) × Bool
  | .n => (some (true, fun _ _ => True), true)
  | .f k => ((c.t.F[k]?).map fun f => (f.t, fun _ => f.p), true)
  | .g j k => ((c.hs[j]?).bind fun h => ((h.facts (c.R.vis j G))[k]?).map fun f => (f.t, fun _ => f.p), c.R.bef i j && c.R.under i j)
  | .o r => ((c.leAt i r G).bind LE.own?, (c.R.c i).rds.contains r || c.R.wrE r i)
variable {c} {i : Nat} {G : Gh} {w : World}
theorem Cx.opAt (ok : c.Ok) (hi : i < c.ops.size) : ∃ o, c.R.ops[i]? = some o := ⟨c.ops[i], Array.getElem?_eq_getElem hi⟩
theorem Cx.writer (ok : c.Ok) (hi : i < c.ops.size) {r k : Nat} (hl : lastW (c.R.wrE r) i = some k) (hr : ((c.R.c i).rds.contains r || c.R.wrE r i) = true) : c.R.bef i k = true ∧ ∀ G, c.R.gd G k = true := by
  obtain ⟨o, ho⟩ := Cx.opAt ok hi
  have C := RC.chk ok.hc ho
  obtain ⟨hk, hw, _⟩ := lastW_some hl
  have hki : k < c.ops.size := by omega
  refine ⟨C.cl k hk ?_, fun G => ?_⟩
  · obtain ⟨p, _, hp, hpr⟩ := RC.wrE_find hw
    unfold RC.clash
    rw [Bool.or_eq_true] at hr
    rw [Bool.or_eq_true, Bool.or_eq_true]
    refine .inl (.inr (List.any_eq_true.2 ⟨p, hp, ?_⟩))
    rw [Bool.or_eq_true]
    rcases hr with hr | hr
    · exact .inr (by rw [hpr]; exact hr)
    · obtain ⟨q, _, hq, hqr⟩ := RC.wrE_find hr
      exact .inl (List.any_eq_true.2 ⟨q, hq, by simp [hpr, hqr]⟩)
  · obtain ⟨o', ho'⟩ := Cx.opAt ok hki
    have C' := RC.chk ok.hc ho'
    rw [RC.gd_eq ok.hc]
    cases hg : c.R.grd k with
    | none => rfl
    | some jw =>
      obtain ⟨j, want⟩ := jw
      obtain ⟨o'', ho'', hgo⟩ := RC.grd_some hg
      rw [ho'] at ho''; cases ho''
      have := (C'.grd j want hgo).2.2.1
      obtain ⟨p, _, hp, _⟩ := RC.wrE_find hw
      rw [this] at hp; cases hp
theorem Cx.own_at (ok : c.Ok) (hi : i < c.ops.size) (hs : c.R.Sees c.w0 c.X G i w) {r : Nat} {x : LE} (hx : c.leAt i r G = some x) (hr : ((c.R.c i).rds.contains r || c.R.wrE r i) = true) :
    ∃ e, c.R.entAt G i r = x.ent e ∧ x.at e (c.J i G true) (c.J i G false) ∧ EntIn w (x.ent e) := by
  have hE : EntIn w (c.R.entAt G i r) := fun b o hb => (hs.ent r hr b o hb).1
  unfold leAt at hx
  cases hl : lastW (c.R.wrE r) i with
  | none =>
    rw [hl] at hx
    have he : c.R.entAt G i r = x.ent (c.ε r) := by
      unfold RC.entAt; rw [hl]
      show ((ents c.t.L c.ε)[r]?).getD none = _
      rw [ents_get]
      have hx' : c.t.L[r]? = some x := hx
      rw [hx']; rfl
    exact ⟨c.ε r, he, LE.mono (ok.own r x hx) (Cx.J_base hs true) (Cx.J_base hs false), he ▸ hE⟩
  | some k =>
    rw [hl] at hx
    simp only [Option.bind_eq_some_iff, Option.map_eq_some_iff] at hx
    obtain ⟨h, hk, q, hq, rfl⟩ := hx
    obtain ⟨hb, hg⟩ := Cx.writer ok hi hl hr
    have hf := (Cx.opfact hs ok hi hk hb (hg G)).2.1 q (List.mem_of_find?_eq_some hq)
    have he : c.R.entAt G i r = (q.2.1 (c.R.vis k G)).ent (q.2.2 (c.R.vis k G)) := by
      unfold RC.entAt; rw [hl]
      simp only []
      unfold RC.entOf
      rw [Cx.upsOf hk, List.find?_map]
      have : (h.news.find? ((fun p : Nat × (Gh → Ent) => p.1 == r) ∘ fun q => (q.1, fun G => (q.2.1 (c.R.vis k G)).ent (q.2.2 (c.R.vis k G))))) = some q := hq
      rw [this]; rfl
    exact ⟨_, he, hf, he ▸ hE⟩
theorem Src.get (ok : c.Ok) (hi : i < c.ops.size) (hs : c.R.Sees c.w0 c.X G i w) {s : Src} {t : Bool} {p : Ent → Heaplet → Prop} (h : s.what c i G = (some (t, p), true)) : ∃ e, p e (c.J i G t) ∧ EntIn w e ∧ (∀ r, s = .o r → c.R.entAt G i r = e) ∧ ((∀ r, s ≠ .o r) → e = none) := by
  unfold Src.what at h
  cases s with
  | n =>
    simp only [Prod.mk.injEq, Option.some.injEq, and_true] at h
    obtain ⟨rfl, rfl⟩ := h
    exact ⟨none, trivial, (fun b o h => by cases h), (fun r h => by cases h), fun _ => rfl⟩
  | f k =>
    simp only [Prod.mk.injEq, Option.map_eq_some_iff, and_true] at h
    obtain ⟨f, hf, rfl, rfl⟩ := h
    refine ⟨none, ?_, (fun b o h => by cases h), (fun r h => by cases h), fun _ => rfl⟩
    have h1 := FP.mono (ok.facts f (List.mem_of_getElem? hf)) (Cx.J_base hs true) (Cx.J_base hs false)
    unfold FP.at at h1
    cases e : f.t <;> rw [e] at h1 <;> exact h1
  | g j k =>
    simp only [Prod.mk.injEq, Option.bind_eq_some_iff, Option.map_eq_some_iff, Bool.and_eq_true] at h
    obtain ⟨⟨hd, hj, f, hf, rfl, rfl⟩, hb, hu⟩ := h
    refine ⟨none, ?_, (fun b o h => by cases h), (fun r h => by cases h), fun _ => rfl⟩
    have h1 := (Cx.opfact hs ok hi hj hb (RC.under_true ok.hc G hs.gd hu)).1 f (List.mem_of_getElem? hf)
    unfold FP.at at h1
    cases e : f.t <;> rw [e] at h1 <;> exact h1
  | o r =>
    simp only [Prod.mk.injEq, Option.bind_eq_some_iff] at h
    obtain ⟨⟨x, hx, hp⟩, hr⟩ := h
    cases x with
    | own t' p' m q' hq' =>
      simp only [LE.own?, Option.some.injEq, Prod.mk.injEq] at hp
      obtain ⟨rfl, rfl⟩ := hp
      obtain ⟨e, he, ha, hE⟩ := Cx.own_at ok hi hs hx hr
      refine ⟨e, ?_, hE, (fun r' h => by cases h; exact he), fun h => absurd rfl (h r)⟩
      unfold LE.at at ha
      cases t' <;> exact ha
    | _ => simp [LE.own?] at hp
end
/-- a slice that can be read: its list, where it lies, whence that is known; f: known as a fact, not as an entry -/
structure Kw (α : Type) [Dat α] (l : List α) (s : Gh → SV) where
  src : Src
  t : Bool
  f : Bool
  p : Gh → Ent → Heaplet → Prop
  rd : ∀ G e H U, p G e H → Sub H U → Sub (entH e) U → RSl U l (s G).v
  gd : ∀ G e H, p G e H → ∀ x ∈ l, Dat.good H x
  rj : f = true → ∀ G e H, p G e H → RSl H l (s G).v
section
variable {α : Type} [Dat α] {l : List α} {s : Gh → SV}
/-- known as a fact -/
def kf (t : Bool) (src : Src) (l : List α) (s : Gh → SV) : Kw α l s := ⟨src, t, true, fun G _ H => RSl H l (s G).v, fun _ _ _ _ h k _ => h.mono k, fun _ _ _ h => h.good, fun _ _ _ _ h => h⟩
/-- an entry -/
def ko (t : Bool) (E : TypeId) (r : Nat) (l : List α) (s : Gh → SV) : Kw α l s := ⟨.o r, t, false, fun G e H => OSl E H l (s G).v e, fun _ _ _ _ h k he =>
  ⟨h.sl.toH.mono he, fun x hx => Dat.mono _ _ x k (h.good x hx)⟩, fun _ _ _ h => h.good, fun h => by cases h⟩
/-- inside a datum that is good -/
def kx {β : Type} [Dat β] (t : Bool) (src : Src) (x : β) (l : List α) (s : Gh → SV) (pr : ∀ G H, Dat.good H x → RSl H l (s G).v) : Kw α l s := ⟨src, t, true, fun _ _ H => Dat.good H x, fun G _ H _ h k _ => (pr G H h).mono k, fun G _ H h => (pr G H h).good, fun _ G _ H h => pr G H h⟩
def knil : Kw α [] (fun _ => {}) := ⟨.n, true, true, fun _ _ _ => True, fun _ _ _ _ _ _ _ => RSl.nil, (fun _ _ _ _ x hx => by cases hx), fun _ _ _ _ _ => RSl.nil⟩
variable {P : Program}
def Kw.v (_ : Kw α l s) (G : Gh) : Value := (s G).v
def Kw.lhs (κ : Kw α l s) (c : Cx P) (i : Nat) (G : Gh) : Option (Bool × (Ent → Heaplet → Prop)) × Bool := κ.src.what c i G
def Kw.rhs (κ : Kw α l s) (G : Gh) : Option (Bool × (Ent → Heaplet → Prop)) × Bool := (some (κ.t, κ.p G), true)
theorem Kw.read {c : Cx P} {i : Nat} {G : Gh} {w : World} (κ : Kw α l s) (ok : c.Ok) (hi : i < c.ops.size) (hs : c.R.Sees c.w0 c.X G i w) (h : κ.lhs c i G = κ.rhs G) : RSl (whole w) l (κ.v G) := by
  obtain ⟨e, h1, h2, _⟩ := Src.get ok hi hs h
  exact κ.rd G e _ _ h1 (Cx.J_le hs κ.t) (entH_agrees h2)
def Kw.rdr (κ : Kw α l s) : List Nat := match κ.src with
  | .o r => [r]
  | _ => []
end
/-- such a slice, whatever its type -/
structure Kv where
  α : Type
  d : Dat α
  l : List α
  s : Gh → SV
  κ : Kw α l s
def Kw.a {α : Type} [d : Dat α] {l : List α} {s : Gh → SV} (κ : Kw α l s) : Kv := ⟨α, d, l, s, κ⟩
instance (q : Kv) : Dat q.α := q.d
/-- it can be read in H -/
def Kv.at (q : Kv) (G : Gh) (H : Heaplet) : Prop := RSl H q.l ((q.s G).v)
end Kb
