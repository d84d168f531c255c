/- Rules for code and for single operations, over the any-order rule. No program in sight. -/
import Derived.Test.YtmoekalfmahljaaKa
import Derived.Laws.Cells
import Derived.Laws.World
import Derived.KernelRfl
import Derived.Laws.Small
set_option linter.unusedVariables false
set_option linter.unusedSectionVars false
set_option linter.unusedSimpArgs false
namespace Kb
open Go

/-! ### code by its place -/
def Code.l : Code → Code
  | .seq x _ => x
  | .cond _ x _ => x
  | .block _ x => x
  | .loop x => x
  | c => c
def Code.r : Code → Code
  | .seq _ y => y
  | .cond _ _ y => y
  | c => c
def Code.ops : Code → Array Oper
  | .region _ ops _ => ops
  | _ => #[]
def Code.rid : Code → Nat
  | .region id _ _ => id
  | .block id _ => id
  | .exit id => id
  | _ => 0
def Code.draw : Code → Bool
  | .region _ _ d => d
  | _ => false
def Code.cnd : Code → Operand
  | .cond c _ _ => c
  | _ => .const undef
def Code.find (id : Nat) : Code → Option (Array Oper)
  | .region i ops _ => if i = id then some ops else none
  | .seq x y => match Code.find id x with | some o => some o | none => Code.find id y
  | .cond _ x y => match Code.find id x with | some o => some o | none => Code.find id y
  | .block _ x => Code.find id x
  | .loop x => Code.find id x
  | _ => none
def opsAt (f : Func) (id : Nat) : Array Oper := match f.body with
  | some c => (Code.find id c).getD #[]
  | none => #[]
def body (f : Func) : Code := f.body.getD .skip

abbrev Slots := List (Nat × Value)
def evalL (sl : Slots) : Operand → Value
  | .tmp t => (sl.lookup t).getD undef
  | .const v => v
  | .global g => .pointer (some ⟨g, 0, none⟩)
  | .func f => .func (.func f) #[] #[]

section
variable {P : Program} {nt : Nat} {w0 : World} {X : List Nat} {Q : Exit → Act → World → Prop} {c : Code} {sl sl' : Slots} {A A' : List Heaplet} {L L' : List Ent}

/-- from every frame that bears these slots, in every world of this shape -/
def W (P : Program) (nt : Nat) (w0 : World) (X : List Nat) (c : Code) (Q : Exit → Act → World → Prop) (sl : Slots) (A : List Heaplet) (L : List Ent) : Prop :=
  ∀ a w, SlotsOK nt sl a → StW w0 X A L w → c.wp P Q a w
/-- what is asked at an exit -/
def At (nt : Nat) (w0 : World) (X : List Nat) (Q : Exit → Act → World → Prop) (e : Exit) (sl : Slots) (A : List Heaplet) (L : List Ent) : Prop :=
  ∀ a w, SlotsOK nt sl a → StW w0 X A L w → Q e a w

theorem W.conv (h : W P nt w0 X c Q sl A L) (h1 : sl = sl') (h2 : A = A') (h3 : L = L') : W P nt w0 X c Q sl' A' L' := by
  subst h1 h2 h3; exact h
theorem W.skip (hc : c = .skip) (h : At nt w0 X Q .normal sl A L) : W P nt w0 X c Q sl A L := fun a w hs hw => hc ▸ wp_skip (h a w hs hw)
theorem W.ret (hc : c = .ret) (h : At nt w0 X Q .ret sl A L) : W P nt w0 X c Q sl A L := fun a w hs hw => hc ▸ wp_ret (h a w hs hw)
theorem W.exit (id : Nat) (hc : c = .exit id) (h : At nt w0 X Q (.exit id) sl A L) : W P nt w0 X c Q sl A L := fun a w hs hw => hc ▸ wp_exit (h a w hs hw)
theorem W.seq (hc : c = .seq (Code.l c) (Code.r c)) (h : W P nt w0 X (Code.l c) (Exit.then (fun a w => (Code.r c).wp P Q a w) Q) sl A L) : W P nt w0 X c Q sl A L := fun a w hs hw => by
  rw [hc]; exact wp_seq (h a w hs hw)
theorem At.then (h : W P nt w0 X c Q sl A L) {Q' : Exit → Act → World → Prop} : At nt w0 X (Exit.then (fun a w => c.wp P Q a w) Q') .normal sl A L := h
theorem At.thenRet {K : Act → World → Prop} (h : At nt w0 X Q .ret sl A L) : At nt w0 X (Exit.then K Q) .ret sl A L := h
theorem At.thenExit {K : Act → World → Prop} {i : Nat} (h : At nt w0 X Q (.exit i) sl A L) : At nt w0 X (Exit.then K Q) (.exit i) sl A L := h
theorem At.blockRet {id : Nat} (h : At nt w0 X Q .ret sl A L) : At nt w0 X (Exit.inBlock id Q) .ret sl A L := h
theorem At.blockNormal {id : Nat} (h : At nt w0 X Q .normal sl A L) : At nt w0 X (Exit.inBlock id Q) .normal sl A L := h
theorem At.blockHit {id : Nat} (h : At nt w0 X Q .normal sl A L) : At nt w0 X (Exit.inBlock id Q) (.exit id) sl A L := fun a w hs hw => by
  show if id = id then _ else _
  rw [if_pos rfl]; exact h a w hs hw
theorem At.blockMiss {id i : Nat} (hne : i ≠ id) (h : At nt w0 X Q (.exit i) sl A L) : At nt w0 X (Exit.inBlock id Q) (.exit i) sl A L := fun a w hs hw => by
  show if i = id then _ else _
  rw [if_neg hne]; exact h a w hs hw
theorem W.block (id : Nat) (hc : c = .block id (Code.l c)) (h : W P nt w0 X (Code.l c) (Exit.inBlock id Q) sl A L) : W P nt w0 X c Q sl A L := fun a w hs hw => by
  rw [hc]; exact wp_block (h a w hs hw)
theorem W.cond (p : Bool) (hc : c = .cond (Code.cnd c) (Code.l c) (Code.r c)) (hp : ∀ a, SlotsOK nt sl a → a.eval (Code.cnd c) = .bool p)
    (ht : p = true → W P nt w0 X (Code.l c) Q sl A L) (hf : p = false → W P nt w0 X (Code.r c) Q sl A L) : W P nt w0 X c Q sl A L := fun a w hs hw => by
  rw [hc]; exact wp_cond_split (hp a hs) (fun h => ht h a w hs hw) (fun h => hf h a w hs hw)
theorem cnd_of {a : Act} {t : Nat} {v : Value} (h : sl.lookup t = some v) {x : Operand} (hx : x = .tmp t) (hs : SlotsOK nt sl a) : a.eval x = v := by
  subst hx
  have := hs.slot t v h
  simp [Act.eval, Array.getD_eq_getD_getElem?, this]

/-- a loop, with a ghost that carries the measure -/
theorem W.loop {γ : Type} (I : γ → Act → World → Prop) (μ : γ → Nat) (g : γ) (hc : c = .loop (Code.l c)) (h0 : ∀ a w, SlotsOK nt sl a → StW w0 X A L w → I g a w)
    (round : ∀ g a w, I g a w → (Code.l c).wp P (Exit.then (fun a' w' => ∃ g', I g' a' w' ∧ μ g' < μ g) Q) a w) : W P nt w0 X c Q sl A L := fun a w hs hw => by
  rw [hc]
  classical
  -- the least measure of a ghost that fits
  let S : Act → World → Nat → Prop := fun a w n => ∃ g, I g a w ∧ μ g = n
  have least : ∀ a w, (∃ n, S a w n) → ∃ n, S a w n ∧ ∀ m, S a w m → n ≤ m := fun a w ⟨n, hn⟩ => by
    induction n using Nat.strongRecOn with
    | _ n ih =>
      by_cases h : ∃ m, m < n ∧ S a w m
      · obtain ⟨m, hm, hS⟩ := h
        exact ih m hm hS
      · exact ⟨n, hn, fun m hm => Nat.le_of_not_lt fun hlt => h ⟨m, hlt, hm⟩⟩
  let M : Act → World → Nat := fun a w => if h : ∃ n, S a w n then Classical.choose (least a w h) else 0
  refine wp_loop (fun a w => ∃ g, I g a w) M ⟨g, h0 a w hs hw⟩ fun a w ⟨g, hg⟩ => ?_
  have hex : ∃ n, S a w n := ⟨μ g, g, hg, rfl⟩
  have hM : M a w = Classical.choose (least a w hex) := dif_pos hex
  obtain ⟨⟨g1, hg1, hm1⟩, _⟩ := Classical.choose_spec (least a w hex)
  refine Go.wp_mono (round g1 a w hg1) fun e a' w' hq => ?_
  cases e with
  | normal =>
    obtain ⟨g2, hg2, hlt⟩ := hq
    refine ⟨⟨g2, hg2⟩, ?_⟩
    have hex2 : ∃ n, S a' w' n := ⟨μ g2, g2, hg2, rfl⟩
    have hM2 : M a' w' = Classical.choose (least a' w' hex2) := dif_pos hex2
    have := (Classical.choose_spec (least a' w' hex2)).2 (μ g2) ⟨g2, hg2, rfl⟩
    rw [hM2, hM, ← hm1]
    omega
  | _ => exact hq

/-- the loop, said of shapes: ghosts g, what is known of them, slots, memory -/
def Shape (nt : Nat) (w0 : World) (X : List Nat) (sl : Slots) (A : List Heaplet) (L : List Ent) (F : Prop) (a : Act) (w : World) : Prop :=
  SlotsOK nt sl a ∧ StW w0 X A L w ∧ F
theorem W.loopS {γ : Type} (slG : γ → Slots) (AG : γ → List Heaplet) (LG : γ → List Ent) (F : γ → Prop) (μ : γ → Nat) (g : γ) (hc : c = .loop (Code.l c))
    (h0 : ∀ a w, SlotsOK nt sl a → StW w0 X A L w → Shape nt w0 X (slG g) (AG g) (LG g) (F g) a w)
    (round : ∀ g, F g → W P nt w0 X (Code.l c) (Exit.then (fun a' w' => ∃ g', Shape nt w0 X (slG g') (AG g') (LG g') (F g') a' w' ∧ μ g' < μ g) Q) (slG g) (AG g) (LG g)) : W P nt w0 X c Q sl A L :=
  W.loop (fun g a w => Shape nt w0 X (slG g) (AG g) (LG g) (F g) a w) μ g hc h0 fun g a w ⟨h1, h2, h3⟩ => round g h3 a w h1 h2
theorem SlotsOK.sub {a : Act} (hs : SlotsOK nt sl a) (h : (sl'.map fun p => sl.lookup p.1) = sl'.map fun p => some p.2) : SlotsOK nt sl' a := by
  refine ⟨hs.defers, hs.size, fun s v hv => hs.slot s v ?_⟩
  induction sl' with
  | nil => cases hv
  | cons p l ih =>
    obtain ⟨t, u⟩ := p
    simp only [List.map_cons, List.cons.injEq] at h
    simp only [List.lookup_cons] at hv
    by_cases e : s = t
    · subst e; simp at hv; subst hv; exact h.1
    · have e' : (s == t) = false := by simpa using e
      rw [e'] at hv
      exact ih h.2 hv
theorem StW.drop {w : World} (hw : StW w0 X A L w) (h2 : ∀ H ∈ A', H ∈ A) (h3 : ∀ (r : Nat) (e : Nat × Obj), L'[r]? = some (some e) → L[r]? = some (some e)) : StW w0 X A' L' w :=
  ⟨hw.base, fun H hH => hw.agr H (h2 H hH), fun r b o he => by
    obtain ⟨a1, a2, a3⟩ := hw.ent r b o (h3 r _ he)
    exact ⟨a1, a2, fun H hH => a3 H (h2 H hH)⟩, fun r r' b o o' he he' => hw.dis r r' b o o' (h3 r _ he) (h3 r' _ he')⟩
theorem At.weaken {e : Exit} (h : At nt w0 X Q e sl' A' L') (h1 : ∀ s v, sl'.lookup s = some v → sl.lookup s = some v) (h2 : ∀ H ∈ A', H ∈ A) (h3 : ∀ (r : Nat) (e : Nat × Obj), L'[r]? = some (some e) → L[r]? = some (some e)) : At nt w0 X Q e sl A L := fun a w hs hw =>
  h a w ⟨hs.defers, hs.size, fun s v hv => hs.slot s v (h1 s v hv)⟩ ⟨hw.base, fun H hH => hw.agr H (h2 H hH), fun r b o he => by
    obtain ⟨a1, a2, a3⟩ := hw.ent r b o (h3 r _ he)
    exact ⟨a1, a2, fun H hH => a3 H (h2 H hH)⟩, fun r r' b o o' he he' => hw.dis r r' b o o' (h3 r _ he) (h3 r' _ he')⟩
theorem W.weaken (h : W P nt w0 X c Q sl' A' L') (h1 : ∀ s v, sl'.lookup s = some v → sl.lookup s = some v) (h2 : ∀ H ∈ A', H ∈ A) (h3 : ∀ (r : Nat) (e : Nat × Obj), L'[r]? = some (some e) → L[r]? = some (some e)) : W P nt w0 X c Q sl A L := fun a w hs hw =>
  h a w ⟨hs.defers, hs.size, fun s v hv => hs.slot s v (h1 s v hv)⟩ ⟨hw.base, fun H hH => hw.agr H (h2 H hH), fun r b o he => by
    obtain ⟨a1, a2, a3⟩ := hw.ent r b o (h3 r _ he)
    exact ⟨a1, a2, fun H hH => a3 H (h2 H hH)⟩, fun r r' b o o' he he' => hw.dis r r' b o o' (h3 r _ he) (h3 r' _ he')⟩

/-! ### regions -/
def AllO (p : Nat → Prop) : List Nat → Prop
  | [] => True
  | i :: is => p i ∧ AllO p is
theorem AllO.get {p : Nat → Prop} : ∀ {is}, AllO p is → ∀ j, is.contains j = true → p j
  | [], _, j, h => by cases h
  | i :: is, h, j, hj => by
    by_cases e : j = i
    · subst e; exact h.1
    · refine AllO.get h.2 j ?_
      have h1 : j = i ∨ j ∈ is := by simpa using hj
      simpa using h1.resolve_left e
/-- what an operation comes to -/
def RC.ex (R : RC) (P : Program) (G : Nat → Rec) (i : Nat) (w : World) : Option (Result Next) := (R.ops[i]?).map fun o => (execOp (R.evalAt G i) o).run P w
/-- an operation, its value, the entries that it writes, its fact -/
def RC.is (R : RC) (P : Program) (G : Nat → Rec) (w : World) (i : Nat) : Option (Result Next) × Value × List Nat × Prop := (R.ex P G i w, R.val i (RC.put G i {}), (R.ups i).map (·.1), R.fact i (RC.put G i {}))
def gives (v v' : Value) (w : World) : Option (Result Next) × Value × List Nat × Prop := (some (.ok (.value v) w), v', [], True)
/-- one certificate: the operation does what it says -/
def One (R : RC) (P : Program) (w0 : World) (X : List Nat) (i : Nat) : Prop := R.Ok P w0 X i
def RC.sure (R : RC) (nt : Nat) (ps os : List Nat) : Bool := R.check nt && (List.range R.ops.size).all fun i => ps.contains i || os.contains i
def RC.outs (R : RC) (G : Nat → Rec) (l : List Nat) : Slots := l.map fun s => (s, R.fin G s)
def RC.outA (R : RC) (G : Nat → Rec) (l : List Nat) : List Heaplet := (l.map fun i => (G i).H) ++ R.A
def RC.outL (R : RC) (G : Nat → Rec) : List Ent := (List.range R.L.length).map (R.entF G)
def RC.kept (R : RC) (outs hs : List Nat) : Bool := (outs.all fun s => (lastW (R.wrS s) R.ops.size).isSome || (R.sl.lookup s).isSome) && hs.all fun i => decide (i < R.ops.size)
theorem RC.Left.pure {R : RC} {i : Nat} {G : Nat → Rec} {w : World} (hu : R.ups i = []) (hf : R.fact i (RC.put G i {})) : R.Left w w G i {} (R.val i (RC.put G i {})) :=
  ⟨rfl, hf, Base.refl _ _, (fun b o h => by cases h), fun b h => absurd rfl h, (fun p hp => by rw [hu] at hp; cases hp), (fun p hp => by rw [hu] at hp; cases hp)⟩
theorem ups_nil {R : RC} {i : Nat} (h : (R.ups i).map (·.1) = []) : R.ups i = [] := by simpa using h
theorem is_spec {R : RC} {i : Nat} {G : Nat → Rec} {w : World} {v v' : Value} (h : R.is P G w i = gives v v' w) : R.ex P G i w = some (.ok (.value v) w) ∧ R.val i (RC.put G i {}) = v' ∧ R.ups i = [] ∧ R.fact i (RC.put G i {}) := by
  unfold RC.is gives at h
  simp only [Prod.mk.injEq] at h
  obtain ⟨h1, h2, h3, h4⟩ := h
  exact ⟨h1, h2, ups_nil h3, h4 ▸ trivial⟩
/-- the operation only computes: under what its guard and its predecessors say, it comes to v, which is another word for its value -/
theorem One.of {R : RC} {i : Nat} {v v' : Value} (h : ∀ G w, R.is P G w i = gives v v' w) (e : ∀ G w, R.Sees w0 X G i w → v = v') : One R P w0 X i := fun o ho G w hs => by
  obtain ⟨h1, h2, h3, h4⟩ := is_spec (h G w)
  unfold RC.ex at h1
  rw [ho] at h1
  simp only [Option.map_some, Option.some.injEq] at h1
  unfold Does
  rw [h1, e G w hs, ← h2]
  exact ⟨{}, RC.Left.pure h3 h4⟩
theorem One.under {R : RC} {i : Nat} (h : ∀ G w, R.Sees w0 X G i w → R.is P G w i = gives (R.val i (RC.put G i {})) (R.val i (RC.put G i {})) w) : One R P w0 X i := fun o ho G w hs => by
  obtain ⟨h1, h2, h3, h4⟩ := is_spec (h G w hs)
  unfold RC.ex at h1
  rw [ho] at h1
  simp only [Option.map_some, Option.some.injEq] at h1
  unfold Does
  rw [h1]
  exact ⟨{}, RC.Left.pure h3 h4⟩
theorem W.reg (R : RC) (ps os : List Nat) (hc : c = .region (Code.rid c) R.ops (Code.draw c)) (hm : P.follows .mixedOrders = true) (hk : R.sure nt ps os = true)
    (hp : ∀ G w, (ps.map fun i => R.is P G w i) = ps.map fun i => gives (R.val i (RC.put G i {})) (R.val i (RC.put G i {})) w)
    (all : AllO (One R P w0 X) os) (h : (R.sl, R.A, R.L) = (sl, A, L))
    (K : ∀ G a w, R.Done nt w0 X G a w → Q .normal a w) : W P nt w0 X c Q sl A L := fun a w hs hw => by
  rw [hc]
  simp only [Prod.mk.injEq] at h
  obtain ⟨h1, h2, h3⟩ := h
  subst h1 h2 h3
  unfold RC.sure at hk
  rw [Bool.and_eq_true] at hk
  refine RC.region hm hk.1 (fun i o ho => ?_) hs hw K
  have hlt := (Array.getElem?_eq_some_iff.1 ho).1
  have hcv := List.all_eq_true.1 hk.2 i (List.mem_range.2 hlt)
  by_cases hos : os.contains i = true
  · exact AllO.get all i hos o ho
  · have hps : ps.contains i = true := by
      rw [Bool.or_eq_true] at hcv
      exact hcv.resolve_right hos
    intro G w hs
    have key : ∀ l : List Nat, l.contains i = true → ((l.map fun i => R.is P G w i) = l.map fun i => gives (R.val i (RC.put G i {})) (R.val i (RC.put G i {})) w) → R.is P G w i = gives (R.val i (RC.put G i {})) (R.val i (RC.put G i {})) w := by
      intro l
      induction l with
      | nil => intro h; cases h
      | cons j l ih =>
        intro h1 h2
        simp only [List.map_cons, List.cons.injEq] at h2
        by_cases e : i = j
        · subst e; exact h2.1
        · have h3 : i = j ∨ i ∈ l := by simpa using h1
          exact ih (by simpa using h3.resolve_left e) h2.2
    obtain ⟨h1, _, h3, h4⟩ := is_spec (key ps hps (hp G w))
    unfold RC.ex at h1
    rw [ho] at h1
    simp only [Option.map_some, Option.some.injEq] at h1
    unfold Does
    rw [h1]
    exact ⟨{}, RC.Left.pure h3 h4⟩
theorem W.regV (R : RC) (ps os : List Nat) (vs : (Nat → Rec) → List Value) (hc : c = .region (Code.rid c) R.ops (Code.draw c)) (hm : P.follows .mixedOrders = true) (hk : R.sure nt ps os = true)
    (hp : ∀ G w, (ps.map fun i => R.is P G w i) = (vs G).map fun v => gives v v w)
    (all : AllO (One R P w0 X) os) (h : (R.sl, R.A, R.L) = (sl, A, L))
    (K : ∀ G a w, R.Done nt w0 X G a w → Q .normal a w) : W P nt w0 X c Q sl A L := fun a w hs hw => by
  rw [hc]
  simp only [Prod.mk.injEq] at h
  obtain ⟨h1, h2, h3⟩ := h
  subst h1 h2 h3
  unfold RC.sure at hk
  rw [Bool.and_eq_true] at hk
  refine RC.region hm hk.1 (fun i o ho => ?_) hs hw K
  have hlt := (Array.getElem?_eq_some_iff.1 ho).1
  have hcv := List.all_eq_true.1 hk.2 i (List.mem_range.2 hlt)
  by_cases hos : os.contains i = true
  · exact AllO.get all i hos o ho
  · have hps : ps.contains i = true := by
      rw [Bool.or_eq_true] at hcv
      exact hcv.resolve_right hos
    intro G w hs
    have key : ∀ (l : List Nat) (m : List Value), l.contains i = true → ((l.map fun i => R.is P G w i) = m.map fun v => gives v v w) → ∃ v, R.is P G w i = gives v v w := by
      intro l
      induction l with
      | nil => intro m h; cases h
      | cons j l ih =>
        intro m h1 h2
        cases m with
        | nil => simp at h2
        | cons v m =>
          simp only [List.map_cons, List.cons.injEq] at h2
          by_cases e : i = j
          · subst e; exact ⟨v, h2.1⟩
          · have h3 : i = j ∨ i ∈ l := by simpa using h1
            exact ih m (by simpa using h3.resolve_left e) h2.2
    obtain ⟨v, hv⟩ := key ps (vs G) hps (hp G w)
    obtain ⟨h1, h2, h3, h4⟩ := is_spec hv
    unfold RC.ex at h1
    rw [ho] at h1
    simp only [Option.map_some, Option.some.injEq] at h1
    unfold Does
    rw [h1, ← h2]
    exact ⟨{}, RC.Left.pure h3 h4⟩
/-- behind a region: what is kept -/
theorem RC.Done.to {R : RC} {G : Nat → Rec} {a : Act} {w : World} (d : R.Done nt w0 X G a w) (outs hs : List Nat) (ho : R.kept outs hs = true)
    {K : Act → World → Prop} (k : ∀ a w, SlotsOK nt (R.outs G outs) a → StW w0 X (R.outA G hs) (R.outL G) w → K a w) : K a w := by
  unfold RC.kept at ho
  rw [Bool.and_eq_true] at ho
  refine k a w (d.slots outs fun s hs => ?_) (d.st hs fun i hi => ?_)
  · have := List.all_eq_true.1 ho.1 s hs
    simpa using this
  · have := List.all_eq_true.1 ho.2 i hi
    simpa using this

/-! ### calls -/
theorem calls_of_W {f : FuncId} {fn : Func} {args : Array Value} {w : World} {R : Ending → World → Prop} (hf : P.funcs[f]? = some fn) (hb : fn.body = some (body fn)) (nt : Nat) (hnt : (args ++ Array.replicate (fn.ntmps - args.size) undef).size = nt)
    (hs : sl = args.toList.zipIdx.map fun p => (p.2, p.1)) (hA : ∀ H ∈ A, Agrees w H) (hL : ∀ e ∈ L, e = none)
    (h : W P nt w [] (body fn) (bodyPost P fn R) sl A L) : Calls P f args w R := by
  refine calls_of_wp hf hb (h _ w ⟨rfl, hnt, fun s v hv => ?_⟩ ⟨Base.refl _ _, hA, fun r b o he => ?_, fun r r' b o o' he _ => ?_⟩)
  · subst hs
    have key : ∀ (l : List Value) (k : Nat), ((l.zipIdx k).map fun p => (p.2, p.1)).lookup s = some v → k ≤ s ∧ l[s - k]? = some v := by
      intro l
      induction l with
      | nil => intro k h; cases h
      | cons x l ih =>
        intro k h
        simp only [List.zipIdx_cons, List.map_cons, List.lookup_cons] at h
        by_cases e : s = k
        · subst e; simp at h; simp [h]
        · have e' : (s == k) = false := by simpa using e
          rw [e'] at h
          obtain ⟨h1, h2⟩ := ih (k + 1) h
          refine ⟨by omega, ?_⟩
          rw [show s - k = (s - (k + 1)) + 1 from by omega]
          simpa using h2
    have := (key args.toList 0 hv).2
    simp only [Nat.sub_zero, Array.getElem?_toList] at this
    have hlt := (Array.getElem?_eq_some_iff.1 this).1
    rw [Array.getElem?_append_left hlt]; exact this
  · have := hL _ (List.mem_of_getElem? he); cases this
  · have := hL _ (List.mem_of_getElem? he); cases this
/-- the results, as slots and cells hold them -/
theorem At.results {e : Exit} {fn : Func} {R : Ending → World → Prop} (he : e = .ret ∨ e = .normal) (v : Value) (hr : ∀ a w, SlotsOK nt sl a → StW w0 X A L w → (results fn a.tmps).run P w = .ok v w)
    (h : ∀ w, StW w0 X A L w → R (.returned v) w) : At nt w0 X (bodyPost P fn R) e sl A L := fun a w hs hw => by
  rcases he with rfl | rfl
  · exact ⟨hs.defers, v, hr a w hs hw, h w hw⟩
  · exact ⟨hs.defers, v, hr a w hs hw, h w hw⟩
theorem slot_getD {a : Act} {t : Nat} {v : Value} (h : sl.lookup t = some v) (hs : SlotsOK nt sl a) : a.tmps.getD t undef = v := by
  simp [Array.getD_eq_getD_getElem?, hs.slot t v h]
def All2 {α β : Type} (p : α → β → Prop) : List α → List β → Prop
  | [], [] => True
  | a :: as, b :: bs => p a b ∧ All2 p as bs
  | _, _ => False
def resOf (tmps : Array Value) : ResultVar → Sem Value
  | .tmp t => pure (tmps.getD t undef)
  | .cell a t => do loadVar t (← asAddr (tmps.getD a undef))
theorem mapM_res {tmps : Array Value} {w : World} : ∀ {rs : List ResultVar} {vs : List Value}, All2 (fun r v => (resOf tmps r).run P w = .ok v w) rs vs → (rs.mapM (resOf tmps)).run P w = .ok vs w
  | [], [], _ => rfl
  | r :: rs, v :: vs, ⟨h, t⟩ => by
    rw [List.mapM_cons]
    simp [h, mapM_res t]
  | [], _ :: _, h => h.elim
  | _ :: _, [], h => h.elim
theorem results_many {fn : Func} {tmps : Array Value} {w : World} {rs : List ResultVar} {vs : List Value} (hf : fn.results = rs.toArray) (hl : vs.length ≠ 1)
    (h : All2 (fun r v => (resOf tmps r).run P w = .ok v w) rs vs) : (results fn tmps).run P w = .ok (.tuple vs.toArray) w := by
  have := mapM_res h
  unfold results
  rw [hf]
  simp only [List.mapM_toArray]
  change Sem.run P (do let vs ← List.toArray <$> List.mapM (resOf tmps) rs; pure (if h : vs.size = 1 then vs[0] else Value.tuple vs)) w = _
  rw [Sem.run_bind, Sem.run_map, this]
  simp [hl]
theorem results_one {fn : Func} {tmps : Array Value} {w : World} {r : ResultVar} {v : Value} (hf : fn.results = #[r]) (h : (resOf tmps r).run P w = .ok v w) : (results fn tmps).run P w = .ok v w := by
  unfold results
  rw [hf]
  cases r <;> simp_all [resOf]
theorem res_tmp {a : Act} {w : World} {t : Nat} {v : Value} (h : sl.lookup t = some v) (hs : SlotsOK nt sl a) : (resOf a.tmps (.tmp t)).run P w = .ok v w := by
  show Result.ok (a.tmps.getD t undef) w = _
  rw [slot_getD h hs]

/-! ### one operation -/
section one
variable {R : RC} {i : Nat}
theorem RC.touched_nil {G : Nat → Rec} (hu : R.ups i = []) : R.touched G i = [] := by unfold RC.touched; rw [hu]; rfl
theorem RC.Left.grow {G : Nat → Rec} {w w' : World} {g : Rec} (hu : R.ups i = []) (hf : R.fact i (RC.put G i g)) (hb : Base [] w w') (ha : Agrees w' g.H) (hfr : ∀ b, g.H b ≠ none → w.heap.size ≤ b) :
    R.Left w w' G i g (R.val i (RC.put G i g)) :=
  ⟨rfl, hf, by rw [RC.touched_nil hu]; exact hb, ha, hfr, (fun p hp => by rw [hu] at hp; cases hp), (fun p hp => by rw [hu] at hp; cases hp)⟩
/-- a number that has a name: what the kind holds is the number itself -/
theorem One.ar {n e : Int} (hn : n = e) (h : ∀ G w, R.is P G w i = gives (.int .i64 (IntKind.i64.wrap e)) (.int .i64 n) w) (hr : ∀ G w, R.Sees w0 X G i w → -9223372036854775808 ≤ n ∧ n ≤ 9223372036854775807) : One R P w0 X i :=
  One.of h fun G w hs => by
    obtain ⟨lo, hi⟩ := hr G w hs
    subst hn
    congr 1
    rw [IntKind.wrap_i64]; omega
/-- a quotient by a positive number -/
theorem One.quo {n x y : Int} (hn : n = x / y) (h : ∀ G w, R.is P G w i = gives (.int .i64 (IntKind.i64.wrap (x.tdiv y))) (.int .i64 n) w) (hr : ∀ G w, R.Sees w0 X G i w → 0 ≤ x ∧ -9223372036854775808 ≤ n ∧ n ≤ 9223372036854775807) : One R P w0 X i :=
  One.of h fun G w hs => by
    obtain ⟨h0, lo, hi⟩ := hr G w hs
    rw [Int.tdiv_eq_ediv_of_nonneg h0, ← hn]
    congr 1
    rw [IntKind.wrap_i64]; omega
theorem One.rem {n x y : Int} (hn : n = x % y) (h : ∀ G w, R.is P G w i = gives (.int .i64 (x.tmod y)) (.int .i64 n) w) (hr : ∀ G w, R.Sees w0 X G i w → 0 ≤ x) : One R P w0 X i :=
  One.of h fun G w hs => by rw [Int.tmod_eq_emod_of_nonneg (hr G w hs), ← hn]
/-- a Boolean that has a name -/
theorem One.bo {p e : Bool} (hp : p = e) (h : ∀ G w, R.is P G w i = gives (.bool e) (.bool p) w) : One R P w0 X i := One.of h fun _ _ _ => by rw [hp]
/-- a value that has another form -/
theorem One.eq {v v' : Value} (e : v = v') (h : ∀ G w, R.is P G w i = gives v v' w) : One R P w0 X i := One.of h fun _ _ _ => e
/-- a call -/
def enters (f : FuncId) (args : Array Value) (v : Value) (w : World) : Option (Result Next) × Value × List Nat × Prop := (some (.ok (.enter f args) w), v, [], True)
/-- a call of a Go function whose result is known ahead and lies in no memory -/
theorem One.call {v : Value} {f : FuncId} {args : Array Value} (hc : ∀ G w, R.Sees w0 X G i w → Calls P f args w fun e w' => e = .returned v ∧ Base [] w w') (h : ∀ G w, R.is P G w i = enters f args v w) : One R P w0 X i := fun o ho G w hs => by
  have := h G w
  unfold RC.is enters at this
  simp only [Prod.mk.injEq] at this
  obtain ⟨h1, h2, h3, h4⟩ := this
  unfold RC.ex at h1
  rw [ho] at h1
  simp only [Option.map_some, Option.some.injEq] at h1
  unfold Does
  rw [h1]
  refine (hc G w hs).mono ?_
  rintro e w' ⟨rfl, hb⟩
  refine ⟨_, rfl, {}, ?_⟩
  rw [← h2]
  exact RC.Left.grow (ups_nil h3) (h4 ▸ trivial) hb (fun b o h => by cases h) (fun b h => absurd rfl h)
theorem One.callB {p e : Bool} (hp : p = e) {f : FuncId} {args : Array Value} (hc : ∀ G w, R.Sees w0 X G i w → Calls P f args w fun x w' => x = .returned (.bool e) ∧ Base [] w w') (h : ∀ G w, R.is P G w i = enters f args (.bool p) w) : One R P w0 X i := by
  subst hp; exact One.call hc h
/-- under its guard -/
theorem gd_of {p : Bool} {G : Nat → Rec} {w : World} (hs : R.Sees w0 X G i w) (h : R.gd G i = p) : p = true := h ▸ hs.gd
end one
end
/-! ### what a Boolean says -/
theorem iN {n e b : Bool} {P : Prop} (hn : n = e) (h : e = b ↔ P) : n = b ↔ P := hn ▸ h
theorem iDT {P : Prop} [Decidable P] : decide P = true ↔ P := decide_eq_true_iff
theorem iDF {P : Prop} [Decidable P] : decide P = false ↔ ¬ P := decide_eq_false_iff_not
theorem iAT {a b : Bool} {P Q : Prop} (h : a = true ↔ P) (k : b = true ↔ Q) : (a && b) = true ↔ P ∧ Q := by rw [Bool.and_eq_true, h, k]
theorem iAF {a b : Bool} {P Q : Prop} (h : a = false ↔ P) (k : b = false ↔ Q) : (a && b) = false ↔ P ∨ Q := by rw [Bool.and_eq_false_iff, h, k]
theorem iOT {a b : Bool} {P Q : Prop} (h : a = true ↔ P) (k : b = true ↔ Q) : (a || b) = true ↔ P ∨ Q := by rw [Bool.or_eq_true, h, k]
theorem iOF {a b : Bool} {P Q : Prop} (h : a = false ↔ P) (k : b = false ↔ Q) : (a || b) = false ↔ P ∧ Q := by rw [Bool.or_eq_false_iff, h, k]
theorem iNT {a : Bool} {P : Prop} (h : a = false ↔ P) : (!a) = true ↔ P := by rw [Bool.not_eq_true', h]
theorem iNF {a : Bool} {P : Prop} (h : a = true ↔ P) : (!a) = false ↔ P := by rw [Bool.not_eq_false', h]
theorem iET {a b : Bool} {P Q : Prop} (h : a = true ↔ P) (k : b = true ↔ Q) : decide (a = true ↔ b = true) = true ↔ (P ↔ Q) := by rw [decide_eq_true_iff, h, k]
theorem iEF {a b : Bool} {P Q : Prop} (h : a = true ↔ P) (k : b = true ↔ Q) : decide (a = true ↔ b = true) = false ↔ ¬ (P ↔ Q) := by rw [decide_eq_false_iff_not, h, k]
theorem eqT {b : Bool} (h : (b == true) = true) : b = true := by simpa using h
theorem eqF {b : Bool} (h : (b == false) = true) : b = false := by simpa using h
theorem andL {a b : Bool} (h : (a && b) = true) : a = true := by rw [Bool.and_eq_true] at h; exact h.1
theorem andR {a b : Bool} (h : (a && b) = true) : b = true := by rw [Bool.and_eq_true] at h; exact h.2
theorem reti {k : IntKind} {a a' : Int} (h : a = a') : Ending.returned (.int k a) = .returned (.int k a') := by rw [h]
theorem retb {a a' : Bool} (h : a = a') : Ending.returned (.bool a) = .returned (.bool a') := by rw [h]
theorem ret2i {a a' b b' : Int} (h : a = a') (h2 : b = b') : Ending.returned (.tuple #[.int .i64 a, .int .i64 b]) = .returned (.tuple #[.int .i64 a', .int .i64 b']) := by rw [h, h2]
theorem ret3i {a a' b b' c c' : Int} (h : a = a') (h2 : b = b') (h3 : c = c') : Ending.returned (.tuple #[.int .i64 a, .int .i64 b, .int .i64 c]) = .returned (.tuple #[.int .i64 a', .int .i64 b', .int .i64 c']) := by rw [h, h2, h3]
theorem ret4i {a a' b b' c c' d d' : Int} (h : a = a') (h2 : b = b') (h3 : c = c') (h4 : d = d') : Ending.returned (.tuple #[.int .i64 a, .int .i64 b, .int .i64 c, .int .i64 d]) = .returned (.tuple #[.int .i64 a', .int .i64 b', .int .i64 c', .int .i64 d']) := by rw [h, h2, h3, h4]
theorem beqB (p q : Bool) : (p == q) = decide (p = true ↔ q = true) := by cases p <;> cases q <;> rfl
theorem bneB (p q : Bool) : (!(p == q)) = !(decide (p = true ↔ q = true)) := by cases p <;> cases q <;> rfl
theorem min_if (x y : Int) : (if y < x then y else x) = min x y := by omega
theorem max_if (x y : Int) : (if y > x then y else x) = max x y := by omega
theorem i64r {x e : Int} (h : x = e) (lo : -9223372036854775808 ≤ e) (hi : e ≤ 9223372036854775807) : Value.int .i64 (IntKind.i64.wrap x) = .int .i64 e := by
  subst h
  congr 1
  rw [IntKind.wrap_i64]; omega
end Kb
