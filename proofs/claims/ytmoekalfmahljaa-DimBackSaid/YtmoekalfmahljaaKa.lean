/- The any-order rule for a region: each operation is proved once, from what its predecessors have left; whatever order the tape picks, the facts of all operations stand behind the region. No program in sight. -/
import Derived.Orders
import Derived.Below
set_option linter.unusedVariables false
set_option linter.unusedSectionVars false
set_option linter.unusedSimpArgs false
namespace Kb
open Go

/-- a part of memory that stays as it is -/
abbrev Heaplet := Nat → Option Obj
def Agrees (w : World) (H : Heaplet) : Prop := ∀ b o, H b = some o → w.heap[b]? = some o
/-- a block of the call's own, with what it holds now -/
abbrev Ent := Option (Nat × Obj)
/-- where a slice lies, its length, how far it may grow -/
structure SV where
  a : Option Addr := none
  n : Nat := 0
  c : Nat := 0
instance : Inhabited SV := ⟨{}⟩
/-- the slice there -/
abbrev SV.v (s : SV) : Value := .slice s.a s.n s.c
/-- what an operation has chosen -/
structure Rec where
  v : Value := undef
  v2 : Value := undef
  v3 : Value := undef
  H : Heaplet := fun _ => none
  b : Nat := 0
  e : Ent := none
  s : SV := {}
  ss : Nat → SV := fun _ => {}
  sl : Nat → Nat → SV := fun _ _ => {}
  bs : Nat → Nat := fun _ => 0
  es : Nat → Ent := fun _ => none
instance : Inhabited Rec := ⟨{}⟩

def Does (P : Program) (ρ : Operand → Value) (o : Oper) (w : World) (Post : Value → World → Prop) : Prop :=
  match (execOp ρ o).run P w with
  | .ok (.value v) w' => Post v w'
  | .ok .skip w' => Post undef w'
  | .ok (.enter f args) w' => Calls P f args w' fun e w'' => ∃ v, e = .returned v ∧ Post v w''
  | _ => False

theorem Does.wp {P : Program} {o : Oper} {a : Act} {w : World} {Post : Value → World → Prop} {K : Act → World → Prop} {Q : Exit → Act → World → Prop}
    (h : Does P a.eval o w Post) (k : ∀ v w', Post v w' → K (a.put o.dst v) w') : o.wp P a w K Q := by
  unfold Does at h
  unfold Oper.wp
  generalize (execOp a.eval o).run P w = r at *
  cases r with
  | ok n w' =>
    cases n <;> simp only [] at h <;> simp only [Oper.upon]
    case value v => exact k _ _ h
    case skip => exact k _ _ h
    case enter f args =>
      refine Calls.mono h ?_
      rintro e w'' ⟨v, rfl, hp⟩
      exact k _ _ hp
  | halt x w' => exact h.elim

theorem Does.congr {P : Program} {ρ ρ' : Operand → Value} {o : Oper} {w : World} {Post : Value → World → Prop} (h : execOp ρ o = execOp ρ' o)
    (d : Does P ρ o w Post) : Does P ρ' o w Post := by unfold Does at *; rw [← h]; exact d

/-- the step from w to w' has written no block but those of X -/
structure Base (X : List Nat) (w w' : World) : Prop where
  os : w'.os = w.os
  tape : w'.tape = w.tape
  output : w'.output = w.output
  size : w.heap.size ≤ w'.heap.size
  keep : ∀ k, k < w.heap.size → k ∉ X → w'.heap[k]? = w.heap[k]?

theorem Base.refl (X : List Nat) (w : World) : Base X w w := ⟨rfl, rfl, rfl, Nat.le_refl _, fun _ _ _ => rfl⟩
theorem Base.below {w w' : World} (h : Base [] w w') : RowKit.Below w.heap.size w w' :=
  ⟨h.os, h.tape, h.output, h.size, fun k hk => h.keep k hk (by simp)⟩
theorem Base.of_below {w w' : World} (h : RowKit.Below w.heap.size w w') : Base [] w w' :=
  ⟨h.os, h.tape, h.output, h.size, fun k hk _ => h.block k hk⟩
/-- a step that writes only new blocks, or blocks of X, or blocks of Y that are themselves new or of X -/
theorem Base.step {X Y : List Nat} {w0 w w' : World} (h : Base X w0 w) (k : Base Y w w') (hY : ∀ b ∈ Y, w0.heap.size ≤ b ∨ b ∈ X) : Base X w0 w' := by
  refine ⟨k.os.trans h.os, k.tape.trans h.tape, k.output.trans h.output, Nat.le_trans h.size k.size, fun b hb hx => ?_⟩
  rw [k.keep b (Nat.lt_of_lt_of_le hb h.size) ?_]
  · exact h.keep b hb hx
  · intro hy
    rcases hY b hy with h1 | h1
    · omega
    · exact hx h1
theorem Agrees.step {Y : List Nat} {w w' : World} {H : Heaplet} (h : Agrees w H) (k : Base Y w w') (hY : ∀ b ∈ Y, H b = none) : Agrees w' H := by
  intro b o hb
  have hlt : b < w.heap.size := by
    have := h b o hb
    rcases Nat.lt_or_ge b w.heap.size with h' | h'
    · exact h'
    · simp [Array.getElem?_eq_none h'] at this
  rw [k.keep b hlt ?_]
  · exact h b o hb
  · intro hy; rw [hY b hy] at hb; cases hb

structure StW (w0 : World) (X : List Nat) (A : List Heaplet) (L : List Ent) (w : World) : Prop where
  base : Base X w0 w
  agr : ∀ H ∈ A, Agrees w H
  ent : ∀ (r b : Nat) (o : Obj), L[r]? = some (some (b, o)) → w.heap[b]? = some o ∧ (w0.heap.size ≤ b ∨ b ∈ X) ∧ ∀ H ∈ A, H b = none
  dis : ∀ (r r' b : Nat) (o o' : Obj), L[r]? = some (some (b, o)) → L[r']? = some (some (b, o')) → r = r'

structure SlotsOK (nt : Nat) (sl : List (Nat × Value)) (a : Act) : Prop where
  defers : a.defers = []
  size : a.tmps.size = nt
  slot : ∀ s v, sl.lookup s = some v → a.tmps[s]? = some v

structure OpC where
  val : (Nat → Rec) → Value
  fact : (Nat → Rec) → Prop := fun _ => True
  ups : List (Nat × ((Nat → Rec) → Ent)) := []
  rds : List Nat := []

structure RC where
  ops : Array Oper
  cs : List OpC
  B : List Nat
  sl : List (Nat × Value)
  A : List Heaplet
  L : List Ent

def lastW (p : Nat → Bool) : Nat → Option Nat
  | 0 => none
  | k + 1 => if p k then some k else lastW p k
theorem lastW_congr {p q : Nat → Bool} : ∀ n, (∀ k, k < n → p k = q k) → lastW p n = lastW q n
  | 0, _ => rfl
  | n + 1, h => by
    simp only [lastW]
    rw [h n (by omega), lastW_congr n (fun k hk => h k (by omega))]
theorem lastW_cut {p : Nat → Bool} (i : Nat) : ∀ n, i ≤ n → (∀ k, i ≤ k → k < n → p k = false) → lastW p n = lastW p i
  | 0, h, _ => by have : i = 0 := by omega
                  subst this; rfl
  | n + 1, h, hk => by
    by_cases e : i = n + 1
    · subst e; rfl
    · simp only [lastW]
      rw [hk n (by omega) (by omega)]
      simp only [Bool.false_eq_true, if_false]
      exact lastW_cut i n (by omega) (fun k a b => hk k a (by omega))
theorem lastW_some {p : Nat → Bool} {k : Nat} : ∀ {n}, lastW p n = some k → k < n ∧ p k = true ∧ ∀ j, k < j → j < n → p j = false
  | 0, h => by cases h
  | n + 1, h => by
    simp only [lastW] at h
    split at h
    · rename_i hp
      cases h
      exact ⟨by omega, hp, fun j a b => by omega⟩
    · rename_i hp
      obtain ⟨a, b, c⟩ := lastW_some h
      refine ⟨by omega, b, fun j x y => ?_⟩
      by_cases e : j = n
      · subst e; simpa using hp
      · exact c j x (by omega)
theorem lastW_none {p : Nat → Bool} : ∀ {n}, lastW p n = none → ∀ j, j < n → p j = false
  | 0, _, j, h => by omega
  | n + 1, h, j, hj => by
    simp only [lastW] at h
    split at h
    · cases h
    · rename_i hp
      by_cases e : j = n
      · subst e; simpa using hp
      · exact lastW_none h j (by omega)

namespace RC
variable (R : RC)
def c (i : Nat) : OpC := R.cs.getD i { val := fun _ => undef }
def dst (i : Nat) : Option Nat := (R.ops[i]?).bind (·.dst)
def grd (i : Nat) : Option (Nat × Bool) := (R.ops[i]?).bind (·.guard)
def bef (i j : Nat) : Bool := (R.B.getD i 0).testBit j
/-- what op i may lean on: what comes ahead of it in every order, and itself -/
def vis (i : Nat) (G : Nat → Rec) : Nat → Rec := fun j => bif R.bef i j || j == i then G j else {}
def val (i : Nat) (G : Nat → Rec) : Value := (R.c i).val (R.vis i G)
def fact (i : Nat) (G : Nat → Rec) : Prop := (R.c i).fact (R.vis i G)
def isB (v : Value) (want : Bool) : Bool := match v with | .bool b => b == want | _ => false
def gdF (G : Nat → Rec) : Nat → Nat → Bool
  | 0, _ => false
  | f + 1, i => match R.grd i with
    | none => true
    | some (j, want) => gdF G f j && isB (R.val j G) want
def gd (G : Nat → Rec) (i : Nat) : Bool := R.gdF G (i + 1) i
def slotv (G : Nat → Rec) (k : Nat) : Value := bif R.gd G k then R.val k G else undef
def ups (i : Nat) : List (Nat × ((Nat → Rec) → Ent)) := (R.c i).ups.map fun p => (p.1, fun G => p.2 (R.vis i G))
def wrS (s k : Nat) : Bool := R.dst k == some s
def wrE (r k : Nat) : Bool := (R.ups k).any (fun p => p.1 == r)
/-- the guards on which op i stands -/
def chainF : Nat → Nat → List (Nat × Bool)
  | 0, _ => []
  | f + 1, i => match R.grd i with
    | none => []
    | some (j, want) => (j, want) :: chainF f j
def under (i k : Nat) : Bool := match R.grd k with
  | none => true
  | some g => (R.chainF (i + 1) i).contains g
def rdSlot (G : Nat → Rec) (i t : Nat) : Value := match lastW (R.wrS t) i with
  | some k => bif R.under i k then R.val k G else R.slotv G k
  | none => (R.sl.lookup t).getD undef
def evalAt (G : Nat → Rec) (i : Nat) : Operand → Value
  | .tmp t => R.rdSlot G i t
  | .const v => v
  | .global g => .pointer (some ⟨g, 0, none⟩)
  | .func f => .func (.func f) #[] #[]
def entOf (G : Nat → Rec) (k r : Nat) : Ent := match (R.ups k).find? (fun p => p.1 == r) with
  | some p => p.2 G
  | none => none
def entAt (G : Nat → Rec) (i r : Nat) : Ent := match lastW (R.wrE r) i with
  | some k => R.entOf G k r
  | none => (R.L[r]?).getD none
def reads (o : Oper) : List Nat :=
  o.op.operands.toList.filterMap fun | .tmp t => some t | _ => none
def looks (i : Nat) : List Nat := match R.ops[i]? with
  | some o => reads o
  | none => []
/-- every slot, entry that op i touches in any way -/
def clash (i k : Nat) : Bool :=
  (match R.dst i with | some d => (R.looks k).contains d || R.dst k == some d | none => false) ||
  (match R.dst k with | some d => (R.looks i).contains d || (match R.grd i with | some (j, _) => R.dst j == some d | none => false) | none => false) ||
  ((R.ups i).any fun p => (R.ups k).any (fun q => q.1 == p.1) || (R.c k).rds.contains p.1) ||
  ((R.ups k).any fun p => (R.c i).rds.contains p.1)
def foldB (o : Oper) : Nat := o.after.foldl (fun s e => if Region.binds .any e then s ||| 2 ^ e.on ||| R.B.getD e.on 0 else s) 0
def checkOp (nt : Nat) (i : Nat) : Bool := match R.ops[i]? with
  | none => true
  | some o =>
    (R.B.getD i 0 == R.foldB o) && (o.after.all fun e => !Region.binds .any e || decide (e.on < i)) &&
    (match o.dst with | some d => d < nt | none => true) &&
    (match o.op with | .select .. => false | _ => true) &&
    (match o.guard with
      | none => true
      | some (j, _) => j < i && R.bef i j && (R.ups i).isEmpty && (match R.dst j with | some d => lastW (R.wrS d) i == some j | none => false)) &&
    ((reads o).all fun t => (lastW (R.wrS t) i).isSome || (R.sl.lookup t).isSome) &&
    ((List.range i).all fun k => !R.clash k i || R.bef i k) &&
    ((R.ups i).all fun p => (p.1 < R.L.length) && (((R.ups i).filter fun q => q.1 == p.1).length == 1))
def check (nt : Nat) : Bool := (List.range R.ops.size).all (R.checkOp nt)

def touched (G : Nat → Rec) (i : Nat) : List Nat := (R.ups i).filterMap fun p => (R.entAt G i p.1).map (·.1)
def put (G : Nat → Rec) (i : Nat) (g : Rec) : Nat → Rec := fun j => if j = i then g else G j

/-- what an operation leaves -/
structure Left (w w' : World) (G : Nat → Rec) (i : Nat) (g : Rec) (v : Value) : Prop where
  v : v = R.val i (put G i g)
  fact : R.fact i (put G i g)
  base : Base (R.touched G i) w w'
  agr : Agrees w' g.H
  fresh : ∀ b, g.H b ≠ none → w.heap.size ≤ b
  ent : ∀ p ∈ R.ups i, ∀ b o, p.2 (put G i g) = some (b, o) → w'.heap[b]? = some o ∧ (w.heap.size ≤ b ∨ ∃ q ∈ R.ups i, ∃ o', R.entAt G i q.1 = some (b, o')) ∧ g.H b = none
  dis : ∀ p ∈ R.ups i, ∀ q ∈ R.ups i, ∀ b o o', p.2 (put G i g) = some (b, o) → q.2 (put G i g) = some (b, o') → p.1 = q.1

structure Sees (w0 : World) (X : List Nat) (G : Nat → Rec) (i : Nat) (w : World) : Prop where
  fact : ∀ j, R.bef i j = true → R.gd G j = true → R.fact j G
  agrG : ∀ j, R.bef i j = true → Agrees w (G j).H
  agr : ∀ H ∈ R.A, Agrees w H
  ent : ∀ r, ((R.c i).rds.contains r || R.wrE r i) = true → ∀ b o, R.entAt G i r = some (b, o) → w.heap[b]? = some o ∧ (w0.heap.size ≤ b ∨ b ∈ X) ∧ (∀ H ∈ R.A, H b = none) ∧ ∀ j, R.bef i j = true → (G j).H b = none
  base : Base X w0 w
  gd : R.gd G i = true
  dis : ∀ r r' b o o', ((R.c i).rds.contains r || R.wrE r i) = true → ((R.c i).rds.contains r' || R.wrE r' i) = true → R.entAt G i r = some (b, o) → R.entAt G i r' = some (b, o') → r = r'

def Ok (P : Program) (w0 : World) (X : List Nat) (i : Nat) : Prop := ∀ o, R.ops[i]? = some o → ∀ G w, R.Sees w0 X G i w →
  Does P (R.evalAt G i) o w fun v w' => ∃ g, R.Left w w' G i g v

/-! ### the invariant -/
def dn (D : Array Bool) (j : Nat) : Bool := D.getD j false
def entD (D : Array Bool) (G : Nat → Rec) (r : Nat) : Ent := match lastW (fun j => dn D j && R.wrE r j) R.ops.size with
  | some k => R.entOf G k r
  | none => (R.L[r]?).getD none
structure Inv (nt : Nat) (w0 : World) (X : List Nat) (D : Array Bool) (G : Nat → Rec) (a : Act) (w : World) : Prop where
  defers : a.defers = []
  size : a.tmps.size = nt
  slotW : ∀ s k, lastW (fun j => dn D j && R.wrS s j) R.ops.size = some k → a.tmps[s]? = some (R.slotv G k)
  slot0 : ∀ s v, lastW (fun j => dn D j && R.wrS s j) R.ops.size = none → R.sl.lookup s = some v → a.tmps[s]? = some v
  base : Base X w0 w
  agr : ∀ H ∈ R.A, Agrees w H
  agrG : ∀ j, dn D j = true → Agrees w (G j).H
  ent : ∀ r b o, R.entD D G r = some (b, o) → w.heap[b]? = some o ∧ (w0.heap.size ≤ b ∨ b ∈ X) ∧ (∀ H ∈ R.A, H b = none) ∧ ∀ j, dn D j = true → (G j).H b = none
  dis : ∀ r r' b o o', R.entD D G r = some (b, o) → R.entD D G r' = some (b, o') → r = r'
  fact : ∀ j, dn D j = true → R.gd G j = true → R.fact j G
  closed : ∀ i j, dn D i = true → R.bef i j = true → dn D j = true
  dsz : D.size = R.ops.size
  newG : ∀ j, dn D j = true → ∀ b, (G j).H b ≠ none → w0.heap.size ≤ b

variable {R}
theorem foldB_spec {o : Oper} {j : Nat} (h : (R.foldB o).testBit j = true) : ∃ e ∈ o.after, Region.binds .any e = true ∧ (j = e.on ∨ (R.B.getD e.on 0).testBit j = true) := by
  unfold foldB at h
  rw [← Array.foldl_toList] at h
  have key : ∀ (l : List Edge) (s : Nat), (l.foldl (fun s e => if Region.binds .any e then s ||| 2 ^ e.on ||| R.B.getD e.on 0 else s) s).testBit j = true →
      s.testBit j = true ∨ ∃ e ∈ l, Region.binds .any e = true ∧ (j = e.on ∨ (R.B.getD e.on 0).testBit j = true) := by
    intro l
    induction l with
    | nil => intro s h; exact .inl h
    | cons e l ih =>
      intro s h
      simp only [List.foldl_cons] at h
      rcases ih _ h with h1 | ⟨e', he', h1⟩
      · split at h1
        · rename_i hb
          simp only [Nat.testBit_or, Bool.or_eq_true] at h1
          rcases h1 with (h1 | h1) | h1
          · exact .inl h1
          · refine .inr ⟨e, by simp, hb, .inl ?_⟩
            rw [Nat.testBit_two_pow] at h1
            simpa using (of_decide_eq_true h1).symm
          · exact .inr ⟨e, by simp, hb, .inr h1⟩
        · exact .inl h1
      · exact .inr ⟨e', by simp [he'], h1⟩
  rcases key _ _ h with h1 | ⟨e, he, h1⟩
  · simp at h1
  · exact ⟨e, by simpa using he, h1⟩

theorem gdF_fuel {nt : Nat} (hc : R.check nt = true) (G : Nat → Rec) : ∀ i f f', i < f → i < f' → R.gdF G f i = R.gdF G f' i := by
  intro i
  induction i using Nat.strongRecOn with
  | _ i ih =>
    intro f f' h h'
    cases f with
    | zero => omega
    | succ f => cases f' with
      | zero => omega
      | succ f' =>
        simp only [gdF]
        cases hg : R.grd i with
        | none => rfl
        | some jw =>
          obtain ⟨j, want⟩ := jw
          have hj : j < i := by
            unfold grd at hg
            cases ho : R.ops[i]? with
            | none => simp [ho] at hg
            | some o =>
              simp [ho] at hg
              have hlt : i < R.ops.size := (Array.getElem?_eq_some_iff.1 ho).1
              have := List.all_eq_true.1 hc i (List.mem_range.2 hlt)
              simp [checkOp, ho, hg] at this
              omega
          simp only []
          rw [ih j hj f f' (by omega) (by omega)]

structure Chk (R : RC) (nt i : Nat) (o : Oper) : Prop where
  lt : i < R.ops.size
  b : R.B.getD i 0 = R.foldB o
  aft : ∀ e ∈ o.after, Region.binds .any e = true → e.on < i
  dst : ∀ d, o.dst = some d → d < nt
  sel : ∀ cs b, o.op ≠ .select cs b
  grd : ∀ j want, o.guard = some (j, want) → j < i ∧ R.bef i j = true ∧ R.ups i = [] ∧ ∃ d, R.dst j = some d ∧ lastW (R.wrS d) i = some j
  rd : ∀ t ∈ reads o, (lastW (R.wrS t) i).isSome = true ∨ (R.sl.lookup t).isSome = true
  cl : ∀ k, k < i → R.clash k i = true → R.bef i k = true
  up : ∀ p ∈ R.ups i, p.1 < R.L.length
  up1 : ∀ p ∈ R.ups i, ((R.ups i).filter fun q => q.1 == p.1).length = 1

theorem chk {nt i : Nat} {o : Oper} (hc : R.check nt = true) (ho : R.ops[i]? = some o) : R.Chk nt i o := by
  have hlt : i < R.ops.size := (Array.getElem?_eq_some_iff.1 ho).1
  have h := List.all_eq_true.1 hc i (List.mem_range.2 hlt)
  simp only [checkOp, ho, Bool.and_eq_true] at h
  obtain ⟨⟨⟨⟨⟨⟨⟨h1, h2⟩, h3⟩, h4⟩, h5⟩, h6⟩, h7⟩, h8⟩ := h
  refine ⟨hlt, by simpa using h1, ?_, ?_, ?_, ?_, ?_, ?_, ?_, ?_⟩
  · intro e he hb
    have := Array.all_eq_true_iff_forall_mem.1 h2 e he
    simpa [hb] using this
  · intro d hd; simpa [hd] using h3
  · intro cs b he; simp [he] at h4
  · intro j want hg
    simp only [hg, Bool.and_eq_true] at h5
    obtain ⟨⟨⟨a1, a2⟩, a3⟩, a4⟩ := h5
    refine ⟨by simpa using a1, a2, by simpa using a3, ?_⟩
    cases hd : R.dst j with
    | none => simp [hd] at a4
    | some d => exact ⟨d, rfl, by simpa [hd] using a4⟩
  · intro t ht
    have := List.all_eq_true.1 h6 t ht
    simpa using this
  · intro k hk hcl
    have := List.all_eq_true.1 h7 k (List.mem_range.2 hk)
    simpa [hcl] using this
  · intro p hp
    have := List.all_eq_true.1 h8 p hp
    simp only [Bool.and_eq_true] at this
    simpa using this.1
  · intro p hp
    have := List.all_eq_true.1 h8 p hp
    simp only [Bool.and_eq_true] at this
    simpa using this.2

theorem grd_some {i j : Nat} {want : Bool} (h : R.grd i = some (j, want)) : ∃ o, R.ops[i]? = some o ∧ o.guard = some (j, want) := by
  unfold grd at h
  cases ho : R.ops[i]? with
  | none => simp [ho] at h
  | some o => exact ⟨o, rfl, by simpa [ho] using h⟩
theorem dst_some {i d : Nat} (h : R.dst i = some d) : ∃ o, R.ops[i]? = some o ∧ o.dst = some d := by
  unfold dst at h
  cases ho : R.ops[i]? with
  | none => simp [ho] at h
  | some o => exact ⟨o, rfl, by simpa [ho] using h⟩

/-- unfolding the guard by one -/
theorem gd_eq {nt : Nat} (hc : R.check nt = true) (G : Nat → Rec) (i : Nat) : R.gd G i = match R.grd i with
    | none => true
    | some (j, want) => R.gd G j && isB (R.val j G) want := by
  unfold gd
  rw [gdF]
  cases hg : R.grd i with
  | none => rfl
  | some jw =>
    obtain ⟨j, want⟩ := jw
    obtain ⟨o, ho, hgo⟩ := grd_some hg
    have := ((chk hc ho).grd j want hgo).1
    simp only []
    rw [gdF_fuel hc G j i (j + 1) (by omega) (by omega)]

theorem chainF_fuel {nt : Nat} (hc : R.check nt = true) : ∀ i f f', i < f → i < f' → R.chainF f i = R.chainF f' i := by
  intro i
  induction i using Nat.strongRecOn with
  | _ i ih =>
    intro f f' h h'
    cases f with
    | zero => omega
    | succ f => cases f' with
      | zero => omega
      | succ f' =>
        simp only [chainF]
        cases hg : R.grd i with
        | none => rfl
        | some jw =>
          obtain ⟨j, want⟩ := jw
          obtain ⟨o, ho, hgo⟩ := grd_some hg
          have hj := ((chk hc ho).grd j want hgo).1
          simp only []
          rw [ih j hj f f' (by omega) (by omega)]

/-- op i stands on its whole chain of guards -/
theorem chain_true {nt : Nat} (hc : R.check nt = true) (G : Nat → Rec) : ∀ i, R.gd G i = true → ∀ g ∈ R.chainF (i + 1) i, R.gd G g.1 = true ∧ isB (R.val g.1 G) g.2 = true := by
  intro i
  induction i using Nat.strongRecOn with
  | _ i ih =>
    intro h g hg
    simp only [chainF] at hg
    rw [gd_eq hc] at h
    cases hgi : R.grd i with
    | none => simp [hgi] at hg
    | some jw =>
      obtain ⟨j, want⟩ := jw
      simp only [hgi, List.mem_cons] at hg
      simp only [hgi, Bool.and_eq_true] at h
      obtain ⟨o, ho, hgo⟩ := grd_some hgi
      have hj := ((chk hc ho).grd j want hgo).1
      rcases hg with rfl | hg
      · exact h
      · rw [chainF_fuel hc j i (j + 1) (by omega) (by omega)] at hg
        exact ih j hj h.1 g hg

theorem under_true {nt : Nat} (hc : R.check nt = true) (G : Nat → Rec) {i k : Nat} (hi : R.gd G i = true) (hu : R.under i k = true) : R.gd G k = true := by
  rw [gd_eq hc]
  unfold under at hu
  cases hg : R.grd k with
  | none => rfl
  | some g =>
    simp only [hg] at hu
    have := chain_true hc G i hi g (by simpa using hu)
    simp [this.1, this.2]

/-! ### a step of one operation leaves what was known -/
theorem put_ne {G : Nat → Rec} {i j : Nat} {g : Rec} (h : j ≠ i) : put G i g j = G j := by simp [put, h]
theorem put_eq {G : Nat → Rec} {i : Nat} {g : Rec} : put G i g i = g := by simp [put]

section keep
variable {nt : Nat} (hc : R.check nt = true) {G : Nat → Rec} {i : Nat} {g : Rec} {D : Array Bool}
  (hcl : ∀ i j, dn D i = true → R.bef i j = true → dn D j = true) (hi : dn D i = false)
include hcl hi

theorem vis_put {j : Nat} (hj : dn D j = true) : R.vis j (put G i g) = R.vis j G := by
  funext k
  unfold vis
  cases hk : (R.bef j k || k == j) with
  | false => rfl
  | true =>
    have hk' : dn D k = true := by
      simp only [Bool.or_eq_true, beq_iff_eq] at hk
      rcases hk with hk | hk
      · exact hcl j k hj hk
      · exact hk ▸ hj
    simp only [cond_true]
    rw [put_ne]
    intro e; subst e; rw [hi] at hk'; cases hk'
theorem val_put {j : Nat} (hj : dn D j = true) : R.val j (put G i g) = R.val j G := by unfold val; rw [vis_put hcl hi hj]
theorem fact_put {j : Nat} (hj : dn D j = true) : R.fact j (put G i g) = R.fact j G := by unfold fact; rw [vis_put hcl hi hj]
include hc in
theorem gd_put : ∀ j, (dn D j = true ∨ j = i) → (∀ k, R.bef i k = true → dn D k = true) → R.gd (put G i g) j = R.gd G j := by
  intro j
  induction j using Nat.strongRecOn with
  | _ j ih =>
    intro hj hb
    rw [gd_eq hc, gd_eq hc]
    cases hg : R.grd j with
    | none => rfl
    | some jw =>
      obtain ⟨k, want⟩ := jw
      obtain ⟨o, ho, hgo⟩ := grd_some hg
      obtain ⟨hk, hbk, _⟩ := (chk hc ho).grd k want hgo
      have hdk : dn D k = true := by
        rcases hj with hj | hj
        · exact hcl j k hj hbk
        · subst hj; exact hb k hbk
      simp only []
      rw [ih k hk (.inl hdk) hb, val_put hcl hi hdk]
include hc in
theorem slotv_put {j : Nat} (hj : dn D j = true) (hb : ∀ k, R.bef i k = true → dn D k = true) : R.slotv (put G i g) j = R.slotv G j := by
  unfold slotv
  rw [gd_put hc hcl hi j (.inl hj) hb, val_put hcl hi hj]
theorem entOf_put {j r : Nat} (hj : dn D j = true) : R.entOf (put G i g) j r = R.entOf G j r := by
  unfold entOf
  cases hf : (R.ups j).find? (fun p => p.1 == r) with
  | none => rfl
  | some p =>
    obtain ⟨q, _, rfl⟩ := List.mem_map.1 (List.mem_of_find?_eq_some hf)
    show q.2 (R.vis j (put G i g)) = q.2 (R.vis j G)
    rw [vis_put hcl hi hj]
end keep

theorem dn_set {D : Array Bool} {i j : Nat} (h : i < D.size) : dn (D.setIfInBounds i true) j = (dn D j || j == i) := by
  unfold dn
  by_cases e : i = j
  · subst e; simp [h]
  · rw [getD_set_ne false e]
    have : (j == i) = false := by simpa using Ne.symm e
    rw [this]; simp

/-- the last writer of a location among the operations done, once op i (which comes behind all earlier writers and ahead of all later ones) is done -/
theorem lastW_self {p : Nat → Bool} {D : Array Bool} {i n : Nat} (hi : i < n) (hD : i < D.size) (hp : p i = true) (hn : ∀ k, i < k → dn D k = true → p k = false) :
    lastW (fun j => dn (D.setIfInBounds i true) j && p j) n = some i := by
  rw [lastW_cut (i + 1) n (by omega)]
  · simp [lastW, dn_set hD, hp]
  · intro k h1 h2
    simp only [dn_set hD]
    by_cases e : k = i
    · omega
    · cases hk : dn D k with
      | false => (have e' : (k == i) = false := by simpa using e); simp [e']
      | true => simp [hn k (by omega) hk]
theorem lastW_other {p : Nat → Bool} {D : Array Bool} {i n : Nat} (hD : i < D.size) (hp : p i = false) :
    lastW (fun j => dn (D.setIfInBounds i true) j && p j) n = lastW (fun j => dn D j && p j) n := by
  refine lastW_congr n fun k _ => ?_
  rw [dn_set hD]
  by_cases e : k = i
  · subst e; simp [hp]
  · have e' : (k == i) = false := by simpa using e
    simp [e']
theorem lastW_read {p : Nat → Bool} {D : Array Bool} {i n : Nat} (hi : i ≤ n) (h1 : ∀ k, k < i → p k = true → dn D k = true) (h2 : ∀ k, i ≤ k → dn D k = true → p k = false) :
    lastW (fun j => dn D j && p j) n = lastW p i := by
  rw [lastW_cut i n hi]
  · refine lastW_congr i fun k hk => ?_
    cases hp : p k with
    | false => simp
    | true => simp [h1 k hk hp]
  · intro k a b
    cases hk : dn D k with
    | false => simp
    | true => simp [h2 k a hk]

section step
variable {nt : Nat} {w0 : World} {X : List Nat}
  {D : Array Bool} {G : Nat → Rec} {a : Act} {w : World} (I : R.Inv nt w0 X D G a w) {i : Nat} (hr : i ∈ Region.ready .any R.ops D) {o : Oper} (ho : R.ops[i]? = some o)
include hr ho I

theorem not_done : dn D i = false := by
  have h0 := (mem_ready.1 hr).1
  have hlt : i < D.size := I.dsz ▸ (Array.getElem?_eq_some_iff.1 ho).1
  unfold dn
  simp [hlt] at h0 ⊢
  exact h0
theorem pre_done (hc : R.check nt = true) (j : Nat) (h : R.bef i j = true) : dn D j = true := by
  obtain ⟨_, o', ho', hall⟩ := mem_ready.1 hr
  rw [ho] at ho'; cases ho'
  unfold bef at h
  rw [(chk hc ho).b] at h
  obtain ⟨e, he, hb, h1⟩ := foldB_spec h
  have hd : dn D e.on = true := hall e he hb
  rcases h1 with rfl | h1
  · exact hd
  · exact I.closed e.on j hd h1
theorem later_apart (hc : R.check nt = true) (k : Nat) (hk : i < k) (hd : dn D k = true) : R.clash i k = false := by
  cases hcl : R.clash i k with
  | false => rfl
  | true =>
    exfalso
    have hlt : k < R.ops.size := by
      rcases Nat.lt_or_ge k D.size with h | h
      · exact I.dsz ▸ h
      · unfold dn at hd; simp [Array.getElem?_eq_none h] at hd
    have h1 := (chk hc (Array.getElem?_eq_getElem hlt)).cl i hk hcl
    have h2 := I.closed k i hd h1
    rw [not_done I hr ho] at h2; cases h2
theorem early_done (hc : R.check nt = true) (k : Nat) (hk : k < i) (hcl : R.clash k i = true) : dn D k = true :=
  pre_done I hr ho hc k ((chk hc ho).cl k hk hcl)

/-- a slot that op i looks at holds what its last writer ahead of it has left -/
theorem read_slot (hc : R.check nt = true) (s : Nat) (hs : (R.looks i).contains s = true ∨ ∃ j want, o.guard = some (j, want) ∧ R.dst j = some s) :
    lastW (fun j => dn D j && R.wrS s j) R.ops.size = lastW (R.wrS s) i := by
  have C := chk hc ho
  have hg : ∀ j want, o.guard = some (j, want) → R.grd i = some (j, want) := fun j want h => by simp [grd, ho, h]
  refine lastW_read (Nat.le_of_lt C.lt) (fun k hk hw => ?_) (fun k hk hd => ?_)
  · have hdk : R.dst k = some s := by simpa [wrS] using hw
    rcases hs with hs | ⟨j, want, h1, h2⟩
    · refine early_done I hr ho hc k hk ?_
      unfold clash; rw [hdk]; simp [List.contains_iff_mem.1 hs]
    · have h3 := C.grd j want h1
      obtain ⟨hj, hb, _, d, hd, hl⟩ := h3
      rw [h2] at hd; cases hd
      by_cases e : k = j
      · subst e; exact pre_done I hr ho hc k hb
      · have hkj : k < j := by
          rcases Nat.lt_or_ge k j with h | h
          · exact h
          · have := (lastW_some hl).2.2 k (by omega) hk
            rw [this] at hw; cases hw
        have hdj := pre_done I hr ho hc j hb
        obtain ⟨oj, hoj, hdo⟩ := dst_some h2
        refine I.closed j k hdj ((chk hc hoj).cl k hkj ?_)
        unfold clash; rw [hdk, h2]; simp
  · cases hw : R.wrS s k with
    | false => rfl
    | true =>
      exfalso
      have hdk : R.dst k = some s := by simpa [wrS] using hw
      by_cases e : k = i
      · subst e; rw [not_done I hr ho] at hd; cases hd
      · have hcl := later_apart I hr ho hc k (by omega) hd
        rcases hs with hs | ⟨j, want, h1, h2⟩
        · unfold clash at hcl; rw [hdk] at hcl; simp [List.contains_iff_mem.1 hs] at hcl
        · unfold clash at hcl; rw [hdk, hg j want h1] at hcl; simp [h2] at hcl

theorem read_ent (hc : R.check nt = true) (r : Nat) (hs : ((R.c i).rds.contains r || R.wrE r i) = true) : R.entD D G r = R.entAt G i r := by
  have C := chk hc ho
  have : lastW (fun j => dn D j && R.wrE r j) R.ops.size = lastW (R.wrE r) i := by
    refine lastW_read (Nat.le_of_lt C.lt) (fun k hk hw => ?_) (fun k hk hd => ?_)
    · refine early_done I hr ho hc k hk ?_
      obtain ⟨p, hp, hpr⟩ := List.any_eq_true.1 hw
      have hpr : p.1 = r := by simpa using hpr
      unfold clash
      rw [Bool.or_eq_true, Bool.or_eq_true]
      refine .inl (.inr (List.any_eq_true.2 ⟨p, hp, ?_⟩))
      rw [Bool.or_eq_true] at hs ⊢
      rcases hs with hs | hs
      · exact .inr (hpr ▸ hs)
      · refine .inl ?_
        obtain ⟨q, hq, hqr⟩ := List.any_eq_true.1 hs
        exact List.any_eq_true.2 ⟨q, hq, by rw [hpr]; exact hqr⟩
    · cases hw : R.wrE r k with
      | false => rfl
      | true =>
        exfalso
        by_cases e : k = i
        · subst e; rw [not_done I hr ho] at hd; cases hd
        · have hcl := later_apart I hr ho hc k (by omega) hd
          obtain ⟨p, hp, hpr⟩ := List.any_eq_true.1 hw
          have hpr : p.1 = r := by simpa using hpr
          have : R.clash i k = true := by
            unfold clash
            rw [Bool.or_eq_true, Bool.or_eq_true]
            rw [Bool.or_eq_true] at hs
            rcases hs with hs | hs
            · exact .inr (List.any_eq_true.2 ⟨p, hp, hpr ▸ hs⟩)
            · obtain ⟨q, hq, hqr⟩ := List.any_eq_true.1 hs
              have hqr : q.1 = r := by simpa using hqr
              refine .inl (.inr (List.any_eq_true.2 ⟨q, hq, ?_⟩))
              rw [Bool.or_eq_true]
              exact .inl (List.any_eq_true.2 ⟨p, hp, by simp [hpr, hqr]⟩)
          rw [this] at hcl; cases hcl
  unfold entD entAt
  rw [this]
end step
theorem wrE_find {r k : Nat} (h : R.wrE r k = true) : ∃ p, (R.ups k).find? (fun p => p.1 == r) = some p ∧ p ∈ R.ups k ∧ p.1 = r := by
  cases hf : (R.ups k).find? (fun p => p.1 == r) with
  | none =>
    have := List.find?_eq_none.1 hf
    obtain ⟨p, hp, hpr⟩ := List.any_eq_true.1 h
    exact absurd hpr (this p hp)
  | some p => exact ⟨p, rfl, List.mem_of_find?_eq_some hf, by simpa using List.find?_some hf⟩

theorem mem_touched {G : Nat → Rec} {i b : Nat} (h : b ∈ R.touched G i) : ∃ r o, R.wrE r i = true ∧ R.entAt G i r = some (b, o) := by
  obtain ⟨p, hp, he⟩ := List.mem_filterMap.1 h
  cases hh : R.entAt G i p.1 with
  | none => simp [hh] at he
  | some x =>
    obtain ⟨b', o⟩ := x
    simp [hh] at he
    subst he
    exact ⟨p.1, o, List.any_eq_true.2 ⟨p, hp, by simp⟩, hh⟩

theorem heap_lt {w : World} {b : Nat} {o : Obj} (h : w.heap[b]? = some o) : b < w.heap.size := by
  rcases Nat.lt_or_ge b w.heap.size with h' | h'
  · exact h'
  · simp [Array.getElem?_eq_none h'] at h

theorem inv_step {nt : Nat} {w0 : World} {X : List Nat} {D : Array Bool} {G : Nat → Rec} {a : Act} {w w' : World} (I : R.Inv nt w0 X D G a w) {i : Nat}
    (hr : i ∈ Region.ready .any R.ops D) {o : Oper} (ho : R.ops[i]? = some o) (hc : R.check nt = true) {g : Rec} {v : Value}
    (hv : v = R.slotv (put G i g) i) (hf : R.gd (put G i g) i = true → R.fact i (put G i g)) (base : Base (R.touched G i) w w') (agr : Agrees w' g.H)
    (fresh : ∀ b, g.H b ≠ none → w.heap.size ≤ b)
    (ent : ∀ p ∈ R.ups i, ∀ b o, p.2 (put G i g) = some (b, o) → w'.heap[b]? = some o ∧ (w.heap.size ≤ b ∨ ∃ q ∈ R.ups i, ∃ o', R.entAt G i q.1 = some (b, o')) ∧ g.H b = none)
    (dis : ∀ p ∈ R.ups i, ∀ q ∈ R.ups i, ∀ b o o', p.2 (put G i g) = some (b, o) → q.2 (put G i g) = some (b, o') → p.1 = q.1) :
    R.Inv nt w0 X (D.setIfInBounds i true) (put G i g) (a.put o.dst v) w' := by
  have C := chk hc ho
  have hiD : i < D.size := I.dsz ▸ C.lt
  have hnd := not_done I hr ho
  have hpre := pre_done I hr ho hc
  have hdst : R.dst i = o.dst := by simp [RC.dst, ho]
  have hE : ∀ r, R.wrE r i = true → R.entD D G r = R.entAt G i r := fun r h => read_ent I hr ho hc r (by rw [h]; simp)
  have hT : ∀ b, b ∈ R.touched G i → ∃ r o, R.wrE r i = true ∧ R.entD D G r = some (b, o) := fun b hb => by
    obtain ⟨r, o', h1, h2⟩ := mem_touched hb
    exact ⟨r, o', h1, by rw [hE r h1]; exact h2⟩
  have hA : ∀ H : Heaplet, Agrees w H → ∀ b, w.heap.size ≤ b → H b = none := fun H hH b hb => by
    cases h : H b with
    | none => rfl
    | some o' => have := heap_lt (hH b o' h); omega
  have self : ∀ r, R.wrE r i = true → lastW (fun j => dn (D.setIfInBounds i true) j && R.wrE r j) R.ops.size = some i := fun r h => by
    refine lastW_self C.lt hiD h fun k hk hd => ?_
    cases hw : R.wrE r k with
    | false => rfl
    | true =>
      exfalso
      have hcl := later_apart I hr ho hc k hk hd
      obtain ⟨p, _, hp, hpr⟩ := wrE_find h
      obtain ⟨q, _, hq, hqr⟩ := wrE_find hw
      have : R.clash i k = true := by
        unfold clash
        rw [Bool.or_eq_true, Bool.or_eq_true]
        refine .inl (.inr (List.any_eq_true.2 ⟨p, hp, ?_⟩))
        rw [Bool.or_eq_true]
        exact .inl (List.any_eq_true.2 ⟨q, hq, by simp [hpr, hqr]⟩)
      rw [this] at hcl; cases hcl
  have entD' : ∀ r, R.entD (D.setIfInBounds i true) (put G i g) r = if R.wrE r i then R.entOf (put G i g) i r else R.entD D G r := fun r => by
    unfold entD
    by_cases h : R.wrE r i = true
    · rw [self r h, if_pos h]
    · rw [if_neg h, lastW_other hiD (by simpa using h)]
      cases hl : lastW (fun j => dn D j && R.wrE r j) R.ops.size with
      | none => rfl
      | some k =>
        have hdk : dn D k = true := by
          have := (lastW_some hl).2.1
          simp only [Bool.and_eq_true] at this
          exact this.1
        exact entOf_put I.closed hnd hdk
  have entI : ∀ r b o', R.wrE r i = true → R.entOf (put G i g) i r = some (b, o') → ∃ p ∈ R.ups i, p.1 = r ∧ p.2 (put G i g) = some (b, o') := fun r b o' h he => by
    obtain ⟨p, hp, hm, hpr⟩ := wrE_find h
    unfold entOf at he
    rw [hp] at he
    exact ⟨p, hm, hpr, he⟩
  refine ⟨?_, ?_, ?_, ?_, ?_, ?_, ?_, ?_, ?_, ?_, ?_, ?_, ?_⟩
  rotate_right
  · intro j hj b hb
    by_cases e : j = i
    · subst e; rw [put_eq] at hb; exact Nat.le_trans I.base.size (fresh b hb)
    · rw [put_ne e] at hb
      have hdj : dn D j = true := by rw [dn_set hiD] at hj; simpa [show (j == i) = false by simpa using e] using hj
      exact I.newG j hdj b hb
  · cases o.dst <;> exact I.defers
  · cases o.dst with
    | none => exact I.size
    | some d => simp [Act.put, I.size]
  · intro s k hk
    by_cases hw : R.wrS s i = true
    · have hds : o.dst = some s := by rw [← hdst]; simpa [wrS] using hw
      have h1 : lastW (fun j => dn (D.setIfInBounds i true) j && R.wrS s j) R.ops.size = some i := by
        refine lastW_self C.lt hiD hw fun m hm hd => ?_
        cases hwm : R.wrS s m with
        | false => rfl
        | true =>
          exfalso
          have hcl := later_apart I hr ho hc m hm hd
          have : R.dst m = some s := by simpa [wrS] using hwm
          unfold clash at hcl
          rw [hdst, hds, this] at hcl
          simp at hcl
      rw [h1] at hk; cases hk
      have hlt : s < a.tmps.size := by rw [I.size]; exact C.dst s hds
      rw [hds]
      simp [Act.put, hlt, hv]
    · rw [lastW_other hiD (by simpa using hw)] at hk
      have hdk : dn D k = true := by
        have := (lastW_some hk).2.1
        simp only [Bool.and_eq_true] at this
        exact this.1
      rw [slotv_put hc I.closed hnd hdk hpre, ← I.slotW s k hk]
      cases hd : o.dst with
      | none => rfl
      | some d =>
        have hne : d ≠ s := fun e => hw (by simp [wrS, hdst, hd, e])
        simp [Act.put, Array.getElem?_setIfInBounds_ne hne]
  · intro s u hk hu
    by_cases hw : R.wrS s i = true
    · have := lastW_none hk i C.lt
      simp [dn_set hiD, hw] at this
    · rw [lastW_other hiD (by simpa using hw)] at hk
      rw [← I.slot0 s u hk hu]
      cases hd : o.dst with
      | none => rfl
      | some d =>
        have hne : d ≠ s := fun e => hw (by simp [wrS, hdst, hd, e])
        simp [Act.put, Array.getElem?_setIfInBounds_ne hne]
  · refine I.base.step base fun b hb => ?_
    obtain ⟨r, o', _, h2⟩ := hT b hb
    exact (I.ent r b o' h2).2.1
  · intro H hH
    refine (I.agr H hH).step base fun b hb => ?_
    obtain ⟨r, o', _, h2⟩ := hT b hb
    exact (I.ent r b o' h2).2.2.1 H hH
  · intro j hj
    by_cases e : j = i
    · subst e; rw [put_eq]; exact agr
    · rw [put_ne e]
      have hdj : dn D j = true := by rw [dn_set hiD] at hj; simpa [show (j == i) = false by simpa using e] using hj
      refine (I.agrG j hdj).step base fun b hb => ?_
      obtain ⟨r, o', _, h2⟩ := hT b hb
      exact (I.ent r b o' h2).2.2.2 j hdj
  · intro r b o' he
    rw [entD'] at he
    split at he
    · rename_i hw
      obtain ⟨p, hp, hpr, hpe⟩ := entI r b o' hw he
      have hQ : ∀ q ∈ R.ups i, R.wrE q.1 i = true := fun q hq => List.any_eq_true.2 ⟨q, hq, by simp⟩
      obtain ⟨h1, h2, h3⟩ := ent p hp b o' hpe
      refine ⟨h1, ?_, ?_, ?_⟩
      · rcases h2 with h2 | ⟨q, hq, o2, h2⟩
        · exact .inl (Nat.le_trans I.base.size h2)
        · rw [← hE q.1 (hQ q hq)] at h2; exact (I.ent q.1 b o2 h2).2.1
      · intro H hH
        rcases h2 with h2 | ⟨q, hq, o2, h2⟩
        · exact hA H (I.agr H hH) b h2
        · rw [← hE q.1 (hQ q hq)] at h2; exact (I.ent q.1 b o2 h2).2.2.1 H hH
      · intro j hj
        by_cases e : j = i
        · subst e; rw [put_eq]; exact h3
        · rw [put_ne e]
          have hdj : dn D j = true := by rw [dn_set hiD] at hj; simpa [show (j == i) = false by simpa using e] using hj
          rcases h2 with h2 | ⟨q, hq, o2, h2⟩
          · exact hA _ (I.agrG j hdj) b h2
          · rw [← hE q.1 (hQ q hq)] at h2; exact (I.ent q.1 b o2 h2).2.2.2 j hdj
    · rename_i hw
      obtain ⟨h1, h2, h3, h4⟩ := I.ent r b o' he
      have hlt := heap_lt h1
      refine ⟨?_, h2, h3, ?_⟩
      · rw [base.keep b hlt ?_]
        · exact h1
        · intro hb
          obtain ⟨r', o2, a1, a2⟩ := hT b hb
          have := I.dis r r' b o' o2 he a2
          subst this; exact hw a1
      · intro j hj
        by_cases e : j = i
        · subst e; rw [put_eq]
          cases hg : g.H b with
          | none => rfl
          | some o2 => have := fresh b (by rw [hg]; simp); omega
        · rw [put_ne e]
          have hdj : dn D j = true := by rw [dn_set hiD] at hj; simpa [show (j == i) = false by simpa using e] using hj
          exact h4 j hdj
  · intro r r' b o1 o2 he he'
    rw [entD'] at he he'
    split at he
    · rename_i hw
      obtain ⟨p, hp, hpr, hpe⟩ := entI r b o1 hw he
      split at he'
      · rename_i hw'
        obtain ⟨q, hq, hqr, hqe⟩ := entI r' b o2 hw' he'
        rw [← hpr, ← hqr]; exact dis p hp q hq b o1 o2 hpe hqe
      · obtain ⟨_, h2, _⟩ := ent p hp b o1 hpe
        have hlt := heap_lt (I.ent r' b o2 he').1
        rcases h2 with h2 | ⟨q, hq, o3, h2⟩
        · omega
        · have hQ : R.wrE q.1 i = true := List.any_eq_true.2 ⟨q, hq, by simp⟩
          rw [← hE q.1 hQ] at h2
          have := I.dis q.1 r' b o3 o2 h2 he'
          subst this; contradiction
    · split at he'
      · rename_i hw'
        obtain ⟨q, hq, hqr, hqe⟩ := entI r' b o2 hw' he'
        obtain ⟨_, h2, _⟩ := ent q hq b o2 hqe
        have hlt := heap_lt (I.ent r b o1 he).1
        rcases h2 with h2 | ⟨q, hq, o3, h2⟩
        · omega
        · have hQ : R.wrE q.1 i = true := List.any_eq_true.2 ⟨q, hq, by simp⟩
          rw [← hE q.1 hQ] at h2
          have := I.dis r q.1 b o1 o3 he h2
          subst this; contradiction
      · exact I.dis r r' b o1 o2 he he'
  · intro j hj hg
    by_cases e : j = i
    · subst e; exact hf hg
    · have hdj : dn D j = true := by rw [dn_set hiD] at hj; simpa [show (j == i) = false by simpa using e] using hj
      rw [gd_put hc I.closed hnd j (.inl hdj) hpre] at hg
      rw [fact_put I.closed hnd hdj]; exact I.fact j hdj hg
  · intro i' j hi' hb
    rw [dn_set hiD] at hi' ⊢
    by_cases e : i' = i
    · subst e; simp [hpre j hb]
    · have hdi : dn D i' = true := by simpa [show (i' == i) = false by simpa using e] using hi'
      simp [I.closed i' j hdi hb]
  · simp [I.dsz]

theorem filter_lt {p q : Nat → Bool} {x : Nat} : ∀ (l : List Nat), x ∈ l → (∀ y, q y = true → p y = true) → p x = true → q x = false → (l.filter q).length < (l.filter p).length
  | [], h, _, _, _ => by cases h
  | y :: l, h, h1, h2, h3 => by
    have mono : ∀ l : List Nat, (l.filter q).length ≤ (l.filter p).length := fun l => by
      induction l with
      | nil => simp
      | cons z l ih =>
        by_cases hz : q z = true
        · simp [hz, h1 z hz, ih]
        · have hz' : q z = false := by simpa using hz
          cases hp : p z <;> simp [hz', hp] <;> omega
    by_cases e : x = y
    · subst e
      have := mono l
      simp [h2, h3]; omega
    · have hx : x ∈ l := by simpa [e] using h
      have ih := filter_lt l hx h1 h2 h3
      by_cases hz : q y = true
      · simp [hz, h1 y hz, ih]
      · have hz' : q y = false := by simpa using hz
        cases hp : p y <;> simp [hz', hp] <;> omega

def cnt (R : RC) (D : Array Bool) : Nat := ((List.range R.ops.size).filter fun i => !dn D i).length
theorem cnt_set {D : Array Bool} {i : Nat} (hD : i < D.size) (hi : i < R.ops.size) (hn : dn D i = false) : cnt R (D.setIfInBounds i true) < cnt R D := by
  refine filter_lt (x := i) _ (List.mem_range.2 hi) (fun y hy => ?_) (by simp [hn]) (by simp [dn_set hD])
  rw [dn_set hD] at hy
  cases h : dn D y with
  | false => rfl
  | true => simp [h] at hy

theorem all_done {nt : Nat} (hc : R.check nt = true) {D : Array Bool} (hD : D.size = R.ops.size) (h : Region.ready .any R.ops D = []) : ∀ i, i < R.ops.size → dn D i = true := by
  intro i
  induction i using Nat.strongRecOn with
  | _ i ih =>
    intro hi
    cases hd : dn D i with
    | true => rfl
    | false =>
      exfalso
      have ho : R.ops[i]? = some R.ops[i] := Array.getElem?_eq_getElem hi
      have : i ∈ Region.ready .any R.ops D := by
        refine mem_ready.2 ⟨?_, _, ho, fun e he hb => ?_⟩
        · unfold dn at hd
          have : i < D.size := hD ▸ hi
          simp [this] at hd ⊢; exact hd
        · have h1 := (chk hc ho).aft e he hb
          exact ih e.on h1 (by omega)
      rw [h] at this; cases this

theorem any_of_inv {P : Program} {nt : Nat} {w0 : World} {X : List Nat} {Q : Exit → Act → World → Prop} (hc : R.check nt = true) (hok : ∀ i, R.Ok P w0 X i)
    (K : ∀ D G a w, R.Inv nt w0 X D G a w → (∀ i, i < R.ops.size → dn D i = true) → Q .normal a w) :
    ∀ fuel D G a w, cnt R D ≤ fuel → R.Inv nt w0 X D G a w → wpAny P .any R.ops Q fuel D a w := by
  intro fuel
  induction fuel with
  | zero =>
    intro D G a w h0 I
    have hd : ∀ i, i < R.ops.size → dn D i = true := fun i hi => by
      cases h : dn D i with
      | true => rfl
      | false =>
        have : i ∈ (List.range R.ops.size).filter fun i => !dn D i := List.mem_filter.2 ⟨List.mem_range.2 hi, by simp [h]⟩
        unfold cnt at h0
        rw [List.length_eq_zero_iff.1 (Nat.le_zero.1 h0)] at this; cases this
    refine ⟨?_, K D G a w I hd⟩
    cases hr : Region.ready .any R.ops D with
    | nil => rfl
    | cons i l =>
      exfalso
      have hi : i ∈ Region.ready .any R.ops D := by rw [hr]; simp
      obtain ⟨_, o, ho, _⟩ := mem_ready.1 hi
      have := not_done I hi ho
      rw [hd i (Array.getElem?_eq_some_iff.1 ho).1] at this; cases this
  | succ fuel ih =>
    intro D G a w h0 I
    refine ⟨fun hr => K D G a w I (all_done hc I.dsz hr), fun i hi => ?_⟩
    obtain ⟨_, o, ho, _⟩ := mem_ready.1 hi
    have C := chk hc ho
    have hnd := not_done I hi ho
    have hpre := pre_done I hi ho hc
    have hiD : i < D.size := I.dsz ▸ C.lt
    have hcnt : cnt R (D.setIfInBounds i true) ≤ fuel := by have := cnt_set (R := R) hiD C.lt hnd; omega
    have gdi : ∀ g, R.gd (put G i g) i = R.gd G i := fun g => gd_put hc I.closed hnd i (.inr rfl) hpre
    -- is the operation wanted?
    have hw : Region.wanted o (yielded R.ops a.tmps) = R.gd G i := by
      rw [gd_eq hc]
      unfold Region.wanted
      have hgrd : R.grd i = o.guard := by simp [grd, ho]
      rw [hgrd]
      cases hg : o.guard with
      | none => rfl
      | some jw =>
        obtain ⟨j, want⟩ := jw
        obtain ⟨hj, hb, _, d, hd, hl⟩ := C.grd j want hg
        have hrd := read_slot I hi ho hc d (.inr ⟨j, want, hg, hd⟩)
        rw [hl] at hrd
        have hs := I.slotW d j hrd
        have hy : yielded R.ops a.tmps j = match R.slotv G j with | .bool b => some b | _ => none := by
          unfold yielded
          have : (R.ops[j]?).bind (·.dst) = some d := hd
          rw [this]
          simp only [Option.bind_some, hs]
          cases R.slotv G j <;> rfl
        simp only []
        rw [hy]
        unfold slotv
        cases hgj : R.gd G j with
        | false => rfl
        | true =>
          simp only [cond_true, Bool.true_and]
          cases R.val j G <;> simp [isB]
    unfold wpOp
    simp only [ho, hw]
    cases hgd : R.gd G i with
    | false =>
      simp only [Bool.false_eq_true, if_false]
      refine ih _ (put G i {}) _ _ hcnt (inv_step I hi ho hc ?_ ?_ ?_ ?_ ?_ ?_ ?_)
      · unfold slotv; rw [gdi, hgd]; rfl
      · intro h; rw [gdi, hgd] at h; cases h
      · exact Base.refl _ _
      · intro b o' h; cases h
      · intro b h; exact absurd rfl h
      all_goals
        intro p hp
        exfalso
        have hg : R.grd i ≠ none := fun h => by rw [gd_eq hc, h] at hgd; cases hgd
        cases hgr : R.grd i with
        | none => exact hg hgr
        | some jw =>
          obtain ⟨j, want⟩ := jw
          obtain ⟨o', ho', hgo⟩ := grd_some hgr
          rw [ho] at ho'; cases ho'
          rw [(C.grd j want hgo).2.2.1] at hp; cases hp
    | true =>
      simp only [if_true]
      refine .inl ?_
      have S : R.Sees w0 X G i w := by
        refine ⟨fun j hj hg => I.fact j (hpre j hj) hg, fun j hj => I.agrG j (hpre j hj), I.agr, fun r hr b o' he => ?_, I.base, hgd, fun r r' b o' o'' h h' he he' => I.dis r r' b o' o'' (by rw [read_ent I hi ho hc r h]; exact he) (by rw [read_ent I hi ho hc r' h']; exact he')⟩
        have := read_ent I hi ho hc r hr
        rw [← this] at he
        obtain ⟨h1, h2, h3, h4⟩ := I.ent r b o' he
        exact ⟨h1, h2, h3, fun j hj => h4 j (hpre j hj)⟩
      have hd := hok i o ho G w S
      have hcg : execOp (R.evalAt G i) o = execOp a.eval o := by
        refine execOp_congr o C.sel fun x hx => ?_
        cases x with
        | tmp t =>
          have ht : t ∈ reads o := List.mem_filterMap.2 ⟨.tmp t, by simpa using hx, rfl⟩
          have hlk : (R.looks i).contains t = true := by simp [looks, ho, ht]
          have hrd := read_slot I hi ho hc t (.inl hlk)
          show R.rdSlot G i t = a.tmps.getD t undef
          unfold rdSlot
          cases hl : lastW (R.wrS t) i with
          | some k =>
            rw [hl] at hrd
            have hs := I.slotW t k hrd
            have : a.tmps.getD t undef = R.slotv G k := by simp [Array.getD_eq_getD_getElem?, hs]
            rw [this]
            simp only []
            cases hu : R.under i k with
            | false => rfl
            | true =>
              simp only [cond_true]
              unfold slotv
              rw [under_true hc G hgd hu]; rfl
          | none =>
            rw [hl] at hrd
            rcases C.rd t ht with h | h
            · rw [hl] at h; cases h
            · obtain ⟨u, hu⟩ := Option.isSome_iff_exists.1 h
              have hs := I.slot0 t u hrd hu
              simp [hu, Array.getD_eq_getD_getElem?, hs]
        | _ => rfl
      refine (hd.congr hcg).wp fun v w' ⟨g, L⟩ => ih _ (put G i g) _ _ hcnt (inv_step I hi ho hc ?_ (fun _ => L.fact) L.base L.agr L.fresh L.ent L.dis)
      unfold slotv; rw [gdi, hgd]; exact L.v

theorem foldB_mem {o : Oper} {j : Nat} {e : Edge} (he : e ∈ o.after) (hb : Region.binds .any e = true) (h : j = e.on ∨ (R.B.getD e.on 0).testBit j = true) : (R.foldB o).testBit j = true := by
  unfold foldB
  rw [← Array.foldl_toList]
  have mono : ∀ (l : List Edge) (s : Nat), s.testBit j = true → (l.foldl (fun s e => if Region.binds .any e then s ||| 2 ^ e.on ||| R.B.getD e.on 0 else s) s).testBit j = true := by
    intro l
    induction l with
    | nil => intro s h; exact h
    | cons e l ih =>
      intro s h
      simp only [List.foldl_cons]
      refine ih _ ?_
      split
      · simp [Nat.testBit_or, h]
      · exact h
  have key : ∀ (l : List Edge) (s : Nat), e ∈ l → (l.foldl (fun s e => if Region.binds .any e then s ||| 2 ^ e.on ||| R.B.getD e.on 0 else s) s).testBit j = true := by
    intro l
    induction l with
    | nil => intro s h; cases h
    | cons e' l ih =>
      intro s hm
      simp only [List.foldl_cons]
      rcases List.mem_cons.1 hm with rfl | hm
      · refine mono l _ ?_
        rw [if_pos hb]
        simp only [Nat.testBit_or, Bool.or_eq_true]
        rcases h with rfl | h
        · exact .inl (.inr (by rw [Nat.testBit_two_pow]; simp))
        · exact .inr h
      · exact ih _ hm
  exact key _ _ (by simpa using he)
theorem bef_lt {nt : Nat} (hc : R.check nt = true) : ∀ m, m < R.ops.size → ∀ j, R.bef m j = true → j < m := by
  intro m
  induction m using Nat.strongRecOn with
  | _ m ih =>
    intro hm j h1
    have C := chk hc (Array.getElem?_eq_getElem hm)
    unfold bef at h1
    rw [C.b] at h1
    obtain ⟨e, he, hb, h3⟩ := foldB_spec h1
    have hlt := C.aft e he hb
    rcases h3 with rfl | h3
    · exact hlt
    · have := ih e.on hlt (by omega) j h3; omega
theorem bef_trans {nt : Nat} (hc : R.check nt = true) : ∀ m, m < R.ops.size → ∀ i j, R.bef m i = true → R.bef i j = true → R.bef m j = true := by
  intro m
  induction m using Nat.strongRecOn with
  | _ m ih =>
    intro hm i j h1 h2
    have C := chk hc (Array.getElem?_eq_getElem hm)
    unfold bef at h1 h2 ⊢
    rw [C.b] at h1 ⊢
    obtain ⟨e, he, hb, h3⟩ := foldB_spec h1
    have hlt := C.aft e he hb
    rcases h3 with rfl | h3
    · exact foldB_mem he hb (.inr h2)
    · exact foldB_mem he hb (.inr (ih e.on hlt (by omega) i j h3 h2))

/-- program order is one of the orders -/
theorem seq_of_any {P : Program} {ops : Array Oper} {Q : Exit → Act → World → Prop} (hlt : ∀ (i : Nat) (o : Oper), ops[i]? = some o → ∀ e ∈ o.after, Region.binds .any e = true → e.on < i) :
    ∀ m i (D : Array Bool) a w, i + m = ops.size → D.size = ops.size → (∀ j, dn D j = decide (j < i)) → wpAny P .any ops Q m D a w → wpOps P ops Q (List.range' i m) a w := by
  intro m
  induction m with
  | zero => intro i D a w _ _ _ h; exact h.2
  | succ m ih =>
    intro i D a w him hD hd h
    rw [List.range'_succ, wpOps_cons]
    have hi : i < ops.size := by omega
    have ho : ops[i]? = some ops[i] := Array.getElem?_eq_getElem hi
    have hr : i ∈ Region.ready .any ops D := by
      refine mem_ready.2 ⟨?_, _, ho, fun e he hb => ?_⟩
      · have := hd i
        unfold dn at this
        have hiD : i < D.size := hD ▸ hi
        simp [hiD] at this ⊢; exact this
      · have := hlt i _ ho e he hb
        have h2 := hd e.on
        unfold dn at h2
        rw [h2]; simp [this]
    refine wpOp_mono (fun a' w' h' => ih (i + 1) _ a' w' (by omega) (by simp [hD]) (fun j => ?_) h') (h.2 i hr)
    rw [dn_set (hD ▸ hi), hd j]
    by_cases e : j = i
    · subst e; simp
    · have : (j == i) = false := by simpa using e
      rw [this]
      by_cases h1 : j < i
      · have : j < i + 1 := by omega
        simp [h1, this]
      · have : ¬ j < i + 1 := by omega
        simp [h1, this]

def fin (R : RC) (G : Nat → Rec) (s : Nat) : Value := match lastW (R.wrS s) R.ops.size with
  | some k => R.slotv G k
  | none => (R.sl.lookup s).getD undef
def entF (R : RC) (G : Nat → Rec) (r : Nat) : Ent := match lastW (R.wrE r) R.ops.size with
  | some k => R.entOf G k r
  | none => (R.L[r]?).getD none
/-- behind the region -/
structure Done (R : RC) (nt : Nat) (w0 : World) (X : List Nat) (G : Nat → Rec) (a : Act) (w : World) : Prop where
  fact : ∀ i, i < R.ops.size → R.gd G i = true → R.fact i G
  slots : ∀ outs : List Nat, (∀ s ∈ outs, (lastW (R.wrS s) R.ops.size).isSome = true ∨ (R.sl.lookup s).isSome = true) → SlotsOK nt (outs.map fun s => (s, R.fin G s)) a
  st : ∀ hs : List Nat, (∀ i ∈ hs, i < R.ops.size) → StW w0 X (hs.map (fun i => (G i).H) ++ R.A) ((List.range R.L.length).map (R.entF G)) w
  newG : ∀ i, i < R.ops.size → ∀ b, (G i).H b ≠ none → w0.heap.size ≤ b

theorem region {P : Program} {nt : Nat} {w0 : World} {X : List Nat} {Q : Exit → Act → World → Prop} {a : Act} {w : World} {id : Nat} {draw : Bool} (hm : P.follows .mixedOrders = true)
    (hc : R.check nt = true) (hok : ∀ i, R.Ok P w0 X i) (hs : SlotsOK nt R.sl a) (hw : StW w0 X R.A R.L w)
    (K : ∀ G a w, R.Done nt w0 X G a w → Q .normal a w) : (Code.region id R.ops draw).wp P Q a w := by
  have K' : ∀ D G a w, R.Inv nt w0 X D G a w → (∀ i, i < R.ops.size → dn D i = true) → Q .normal a w := by
    intro D G a w I hd
    have eS : ∀ s, lastW (fun j => dn D j && R.wrS s j) R.ops.size = lastW (R.wrS s) R.ops.size := fun s => lastW_congr _ fun k hk => by simp [hd k hk]
    have eE : ∀ r, R.entD D G r = R.entF G r := fun r => by
      unfold entD entF
      rw [show lastW (fun j => dn D j && R.wrE r j) R.ops.size = lastW (R.wrE r) R.ops.size from lastW_congr _ fun k hk => by simp [hd k hk]]
    refine K G a w ⟨fun i hi hg => I.fact i (hd i hi) hg, fun outs ho => ⟨I.defers, I.size, fun s v hv => ?_⟩, fun hs hl => ⟨I.base, ?_, ?_, ?_⟩, fun i hi => I.newG i (hd i hi)⟩
    · have hmem : s ∈ outs ∧ v = R.fin G s := by
        clear ho
        induction outs with
        | nil => cases hv
        | cons t l ih =>
          simp only [List.map_cons, List.lookup_cons] at hv
          by_cases e : s = t
          · subst e; simp at hv; exact ⟨by simp, hv.symm⟩
          · have : (s == t) = false := by simpa using e
            rw [this] at hv
            have := ih hv
            exact ⟨by simp [this.1], this.2⟩
      obtain ⟨h1, rfl⟩ := hmem
      unfold fin
      cases hl : lastW (R.wrS s) R.ops.size with
      | some k => exact I.slotW s k (by rw [eS, hl])
      | none =>
        rcases ho s h1 with h | h
        · rw [hl] at h; cases h
        · obtain ⟨u, hu⟩ := Option.isSome_iff_exists.1 h
          simp only [hu, Option.getD_some]
          exact I.slot0 s u (by rw [eS, hl]) hu
    · intro H hH
      rcases List.mem_append.1 hH with h | h
      · obtain ⟨i, hi, rfl⟩ := List.mem_map.1 h
        exact I.agrG i (hd i (hl i hi))
      · exact I.agr H h
    · intro r b o he
      have he' : R.entD D G r = some (b, o) := by
        rw [eE]
        rcases Nat.lt_or_ge r R.L.length with h | h
        · simpa [h] using he
        · simp [Nat.not_lt.2 h] at he
      obtain ⟨h1, h2, h3, h4⟩ := I.ent r b o he'
      refine ⟨h1, h2, fun H hH => ?_⟩
      rcases List.mem_append.1 hH with h | h
      · obtain ⟨i, hi, rfl⟩ := List.mem_map.1 h
        exact h4 i (hd i (hl i hi))
      · exact h3 H h
    · intro r r' b o o' he he'
      have h1 : ∀ r o, ((List.range R.L.length).map (R.entF G))[r]? = some (some (b, o)) → R.entD D G r = some (b, o) := fun r o h => by
        rw [eE]
        rcases Nat.lt_or_ge r R.L.length with hh | hh
        · simpa [hh] using h
        · simp [Nat.not_lt.2 hh] at h
      exact I.dis r r' b o o' (h1 r o he) (h1 r' o' he')
  have start : ∀ w, StW w0 X R.A R.L w → R.Inv nt w0 X (Array.replicate R.ops.size false) (fun _ => {}) a w := fun w hw => by
    have hdn : ∀ j, dn (Array.replicate R.ops.size false) j = false := fun j => by unfold dn; simp only [Array.getD_eq_getD_getElem?, Array.getElem?_replicate]; split <;> simp
    have hl : ∀ p : Nat → Bool, lastW (fun j => dn (Array.replicate R.ops.size false) j && p j) R.ops.size = none := fun p => by
      rw [lastW_cut 0 _ (Nat.zero_le _) (fun k _ _ => by simp [hdn])]; rfl
    have eL : ∀ r b o, R.entD (Array.replicate R.ops.size false) (fun _ => {}) r = some (b, o) → R.L[r]? = some (some (b, o)) := fun r b o h => by
      unfold entD at h
      rw [hl] at h
      cases hr : R.L[r]? with
      | none => simp [hr] at h
      | some e => simp [hr] at h; rw [h]
    refine ⟨hs.defers, hs.size, fun s k h => ?_, fun s v _ hv => hs.slot s v hv, hw.base, hw.agr, fun j hj => ?_, fun r b o h => ?_, fun r r' b o o' h h' => hw.dis r r' b o o' (eL r b o h) (eL r' b o' h'), fun j hj => ?_, fun i j hi => ?_, by simp, fun j hj => by rw [hdn] at hj; cases hj⟩
    · rw [hl] at h; cases h
    · rw [hdn] at hj; cases hj
    · obtain ⟨h1, h2, h3⟩ := hw.ent r b o (eL r b o h)
      exact ⟨h1, h2, h3, fun j _ => rfl⟩
    · rw [hdn] at hj; cases hj
    · rw [hdn] at hi; cases hi
  have hcnt : cnt R (Array.replicate R.ops.size false) ≤ R.ops.size := by
    unfold cnt
    exact Nat.le_trans (List.length_filter_le _ _) (by simp)
  cases draw with
  | true =>
    refine wp_region_any hm (any_of_inv hc hok K' _ _ _ _ _ hcnt (start _ ?_))
    exact ⟨⟨hw.base.os, hw.base.tape, hw.base.output, hw.base.size, hw.base.keep⟩, hw.agr, hw.ent, hw.dis⟩
  | false =>
    refine wp_region ?_
    rw [List.range_eq_range']
    refine seq_of_any (fun i o ho => (chk hc ho).aft) _ 0 _ a w (by simp) (by simp) (fun j => ?_) (any_of_inv hc hok K' _ _ _ _ _ hcnt (start w hw))
    unfold dn; simp only [Array.getD_eq_getD_getElem?, Array.getElem?_replicate]; split <;> simp
end RC
end Kb
