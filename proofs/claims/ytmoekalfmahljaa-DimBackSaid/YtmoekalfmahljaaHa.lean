/- Regions by hints: each operation has a word for what it does, one reckoning of the kernel holds the words against the code. No program in sight. -/
import Derived.Test.YtmoekalfmahljaaKf
set_option linter.unusedVariables false
set_option linter.unusedSectionVars false
set_option linter.unusedSimpArgs false
namespace Kb
open Go

/-! ### parts of memory, joined -/
def whole (w : World) : Heaplet := fun b => w.heap[b]?
theorem agrees_sub {w : World} {H : Heaplet} (h : Agrees w H) : Sub H (whole w) := h
theorem sub_none {J : Heaplet} : Sub (fun _ => none) J := fun _ _ h => by cases h
theorem hun_right' {A B U : Heaplet} (hA : Sub A U) (hB : Sub B U) : Sub B (hun A B) := fun b o e => by
  unfold hun
  split
  · rename_i o' h1
    have a := hA b _ h1
    rw [hB b _ e] at a; exact a.symm
  · exact e
theorem hun_assoc (A B C : Heaplet) : hun (hun A B) C = hun A (hun B C) := funext fun b => by
  unfold hun
  cases A b <;> rfl
/-- B, and what the operations below n have left -/
def JV (G : Gh) (B : Heaplet) : Nat → Heaplet
  | 0 => B
  | n + 1 => hun (G n).H (JV G B n)
theorem JV_le {G : Gh} {B J : Heaplet} (hB : Sub B J) : ∀ n, (∀ j, j < n → Sub (G j).H J) → Sub (JV G B n) J
  | 0, _ => hB
  | n + 1, h => hun_sub (h n (by omega)) (JV_le hB n fun j hj => h j (by omega))
theorem JV_base {U : Heaplet} {G : Gh} {B : Heaplet} (hB : Sub B U) : ∀ n, (∀ j, j < n → Sub (G j).H U) → Sub B (JV G B n)
  | 0, _ => Sub.refl _
  | n + 1, h => (JV_base hB n fun j hj => h j (by omega)).trans (hun_right' (h n (by omega)) (JV_le hB n fun j hj => h j (by omega)))
theorem JV_mem {U : Heaplet} {G : Gh} {B : Heaplet} (hB : Sub B U) : ∀ n, (∀ j, j < n → Sub (G j).H U) → ∀ j, j < n → Sub (G j).H (JV G B n)
  | n + 1, h, j, hj => by
    by_cases e : j = n
    · subst e; exact hun_left
    · exact (JV_mem hB n (fun j hj => h j (by omega)) j (by omega)).trans (hun_right' (h n (by omega)) (JV_le hB n fun j hj => h j (by omega)))
theorem JV_mono {U : Heaplet} {G G' : Gh} {B B' : Heaplet} (hB : Sub B' U) (n : Nat) (h : ∀ j, j < n → Sub (G' j).H U) (k : ∀ j, j < n → (G j).H = (fun _ => none) ∨ (G j).H = (G' j).H) (hBB : Sub B B') : Sub (JV G B n) (JV G' B' n) :=
  JV_le (hBB.trans (JV_base hB n h)) n fun j hj => by
    rcases k j hj with e | e <;> rw [e]
    · exact sub_none
    · exact JV_mem hB n h j hj
theorem JV_new {w0 : World} {G : Gh} {B : Heaplet} (hB : New w0 B) : ∀ n, (∀ j, j < n → New w0 (G j).H) → New w0 (JV G B n)
  | 0, _ => hB
  | n + 1, h => fun b hb => by
    have ih := JV_new hB n fun j hj => h j (by omega)
    simp only [JV, hun] at hb
    split at hb
    · rename_i o e; exact h n (by omega) b (by rw [e]; simp)
    · exact ih b hb
theorem JV_hun {G : Gh} {N H : Heaplet} : ∀ n, JV G (hun N H) n = hun (JV G N n) H
  | 0 => rfl
  | n + 1 => by simp only [JV]; rw [JV_hun n, hun_assoc]

/-! ### what is known of memory -/
def conjL : List Prop → Prop
  | [] => True
  | p :: l => p ∧ conjL l
theorem conjL_mem {l : List Prop} : conjL l → ∀ p ∈ l, p := by
  induction l with
  | nil => intro _ p hp; cases hp
  | cons q l ih =>
    intro h p hp
    rcases List.mem_cons.1 hp with rfl | hp
    · exact h.1
    · exact ih h.2 p hp
theorem conjL_of {l : List Prop} : (∀ p ∈ l, p) → conjL l := by
  induction l with
  | nil => intro _; trivial
  | cons q l ih => intro h; exact ⟨h q (by simp), ih fun p hp => h p (by simp [hp])⟩
/-- the same, taken as one -/
structure Knw (l : List Prop) : Prop where
  h : conjL l
/-- something that can be read; t: out of new memory alone -/
structure FP where
  t : Bool
  p : Heaplet → Prop
  m : ∀ H K, Sub H K → p H → p K
  q : Prop
  hq : ∀ H, p H → q
def FP.at (f : FP) (N K : Heaplet) : Prop := bif f.t then f.p N else f.p K
theorem OSl.lq {α : Type} [Dat α] {E : TypeId} {e : Ent} {H : Heaplet} {l : List α} {v : Value} (h : OSl E H l v e) : Lq l v := ⟨h.lim, fun s es hn => by
  obtain ⟨a, c, e', h1, _⟩ := h.isSl
  rw [es] at e'
  have ha : s.a = a := by injection e'
  have : s.a = none := by simpa using hn
  exact List.eq_nil_of_length_eq_zero (h1 (ha ▸ this))⟩
def fr {α : Type} [Dat α] (t : Bool) (l : List α) (v : Value) : FP := ⟨t, fun H => RSl H l v, fun _ _ k h => h.mono k, Lq l v, fun _ h => h.lq⟩
theorem FP.mono {f : FP} {N K N' K' : Heaplet} (h : f.at N K) (h1 : Sub N N') (h2 : Sub K K') : f.at N' K' := by
  unfold FP.at at *
  cases e : f.t <;> rw [e] at h
  · exact f.m _ _ h2 h
  · exact f.m _ _ h1 h
theorem FP.to {f : FP} {N K U : Heaplet} (h : f.at N K) (h1 : Sub N U) (h2 : Sub K U) : f.p U := by
  unfold FP.at at h
  cases e : f.t <;> rw [e] at h
  · exact f.m _ _ h2 h
  · exact f.m _ _ h1 h
/-- an entry: a block written out, or a slice of the call's own -/
inductive LE where
  | no
  | blk (b : Nat) (arr : Array Value) (T : TypeId)
  | own (t : Bool) (p : Ent → Heaplet → Prop) (m : ∀ e H K, Sub H K → p e H → p e K) (q : Prop) (hq : ∀ e H, p e H → q)
def LE.ent (x : Ent) : LE → Ent
  | .no => none
  | .blk b arr T => some (b, .cells arr T)
  | .own _ _ _ _ _ => x
def LE.at (e : Ent) (N K : Heaplet) : LE → Prop
  | .own t p _ _ _ => bif t then p e N else p e K
  | _ => True
def LE.ats (e : Ent) (N K : Heaplet) : LE → List Prop
  | .own t p _ _ _ => [bif t then p e N else p e K]
  | _ => []
def ow {α : Type} [Dat α] (t : Bool) (E : TypeId) (l : List α) (v : Value) : LE := .own t (fun e H => OSl E H l v e) (fun _ _ _ k h => h.mono k) (Lq l v) (fun _ _ h => h.lq)
theorem LE.mono {x : LE} {e : Ent} {N K N' K' : Heaplet} (h : x.at e N K) (h1 : Sub N N') (h2 : Sub K K') : x.at e N' K' := by
  cases x with
  | own t p m q hq =>
    cases t
    · exact m _ _ _ h2 h
    · exact m _ _ _ h1 h
  | _ => trivial
theorem LE.ats_at {x : LE} {e : Ent} {N K : Heaplet} : conjL (x.ats e N K) ↔ x.at e N K := by
  cases x with
  | own t p m q hq => exact ⟨fun h => h.1, fun h => ⟨h, trivial⟩⟩
  | _ => exact Iff.rfl
def ents : List LE → (Nat → Ent) → List Ent
  | [], _ => []
  | x :: l, ε => x.ent (ε 0) :: ents l (fun k => ε (k + 1))
theorem ents_get : ∀ (L : List LE) (ε : Nat → Ent) (r : Nat), (ents L ε)[r]? = (L[r]?).map fun x => x.ent (ε r)
  | [], _, r => by simp [ents]
  | x :: l, ε, 0 => by simp [ents]
  | x :: l, ε, r + 1 => by simp [ents, ents_get l]
theorem ents_len : ∀ (L : List LE) (ε : Nat → Ent), (ents L ε).length = L.length
  | [], _ => rfl
  | x :: l, ε => by simp [ents, ents_len l]
def LE.lim : LE → List Prop
  | .own _ _ _ q _ => [q]
  | _ => []
theorem LE.lim_of {x : LE} {e : Ent} {N K : Heaplet} (h : x.at e N K) : ∀ p ∈ x.lim, p := by
  cases x with
  | own t p m q hq =>
    intro p' hp
    have : p' = q := by simpa [LE.lim] using hp
    subst this
    cases t
    · exact hq _ _ h
    · exact hq _ _ h
  | _ => intro p hp; cases hp
theorem FP.lim_of {f : FP} {N K : Heaplet} (h : f.at N K) : f.q := by
  unfold FP.at at h
  cases e : f.t <;> rw [e] at h
  · exact f.hq _ h
  · exact f.hq _ h
/-- slots, what can be read, entries -/
structure St where
  sl : Slots
  F : List FP
  L : List LE
structure St.In (t : St) (nt : Nat) (w0 : World) (X : List Nat) (H N : Heaplet) (ε : Nat → Ent) (a : Act) (w : World) : Prop where
  slots : SlotsOK nt t.sl a
  st : StW w0 X [hun N H] (ents t.L ε) w
  new : New w0 N
  facts : ∀ f ∈ t.F, f.at N (hun N H)
  own : ∀ (r : Nat) (x : LE), t.L[r]? = some x → x.at (ε r) N (hun N H)

/-! ### hints -/
/-- what an operation comes to: its value, what can be read behind it, the entries it writes, what else is known -/
structure HintD where
  val : Gh → Value
  facts : Gh → List FP := fun _ => []
  news : List (Nat × (Gh → LE) × (Gh → Ent)) := []
  rds : List Nat := []
  pu : Gh → List Prop := fun _ => []
def HintD.cert (h : HintD) (N K : Heaplet) (n : Nat) : OpC :=
  { val := h.val, ups := h.news.map fun q => (q.1, fun G => (q.2.1 G).ent (q.2.2 G)), rds := h.rds
    fact := fun G => conjL ((h.facts G).map (fun f => f.at (JV G N n) (JV G K n)) ++ h.news.flatMap (fun q => (q.2.1 G).ats (q.2.2 G) (JV G N n) (JV G K n)) ++ h.pu G) }
def foldBL (B : List Nat) (o : Oper) : Nat := o.after.foldl (fun s e => if Region.binds .any e then s ||| 2 ^ e.on ||| B.getD e.on 0 else s) 0
def befsL : List Oper → List Nat → List Nat
  | [], B => B
  | o :: l, B => befsL l (B ++ [foldBL B o])
structure Cx (P : Program) where
  nt : Nat
  w0 : World
  X : List Nat
  H : Heaplet
  N : Heaplet
  ε : Nat → Ent
  t : St
  ops : Array Oper
  hs : List HintD
namespace Cx
variable {P : Program} (c : Cx P)
def K : Heaplet := hun c.N c.H
def R : RC := { ops := c.ops, cs := c.hs.map (·.cert c.N (hun c.N c.H) c.ops.size), B := befsL c.ops.toList [], sl := c.t.sl, A := [hun c.N c.H], L := ents c.t.L c.ε }
structure Ok : Prop where
  hc : c.R.check c.nt = true
  len : c.hs.length = c.ops.size
  new : New c.w0 c.N
  facts : ∀ f ∈ c.t.F, f.at c.N (hun c.N c.H)
  own : ∀ (r : Nat) (x : LE), c.t.L[r]? = some x → x.at (c.ε r) c.N (hun c.N c.H)
/-- ahead of op i -/
def pre (i : Nat) (G : Gh) : Gh := fun j => bif c.R.bef i j then G j else {}
def B0 (t : Bool) : Heaplet := bif t then c.N else hun c.N c.H
/-- what lies ahead of op i can be read in it -/
def J (i : Nat) (G : Gh) (t : Bool) : Heaplet := JV (c.pre i G) (c.B0 t) c.ops.size
variable {c}
theorem c_of {i : Nat} {h : HintD} (hi : c.hs[i]? = some h) : c.R.c i = h.cert c.N (hun c.N c.H) c.ops.size := by
  unfold RC.c
  show (c.hs.map _).getD i _ = _
  rw [List.getD_eq_getElem?_getD, List.getElem?_map, hi]; rfl
theorem B0_le (t : Bool) : Sub (c.B0 t) (hun c.N c.H) := by
  cases t
  · exact Sub.refl _
  · exact hun_left
theorem B0_true_le (t : Bool) : Sub (c.B0 true) (c.B0 t) := by
  cases t
  · exact hun_left
  · exact Sub.refl _
section
variable {i : Nat} {G : Gh} {w : World} (hs : c.R.Sees c.w0 c.X G i w)
include hs
theorem K_agrees : Agrees w (hun c.N c.H) := hs.agr _ (by show _ ∈ [_]; simp)
theorem B0_sub (t : Bool) : Sub (c.B0 t) (whole w) := (B0_le t).trans (K_agrees hs)
theorem pre_sub (j : Nat) : Sub (c.pre i G j).H (whole w) := by
  unfold pre
  cases hb : c.R.bef i j with
  | false => exact sub_none
  | true => exact hs.agrG j hb
theorem J_le (t : Bool) : Sub (c.J i G t) (whole w) := JV_le (B0_sub hs t) _ fun j _ => pre_sub hs j
theorem J_base (t : Bool) : Sub (c.B0 t) (c.J i G t) := JV_base (B0_sub hs t) _ fun j _ => pre_sub hs j
theorem J_true_le (t : Bool) : Sub (c.J i G true) (c.J i G t) := JV_mono (B0_sub hs t) _ (fun j _ => pre_sub hs j) (fun _ _ => .inr rfl) (B0_true_le t)
theorem J_le_false (t : Bool) : Sub (c.J i G t) (c.J i G false) := by
  cases t
  · exact Sub.refl _
  · exact J_true_le hs false
/-- the facts of an earlier operation, on what lies ahead of this one -/
theorem vis_le (ok : c.Ok) (hi : i < c.ops.size) {j : Nat} (hj : c.R.bef i j = true) (t : Bool) : Sub (JV (c.R.vis j G) (c.B0 t) c.ops.size) (c.J i G t) :=
  JV_mono (B0_sub hs t) _ (fun k _ => pre_sub hs k) (fun k hk => by
    unfold RC.vis pre
    cases hb : (c.R.bef j k || k == j) with
    | false => exact .inl rfl
    | true =>
      have : c.R.bef i k = true := by
        rw [Bool.or_eq_true] at hb
        rcases hb with hb | hb
        · exact RC.bef_trans ok.hc i hi j k hj hb
        · rw [show k = j by simpa using hb]; exact hj
      rw [this]; exact .inr rfl) (Sub.refl _)
theorem opfact (ok : c.Ok) (hi : i < c.ops.size) {j : Nat} {h : HintD} (hj : c.hs[j]? = some h) (hb : c.R.bef i j = true) (hg : c.R.gd G j = true) :
    (∀ f ∈ h.facts (c.R.vis j G), f.at (c.J i G true) (c.J i G false)) ∧ (∀ q ∈ h.news, (q.2.1 (c.R.vis j G)).at (q.2.2 (c.R.vis j G)) (c.J i G true) (c.J i G false)) ∧ conjL (h.pu (c.R.vis j G)) := by
  have hf := hs.fact j hb hg
  unfold RC.fact at hf
  rw [c_of hj] at hf
  have hf := conjL_mem hf
  have e1 := vis_le hs ok hi hb true
  have e2 := vis_le hs ok hi hb false
  refine ⟨fun f hm => ?_, fun q hq => ?_, conjL_of fun p hp => ?_⟩
  · exact FP.mono (hf _ (by simp only [List.mem_append, List.mem_map]; exact .inl (.inl ⟨f, hm, rfl⟩))) e1 e2
  · refine LE.mono (LE.ats_at.1 (conjL_of fun p hp => ?_)) e1 e2
    exact hf _ (by simp only [List.mem_append, List.mem_flatMap]; exact .inl (.inr ⟨q, hq, hp⟩))
  · exact hf _ (by simp only [List.mem_append]; exact .inr hp)
/-- behind the operation: g has left new memory -/
theorem post_le (ok : c.Ok) (t : Bool) {g : Rec} (hf : ∀ b, g.H b ≠ none → w.heap.size ≤ b) (hi : i < c.ops.size) :
    Sub (c.J i G t) (JV (c.R.vis i (RC.put G i g)) (c.B0 t) c.ops.size) ∧ Sub g.H (JV (c.R.vis i (RC.put G i g)) (c.B0 t) c.ops.size) := by
  have hU : ∀ A : Heaplet, Sub A (whole w) → Sub A (hun g.H (whole w)) := fun A hA b o e => by
    unfold hun
    have hb : b < w.heap.size := RC.heap_lt (hA b o e)
    cases hg : g.H b with
    | none => exact hA b o e
    | some o' => have := hf b (by rw [hg]; simp); omega
  have hv : ∀ j, j < c.ops.size → Sub (c.R.vis i (RC.put G i g) j).H (hun g.H (whole w)) := fun j _ => by
    unfold RC.vis RC.put
    by_cases e : j = i
    · subst e; simp; exact hun_left
    · cases hb : c.R.bef i j with
      | false => have e2 : (j == i) = false := by simpa using e
                 rw [e2]; exact sub_none
      | true => simp [e]; exact hU _ (hs.agrG j hb)
  have hB := hU _ (B0_sub hs t)
  refine ⟨JV_mono hB _ hv (fun j _ => ?_) (Sub.refl _), ?_⟩
  · unfold pre RC.vis RC.put
    by_cases e : j = i
    · subst e
      have : c.R.bef j j = false := by
        cases hb : c.R.bef j j with
        | false => rfl
        | true => have := RC.bef_lt ok.hc j hi j hb; omega
      rw [this]; exact .inl rfl
    · cases hb : c.R.bef i j with
      | false => exact .inl rfl
      | true => simp [e]
  · have := JV_mem hB _ hv i hi
    have e : c.R.vis i (RC.put G i g) i = g := by simp [RC.vis, RC.put]
    rw [e] at this; exact this
end
end Cx
end Kb
