/- The engine: code with its stack, states, one rule for each form. No program in sight. -/
import Derived.Test.YtmoekalfmahljaaHf
import Derived.LoopN
set_option linter.unusedVariables false
set_option linter.unusedSectionVars false
set_option linter.unusedSimpArgs false
namespace Kb
open Go
/-! ### code with its stack -/
inductive Fr where
  | seq (c : Code)
  | block (id : Nat)
  | rnd (Z : Act → World → Prop)
  | rndN (c : Code) (n : Nat)
section
variable (P : Program) (Q : Exit → Act → World → Prop)
def run : List Fr → Exit → Act → World → Prop
  | [] => Q
  | .seq c :: K => Exit.then (fun a w => c.wp P (run K) a w) (run K)
  | .block id :: K => Exit.inBlock id (run K)
  | .rnd Z :: K => Exit.then Z (run K)
  | .rndN c n :: K => Exit.then (Code.rounds P c (run K) n) (run K)
inductive Stop where
  | reg (id : Nat) (ops : Array Oper) (draw : Bool) (K : List Fr)
  | cond (c : Operand) (x y : Code) (K : List Fr)
  | loop (b : Code) (K : List Fr)
  | rnd (Z : Act → World → Prop) (K : List Fr)
  | rndN (c : Code) (n : Nat) (K : List Fr)
  | fin (e : Exit)
  | no
def Stop.wp : Stop → Act → World → Prop
  | .reg id ops d K => (Code.region id ops d).wp P (run P Q K)
  | .cond c x y K => (Code.cond c x y).wp P (run P Q K)
  | .loop b K => (Code.loop b).wp P (run P Q K)
  | .rnd Z _ => Z
  | .rndN c n K => Code.rounds P c (run P Q K) n
  | .fin e => Q e
  | .no => fun _ _ => False
end
/-- the next place where something is done: code, or an exit through the stack -/
def norm : Nat → Code ⊕ Exit → List Fr → Stop
  | 0, _, _ => .no
  | n + 1, .inl c, K => match c with
    | .seq x y => norm n (.inl x) (.seq y :: K)
    | .block id x => norm n (.inl x) (.block id :: K)
    | .skip => norm n (.inr .normal) K
    | .ret => norm n (.inr .ret) K
    | .exit i => norm n (.inr (.exit i)) K
    | .region id ops d => .reg id ops d K
    | .cond c x y => .cond c x y K
    | .loop b => .loop b K
    | _ => .no
  | n + 1, .inr e, K => match K with
    | [] => .fin e
    | .seq c :: K => match e with
      | .normal => norm n (.inl c) K
      | .ret => norm n (.inr .ret) K
      | .exit i => norm n (.inr (.exit i)) K
      | _ => .no
    | .block id :: K => match e with
      | .normal => norm n (.inr .normal) K
      | .ret => norm n (.inr .ret) K
      | .exit i => bif Nat.beq i id then norm n (.inr .normal) K else norm n (.inr (.exit i)) K
      | _ => .no
    | .rnd Z :: K => match e with
      | .normal => .rnd Z K
      | .ret => norm n (.inr .ret) K
      | .exit i => norm n (.inr (.exit i)) K
      | _ => .no
    | .rndN c m :: K => match e with
      | .normal => .rndN c m K
      | .ret => norm n (.inr .ret) K
      | .exit i => norm n (.inr (.exit i)) K
      | _ => .no
section
variable {P : Program} {Q : Exit → Act → World → Prop}
def wpx (P : Program) (Q : Exit → Act → World → Prop) (x : Code ⊕ Exit) (K : List Fr) : Act → World → Prop := match x with
  | .inl c => c.wp P (run P Q K)
  | .inr e => run P Q K e
theorem norm_sound : ∀ n (x : Code ⊕ Exit) K a w, (norm n x K).wp P Q a w → wpx P Q x K a w
  | 0, _, _, _, _, h => h.elim
  | n + 1, .inl c, K, a, w, h => by
    cases c <;> simp only [norm] at h <;> first | exact h.elim | exact h | skip
    case skip => exact wp_skip (norm_sound n _ _ _ _ h)
    case seq x y => exact wp_seq (norm_sound n _ _ _ _ h)
    case block id x => exact wp_block (norm_sound n _ _ _ _ h)
    case exit i => exact wp_exit (norm_sound n _ _ _ _ h)
    case ret => exact wp_ret (norm_sound n _ _ _ _ h)
  | n + 1, .inr e, K, a, w, h => by
    cases K with
    | nil => exact h
    | cons f K =>
      cases f with
      | seq c => cases e <;> simp only [norm] at h <;> first | exact h.elim | (have := norm_sound n _ _ _ _ h; exact this)
      | rndN c m => cases e <;> simp only [norm] at h <;> first | exact h.elim | exact h | (have := norm_sound n _ _ _ _ h; exact this)
      | rnd Z => cases e <;> simp only [norm] at h <;> first | exact h.elim | exact h | (have := norm_sound n _ _ _ _ h; exact this)
      | block id =>
        cases e <;> simp only [norm] at h <;> first | exact h.elim | skip
        case normal => have := norm_sound n _ _ _ _ h; exact this
        case ret => have := norm_sound n _ _ _ _ h; exact this
        case exit i =>
          show if i = id then _ else _
          by_cases hi : i = id
          · rw [if_pos hi]
            have : Nat.beq i id = true := by subst hi; exact Nat.beq_refl i
            rw [this] at h
            have := norm_sound n _ _ _ _ h; exact this
          · rw [if_neg hi]
            have : Nat.beq i id = false := by
              cases hb : Nat.beq i id with
              | false => rfl
              | true => exact absurd (Nat.eq_of_beq_eq_true hb) hi
            rw [this] at h
            have := norm_sound n _ _ _ _ h; exact this
end
structure Env (P : Program) where
  nt : Nat
  w0 : World
  X : List Nat
  H : Heaplet
  Q : Exit → Act → World → Prop
  mo : P.follows .mixedOrders = true
def V {P : Program} (E : Env P) (S : Stop) (t : St) : Prop := ∀ N ε a w, t.In E.nt E.w0 E.X E.H N ε a w → S.wp P E.Q a w
namespace Stop
def rid : Stop → Nat
  | .reg id _ _ _ => id
  | _ => 0
def ops : Stop → Array Oper
  | .reg _ ops _ _ => ops
  | _ => #[]
def dr : Stop → Bool
  | .reg _ _ d _ => d
  | _ => false
def K : Stop → List Fr
  | .reg _ _ _ K => K
  | .cond _ _ _ K => K
  | .loop _ K => K
  | .rnd _ K => K
  | .rndN _ _ K => K
  | _ => []
def x : Stop → Code
  | .cond _ x _ _ => x
  | .loop b _ => b
  | .rndN c _ _ => c
  | _ => .skip
def y : Stop → Code
  | .cond _ _ y _ => y
  | _ => .skip
def cn : Stop → Operand
  | .cond c _ _ _ => c
  | _ => .const undef
def next (S : Stop) : Stop := norm 200 (.inr .normal) S.K
def inX (S : Stop) : Stop := norm 200 (.inl S.x) S.K
def inY (S : Stop) : Stop := norm 200 (.inl S.y) S.K
end Stop

/-! ### regions -/
section
variable {P : Program}
def Prods : List (Hint P) → Type
  | [] => Unit
  | h :: l => (Gh → Rec → World → h.τ) × Prods l
def lhsAll (c : Cx P) : (l : List (Hint P)) → Nat → Prods l
  | [], _ => ()
  | h :: l, i => (h.lhs c i, lhsAll c l (i + 1))
def rhsAll (c : Cx P) : (l : List (Hint P)) → Nat → Prods l
  | [], _ => ()
  | h :: l, i => (h.rhs c i, rhsAll c l (i + 1))
theorem all_get {c : Cx P} : ∀ {l : List (Hint P)} {k : Nat}, lhsAll c l k = rhsAll c l k → ∀ (j : Nat) (h : Hint P), l[j]? = some h → ∀ G g w, h.lhs c (k + j) G g w = h.rhs c (k + j) G g w
  | h' :: l, k, e, 0, h, hj, G, g, w => by
    have e1 := congrArg (fun p : (Gh → Rec → World → h'.τ) × Prods l => p.1) e
    simp at hj; subst hj
    exact congrFun (congrFun (congrFun e1 G) g) w
  | h' :: l, k, e, j + 1, h, hj, G, g, w => by
    have e2 : lhsAll c l (k + 1) = rhsAll c l (k + 1) := congrArg (fun p : (Gh → Rec → World → h'.τ) × Prods l => p.2) e
    have := all_get e2 j h (by simpa using hj) G g w
    rwa [show k + 1 + j = k + (j + 1) by omega] at this
def cxOf (E : Env P) (S : Stop) (t : St) (hs : List (Hint P)) (N : Heaplet) (ε : Nat → Ent) : Cx P := ⟨E.nt, E.w0, E.X, E.H, N, ε, t, S.ops, hs.map (·.d)⟩
variable (c : Cx P) (G : Gh)
def Cx.sure (j : Nat) {α : Type _} (f : HintD → List α) : List α := bif (c.R.grd j).isNone then ((c.hs[j]?).map f).getD [] else []
def Cx.leFin (r : Nat) : LE := match lastW (c.R.wrE r) c.ops.size with
  | some k => ((c.hs[k]?).bind fun h => (h.news.find? fun q => q.1 == r).map fun q => q.2.1 (c.R.vis k G)).getD .no
  | none => (c.t.L[r]?).getD .no
/-- the state behind a region -/
def post : St where
  sl := (c.ops.toList.filterMap (·.dst)).map (fun s => (s, c.R.fin G s)) ++ c.t.sl
  F := c.t.F ++ (List.range c.ops.size).flatMap fun j => c.sure j fun h => h.facts (c.R.vis j G)
  L := (List.range c.t.L.length).map (c.leFin G)
/-- what else is known then -/
def Cx.know : List Prop := ((List.range c.ops.size).flatMap fun j => c.sure j fun h => h.pu (c.R.vis j G)) ++ ((List.range c.ops.size).flatMap fun j => c.sure j fun h => (h.facts (c.R.vis j G)).map (·.q)) ++ (List.range c.t.L.length).flatMap fun r => (c.leFin G r).lim
end
section
variable {P : Program} {c : Cx P} {G : Gh} {a : Act} {w : World}
theorem Cx.sure_mem {α : Type _} {j : Nat} {f : HintD → List α} {x : α} (ok : c.Ok) (hj : j < c.ops.size) (h : x ∈ c.sure j f) : (∀ G, c.R.gd G j = true) ∧ ∃ d, c.hs[j]? = some d ∧ x ∈ f d := by
  unfold sure at h
  cases hg : (c.R.grd j).isNone with
  | false => rw [hg] at h; cases h
  | true =>
    rw [hg] at h
    refine ⟨fun G => ?_, ?_⟩
    · rw [RC.gd_eq ok.hc]
      cases hgr : c.R.grd j with
      | none => rfl
      | some p => rw [hgr] at hg; cases hg
    · cases hd : c.hs[j]? with
      | none => rw [hd] at h; simp at h
      | some d => rw [hd] at h; exact ⟨d, rfl, by simpa using h⟩
theorem post_in (ok : c.Ok) (d : c.R.Done c.nt c.w0 c.X G a w) :
    (post c G).In c.nt c.w0 c.X c.H (JV G c.N c.ops.size) (fun r => c.R.entF G r) a w ∧ conjL (c.know G) := by
  have hAll : ∀ j, j < c.ops.size → Agrees w (G j).H := fun j hj => by
    have := (d.st (List.range c.ops.size) fun i hi => List.mem_range.1 hi).agr (G j).H (List.mem_append_left _ (List.mem_map.2 ⟨j, List.mem_range.2 hj, rfl⟩))
    exact this
  have hst := d.st (List.range c.ops.size) fun i hi => List.mem_range.1 hi
  have hK : Agrees w (hun c.N c.H) := hst.agr _ (List.mem_append_right _ (by show _ ∈ [_]; simp))
  have hB : ∀ t, Sub (c.B0 t) (whole w) := fun t => (Cx.B0_le t).trans hK
  have hJ : ∀ t, Sub (JV G (c.B0 t) c.ops.size) (whole w) := fun t => JV_le (hB t) _ hAll
  have hb : ∀ t, Sub (c.B0 t) (JV G (c.B0 t) c.ops.size) := fun t => JV_base (hB t) _ hAll
  have hvis : ∀ j, j < c.ops.size → ∀ t, Sub (JV (c.R.vis j G) (c.B0 t) c.ops.size) (JV G (c.B0 t) c.ops.size) := fun j hj t =>
    JV_mono (hB t) _ hAll (fun k hk => by
      unfold RC.vis
      cases hbj : (c.R.bef j k || k == j) with
      | false => exact .inl rfl
      | true => exact .inr rfl) (Sub.refl _)
  have eK : hun (JV G c.N c.ops.size) c.H = JV G (hun c.N c.H) c.ops.size := (JV_hun _).symm
  have opf : ∀ j h, j < c.ops.size → c.hs[j]? = some h → c.R.gd G j = true → (∀ f ∈ h.facts (c.R.vis j G), f.at (JV G c.N c.ops.size) (JV G (hun c.N c.H) c.ops.size)) ∧ (∀ q ∈ h.news, (q.2.1 (c.R.vis j G)).at (q.2.2 (c.R.vis j G)) (JV G c.N c.ops.size) (JV G (hun c.N c.H) c.ops.size)) ∧ conjL (h.pu (c.R.vis j G)) := fun j h hj hh hg => by
    have hf := d.fact j hj hg
    rw [Cx.factOf hh] at hf
    have hf := conjL_mem hf
    refine ⟨fun f hm => FP.mono (hf _ (by simp only [List.mem_append, List.mem_map]; exact .inl (.inl ⟨f, hm, rfl⟩))) (hvis j hj true) (hvis j hj false), fun q hq => LE.mono (LE.ats_at.1 (conjL_of fun p hp => hf _ ?_)) (hvis j hj true) (hvis j hj false), conjL_of fun p hp => hf _ (by simp only [List.mem_append]; exact .inr hp)⟩
    simp only [List.mem_append, List.mem_flatMap]
    exact .inl (.inr ⟨q, hq, hp⟩)
  have gdw : ∀ r k, lastW (c.R.wrE r) c.ops.size = some k → k < c.ops.size ∧ c.R.gd G k = true ∧ c.R.wrE r k = true := fun r k hl => by
    obtain ⟨hk, hw, _⟩ := lastW_some hl
    refine ⟨hk, ?_, hw⟩
    obtain ⟨o', ho'⟩ := Cx.opAt ok hk
    have C' := RC.chk ok.hc ho'
    rw [RC.gd_eq ok.hc]
    cases hg : c.R.grd k with
    | none => rfl
    | some jw =>
      obtain ⟨j, want⟩ := jw
      obtain ⟨o'', ho'', hgo⟩ := RC.grd_some hg
      rw [ho'] at ho''; cases ho''
      have := (C'.grd j want hgo).2.2.1
      obtain ⟨p, _, hp, _⟩ := RC.wrE_find hw
      rw [this] at hp; cases hp
  -- an entry behind the region
  have hle : ∀ r, r < c.t.L.length → (c.leFin G r).ent (c.R.entF G r) = c.R.entF G r ∧ (c.leFin G r).at (c.R.entF G r) (JV G c.N c.ops.size) (JV G (hun c.N c.H) c.ops.size) := fun r hr => by
    unfold Cx.leFin RC.entF
    show LE.ent (match lastW (c.R.wrE r) c.R.ops.size with | some k => c.R.entOf G k r | none => (c.R.L[r]?).getD none) _ = _ ∧ _
    have e0 : c.R.ops.size = c.ops.size := rfl
    rw [e0]
    cases hl : lastW (c.R.wrE r) c.ops.size with
    | none =>
      simp only []
      have hx : c.t.L[r]? = some c.t.L[r] := List.getElem?_eq_getElem hr
      have he : (c.R.L[r]?).getD none = (c.t.L[r]).ent (c.ε r) := by
        show ((ents c.t.L c.ε)[r]?).getD none = _
        rw [ents_get, hx]; rfl
      rw [he, hx]
      simp only [Option.getD_some]
      have h1 := LE.mono (ok.own r _ hx) (hb true) (hb false)
      cases hle : c.t.L[r] with
      | own t p m q hq => rw [hle] at h1; exact ⟨rfl, h1⟩
      | _ => exact ⟨rfl, trivial⟩
    | some k =>
      simp only []
      obtain ⟨hk, hg, hw⟩ := gdw r k hl
      have hlen : k < c.hs.length := by rw [ok.len]; exact hk
      have hh : c.hs[k]? = some c.hs[k] := List.getElem?_eq_getElem hlen
      have hfind : ∃ q, (c.hs[k]).news.find? (fun q => q.1 == r) = some q := by
        obtain ⟨p, _, hp, hpr⟩ := RC.wrE_find hw
        rw [Cx.upsOf hh] at hp
        obtain ⟨q, hq, rfl⟩ := List.mem_map.1 hp
        have : ((c.hs[k]).news.find? (fun q => q.1 == r)).isSome = true := List.find?_isSome.2 ⟨q, hq, by simpa using hpr⟩
        exact Option.isSome_iff_exists.1 this
      obtain ⟨q, hq⟩ := hfind
      have he : c.R.entOf G k r = (q.2.1 (c.R.vis k G)).ent (q.2.2 (c.R.vis k G)) := by
        unfold RC.entOf
        rw [Cx.upsOf hh, List.find?_map]
        have : ((c.hs[k]).news.find? ((fun p : Nat × (Gh → Ent) => p.1 == r) ∘ fun q => (q.1, fun G => (q.2.1 (c.R.vis k G)).ent (q.2.2 (c.R.vis k G))))) = some q := hq
        rw [this]; rfl
      have hf := (opf k _ hk hh hg).2.1 q (List.mem_of_find?_eq_some hq)
      rw [he, hh]
      simp only [Option.bind_some, hq, Option.map_some, Option.getD_some]
      cases hle : q.2.1 (c.R.vis k G) with
      | own t p m q' hq' => rw [hle] at hf; exact ⟨rfl, hf⟩
      | _ => exact ⟨rfl, trivial⟩
  have hLk : ∀ r x, (post c G).L[r]? = some x → r < c.t.L.length ∧ x = c.leFin G r := fun r x hx => by
    have hx : ((List.range c.t.L.length).map (c.leFin G))[r]? = some x := hx
    rw [List.getElem?_map] at hx
    rcases Nat.lt_or_ge r c.t.L.length with h | h
    · rw [List.getElem?_range h] at hx; exact ⟨h, (by simpa using hx.symm)⟩
    · rw [List.getElem?_eq_none (by simpa using h)] at hx; cases hx
  have hents : ∀ r b o, (ents (post c G).L fun r => c.R.entF G r)[r]? = some (some (b, o)) → ((List.range c.R.L.length).map (c.R.entF G))[r]? = some (some (b, o)) := fun r b o h => by
    rw [ents_get, Option.map_eq_some_iff] at h
    obtain ⟨x, hx, he⟩ := h
    obtain ⟨hr, rfl⟩ := hLk r x hx
    rw [(hle r hr).1] at he
    have hl : c.R.L.length = c.t.L.length := ents_len _ _
    rw [List.getElem?_map, List.getElem?_range (by rw [hl]; exact hr)]
    simp [he]
  refine ⟨⟨?_, ⟨hst.base, fun K hk => ?_, fun r b o he => ?_, fun r r' b o o' he he' => hst.dis r r' b o o' (hents _ _ _ he) (hents _ _ _ he')⟩, JV_new ok.new _ fun j hj => d.newG j hj, fun f hf => ?_, fun r x hx => ?_⟩, conjL_of fun p hp => ?_⟩
  · have hdst : ∀ s ∈ c.ops.toList.filterMap (·.dst), (lastW (c.R.wrS s) c.R.ops.size).isSome = true := fun s hs => by
      obtain ⟨o, ho, hd⟩ := List.mem_filterMap.1 hs
      obtain ⟨k, hk⟩ := List.getElem?_of_mem ho
      have hk' : c.ops[k]? = some o := by simpa using hk
      have hlt : k < c.ops.size := (Array.getElem?_eq_some_iff.1 hk').1
      cases hl : lastW (c.R.wrS s) c.R.ops.size with
      | some _ => rfl
      | none =>
        have := lastW_none hl k hlt
        unfold RC.wrS RC.dst at this
        have h3 : c.R.ops[k]? = some o := hk'
        rw [h3] at this
        simp [hd] at this
    have s1 := d.slots (c.ops.toList.filterMap (·.dst)) fun s hs => .inl (hdst s hs)
    refine ⟨s1.defers, s1.size, fun s v hv => ?_⟩
    have hv : ((c.ops.toList.filterMap (·.dst)).map (fun s => (s, c.R.fin G s)) ++ c.t.sl).lookup s = some v := hv
    rw [List.lookup_append] at hv
    cases hl : ((c.ops.toList.filterMap (·.dst)).map (fun s => (s, c.R.fin G s))).lookup s with
    | some u => rw [hl] at hv; simp at hv; subst hv; exact s1.slot s u hl
    | none =>
      rw [hl] at hv
      simp at hv
      have s2 := d.slots [s] fun s' hs' => .inr (by
        have : s' = s := by simpa using hs'
        subst this
        show (c.t.sl.lookup s').isSome = true
        rw [hv]; rfl)
      refine s2.slot s v ?_
      simp only [List.map_cons, List.map_nil, List.lookup_cons, beq_self_eq_true]
      congr 1
      unfold RC.fin
      have hn : lastW (c.R.wrS s) c.R.ops.size = none := by
        cases hw : lastW (c.R.wrS s) c.R.ops.size with
        | none => rfl
        | some k =>
          exfalso
          obtain ⟨hk, hws, _⟩ := lastW_some hw
          unfold RC.wrS RC.dst at hws
          have hk' : c.R.ops[k]? = some (c.R.ops[k]) := Array.getElem?_eq_getElem hk
          rw [hk'] at hws
          have hd : (c.R.ops[k]).dst = some s := by simpa using hws
          have hm : s ∈ c.ops.toList.filterMap (·.dst) := List.mem_filterMap.2 ⟨c.R.ops[k], by
            have : c.R.ops[k] ∈ c.ops := Array.getElem_mem hk
            simpa using this, hd⟩
          have : ∀ (l : List Nat), s ∈ l → (l.map (fun s => (s, c.R.fin G s))).lookup s ≠ none := by
            intro l
            induction l with
            | nil => intro h; cases h
            | cons x l ih =>
              intro h
              simp only [List.map_cons, List.lookup_cons]
              by_cases e : s = x
              · subst e; simp
              · have e' : (s == x) = false := by simpa using e
                rw [e']
                rcases List.mem_cons.1 h with h | h
                · exact absurd h e
                · exact ih h
          exact this _ hm hl
      rw [hn]
      show (c.t.sl.lookup s).getD undef = v
      rw [hv]; rfl
  · have : K = hun (JV G c.N c.ops.size) c.H := by simpa using hk
    subst this
    rw [eK]; exact hJ false
  · obtain ⟨h1, h2, h3⟩ := hst.ent r b o (hents _ _ _ he)
    refine ⟨h1, h2, fun K hk => ?_⟩
    have : K = hun (JV G c.N c.ops.size) c.H := by simpa using hk
    subst this
    rw [eK]
    exact JV_none (h3 _ (List.mem_append_right _ (by show _ ∈ [_]; simp))) _ fun j hj => h3 _ (List.mem_append_left _ (List.mem_map.2 ⟨j, List.mem_range.2 hj, rfl⟩))
  · rw [eK]
    rcases List.mem_append.1 hf with hf | hf
    · exact FP.mono (ok.facts f hf) (hb true) (hb false)
    · obtain ⟨j, hj, hf⟩ := List.mem_flatMap.1 hf
      obtain ⟨hg, h, hh, hf⟩ := Cx.sure_mem ok (List.mem_range.1 hj) hf
      exact (opf j h (List.mem_range.1 hj) hh (hg G)).1 f hf
  · rw [eK]
    obtain ⟨hr, rfl⟩ := hLk r x hx
    exact (hle r hr).2
  · unfold Cx.know at hp
    simp only [List.mem_append, List.mem_flatMap] at hp
    rcases hp with (⟨j, hj, hp⟩ | ⟨j, hj, hp⟩) | ⟨r, hr, hp⟩
    · obtain ⟨hg, h, hh, hp⟩ := Cx.sure_mem ok (List.mem_range.1 hj) hp
      exact conjL_mem (opf j h (List.mem_range.1 hj) hh (hg G)).2.2 p hp
    · obtain ⟨hg, h, hh, hp⟩ := Cx.sure_mem ok (List.mem_range.1 hj) hp
      obtain ⟨f, hf, rfl⟩ := List.mem_map.1 hp
      exact FP.lim_of ((opf j h (List.mem_range.1 hj) hh (hg G)).1 f hf)
    · exact LE.lim_of (hle r (List.mem_range.1 hr)).2 p hp
end
end Kb
