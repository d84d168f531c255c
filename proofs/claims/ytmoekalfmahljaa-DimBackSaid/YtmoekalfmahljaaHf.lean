/- Contracts, and the word for a call. No program in sight. -/
import Derived.Test.YtmoekalfmahljaaHe
set_option linter.unusedVariables false
set_option linter.unusedSectionVars false
set_option linter.unusedSimpArgs false
namespace Kb
open Go
def blks (es : List Ent) : List Nat := es.filterMap (·.map (·.1))
def Kv.fp (G : Gh) (q : Kv) : FP := fs true q.l (q.s G)
/-- what a call has left: g are its choices -/
structure CPost (w w' : World) (H : Heaplet) (olds : List Ent) (V : Rec → Value) (F' : Rec → List FP) (L' : Rec → List LE) (pu : Rec → List Prop) (e : Ending) (g : Rec) : Prop where
  ret : e = .returned (V g)
  base : Base (blks olds) w w'
  agr : Agrees w' g.H
  new : New w g.H
  facts : ∀ f ∈ F' g, f.at g.H (hun g.H H)
  ent : ∀ (k b : Nat) (o : Obj), (ents (L' g) g.es)[k]? = some (some (b, o)) → w'.heap[b]? = some o ∧ (w.heap.size ≤ b ∨ b ∈ blks olds) ∧ g.H b = none
  dis : ∀ (k l b : Nat) (o o' : Obj), (ents (L' g) g.es)[k]? = some (some (b, o)) → (ents (L' g) g.es)[l]? = some (some (b, o')) → k = l
  own : ∀ (k : Nat) (x : LE), (L' g)[k]? = some x → x.at (g.es k) g.H (hun g.H H)
  pu : conjL (pu g)
/-- a contract: what must be readable, entries that are handed over, the result, what can be read of it, the entries behind the call -/
def Ct (P : Program) (f : FuncId) (args : Array Value) (F : List FP) (L : List LE) (V : Rec → Value) (F' : Rec → List FP) (L' : Rec → List LE) (pu : Rec → List Prop) : Prop :=
  ∀ (w : World) (H : Heaplet) (ε : Nat → Ent), Agrees w H → (∀ q ∈ F, q.p H) → StW w (blks (ents L ε)) [H] (ents L ε) w → (∀ (r : Nat) (x : LE), L[r]? = some x → x.at (ε r) H H) →
    Calls P f args w fun e w' => ∃ g, CPost w w' H (ents L ε) V F' L' pu e g
/-- a function that only computes -/
abbrev Cp (P : Program) (f : FuncId) (args : Array Value) (F : List FP) (v : Value) : Prop := Ct P f args F [] (fun _ => v) (fun _ => []) (fun _ => []) (fun _ => [])
theorem Ct.conv {P : Program} {f : FuncId} {args : Array Value} {F : List FP} {L : List LE} {V V' : Rec → Value} {F' F'' : Rec → List FP} {L' L'' : Rec → List LE} {pu pu' : Rec → List Prop} (h : Ct P f args F L V F' L' pu) (e1 : ∀ g, V g = V' g) (e2 : ∀ g, F' g = F'' g) (e3 : ∀ g, L' g = L'' g) (e4 : ∀ g, pu g = pu' g) : Ct P f args F L V' F'' L'' pu' := by
  rw [← funext e1, ← funext e2, ← funext e3, ← funext e4]; exact h
def LE.drop : LE → LE
  | .own _ p m q hq => .own false p m q hq
  | x => x
def newsOf (n : Nat) (L' : Gh → Rec → List LE) : List Nat → Nat → List (Nat × (Gh → LE) × (Gh → Ent))
  | [], _ => []
  | r :: l, k => (r, (fun G => ((L' G (G n))[k]?).getD .no), fun G => (G n).es k) :: newsOf n L' l (k + 1)
theorem newsOf_mem {n : Nat} {L' : Gh → Rec → List LE} : ∀ {rs : List Nat} {k0 : Nat} {q : Nat × (Gh → LE) × (Gh → Ent)}, q ∈ newsOf n L' rs k0 → ∃ k, rs[k]? = some q.1 ∧ q.2.1 = (fun G => ((L' G (G n))[k0 + k]?).getD .no) ∧ q.2.2 = fun G => (G n).es (k0 + k)
  | r :: l, k0, q, h => by
    rcases List.mem_cons.1 h with rfl | h
    · exact ⟨0, rfl, rfl, rfl⟩
    · obtain ⟨k, h1, h2, h3⟩ := newsOf_mem h
      exact ⟨k + 1, h1, by rw [h2]; funext G; rw [show k0 + 1 + k = k0 + (k + 1) by omega], by rw [h3]; funext G; rw [show k0 + 1 + k = k0 + (k + 1) by omega]⟩
theorem newsOf_fst {n : Nat} {L' : Gh → Rec → List LE} : ∀ {rs : List Nat} {k0 : Nat}, (newsOf n L' rs k0).map (·.1) = rs
  | [], _ => rfl
  | r :: l, k0 => by simp [newsOf, newsOf_fst]
theorem ents_ent {L : List LE} {ε : Nat → Ent} {k : Nat} : (((ents L ε)[k]?).getD none) = ((L[k]?).getD .no).ent (ε k) := by
  rw [ents_get]
  cases L[k]? <;> rfl
def wholeBut (w : World) (bs : List Nat) : Heaplet := fun b => if b ∈ bs then none else w.heap[b]?
theorem JV_none {G : Gh} {B : Heaplet} {b : Nat} (hB : B b = none) : ∀ n, (∀ j, j < n → (G j).H b = none) → JV G B n b = none
  | 0, _ => hB
  | n + 1, h => by simp only [JV, hun, h n (by omega), JV_none hB n fun j hj => h j (by omega)]
theorem sub_but {w : World} {H : Heaplet} {bs : List Nat} (h : Sub H (whole w)) (k : ∀ b ∈ bs, H b = none) : Sub H (wholeBut w bs) := fun b o e => by
  unfold wholeBut
  split
  · rename_i hb; rw [k b hb] at e; cases e
  · exact h b o e
def srcNot (rs : List Nat) : Src → Bool
  | .o r => !rs.contains r
  | _ => true
def LE.tag : LE → Bool
  | .own t _ _ _ _ => t
  | _ => true
def nodup : List Nat → Bool
  | [] => true
  | a :: l => !l.contains a && nodup l
theorem nodup_inj : ∀ {l : List Nat}, nodup l = true → ∀ {i j x : Nat}, l[i]? = some x → l[j]? = some x → i = j
  | a :: l, h, 0, 0, x, _, _ => rfl
  | a :: l, h, 0, j + 1, x, h1, h2 => by
    simp at h1; subst h1
    simp only [nodup, Bool.and_eq_true, Bool.not_eq_true', List.getElem?_cons_succ] at h h2
    have := List.mem_of_getElem? h2
    simp [this] at h
  | a :: l, h, i + 1, 0, x, h1, h2 => by
    simp at h2; subst h2
    simp only [nodup, Bool.and_eq_true, Bool.not_eq_true', List.getElem?_cons_succ] at h h1
    have := List.mem_of_getElem? h1
    simp [this] at h
  | a :: l, h, i + 1, j + 1, x, h1, h2 => by
    simp only [nodup, Bool.and_eq_true] at h
    have := nodup_inj h.2 (i := i) (j := j) (by simpa using h1) (by simpa using h2)
    omega
def qrds : List Kv → List Nat
  | [] => []
  | q :: l => q.κ.rdr ++ qrds l
theorem qrds_mem {q : Kv} {r : Nat} : ∀ {qs : List Kv}, q ∈ qs → q.κ.src = .o r → r ∈ qrds qs
  | q' :: l, h, hs => by
    unfold qrds
    rcases List.mem_cons.1 h with rfl | h
    · simp [Kw.rdr, hs]
    · exact List.mem_append_right _ (qrds_mem h hs)
/-- may the call be made so? ex: its results may hold what it was given to read -/
def sideOk (ex : Bool) (rs ns : List Nat) (qs : List Kv) (F' : List FP) (L' : List LE) : Bool :=
  nodup (rs ++ ns) && (L'.length == (rs ++ ns).length) && qs.all (fun q => srcNot rs q.κ.src) && (bif ex then qs.all (fun q => q.κ.f) else F'.all (·.t) && L'.all LE.tag)
namespace Hint
variable {P : Program}
def call {g : Prop} (Γ : GdI g) (n f : Nat) (ex : Bool) (rs ns : List Nat) (qs : List Kv) (args : Gh → Array Value) (L : Gh → List LE) (V : Gh → Rec → Value) (F' : Gh → Rec → List FP) (L' : Gh → Rec → List LE) (pu : Gh → Rec → List Prop)
    (ct : g → ∀ G, Ct P f (args G) (qs.map (Kv.fp G)) (L G) (V G) (F' G) (L' G) (pu G)) : Hint P where
  d := { val := fun G => V G (G n), facts := fun G => F' G (G n), news := newsOf n L' (rs ++ ns) 0, rds := qrds qs, pu := fun G => pu G (G n) }
  τ := Option (Result Next) × Nat × Value × List FP × List LE × List Prop × List (Option LE) × List (Option (Bool × (Ent → Heaplet → Prop)) × Bool) × Bool × Option Bool
  lhs c i G g w := (c.R.ex P G i w, i, V (c.R.vis i (RC.put G i g)) g, F' (c.R.vis i (RC.put G i g)) g, L' (c.R.vis i (RC.put G i g)) g, pu (c.R.vis i (RC.put G i g)) g, rs.map (fun r => (c.leAt i r G).map LE.drop), qs.map (Kv.chk c i G), sideOk ex rs ns qs (F' G g) (L' G g), Γ.B.map fun _ => c.R.gd G i)
  rhs _ _ G g w := (some (.ok (.enter f (args G)) w), n, V G g, F' G g, L' G g, pu G g, (L G).map some, qs.map (Kv.want G), true, Γ.B)
  sound c i ok hil hi h := fun o ho G w hs => by
    have h0 := h G {} w
    simp only [Prod.mk.injEq, RC.ex, ho, Option.map_some, Option.some.injEq] at h0
    obtain ⟨e1, rfl, _, _, _, _, e7, e8, _, e10⟩ := h0
    have hct := ct (Cx.gdOk Γ hs e10) G
    have hup := Cx.upsOf hi
    have hfst : (c.R.ups i).map (·.1) = rs ++ ns := by rw [hup, List.map_map]; exact newsOf_fst
    have hwr : ∀ r ∈ rs, c.R.wrE r i = true := fun r hr => by
      have : r ∈ (c.R.ups i).map (·.1) := by rw [hfst]; exact List.mem_append_left _ hr
      obtain ⟨p, hp, rfl⟩ := List.mem_map.1 this
      exact List.any_eq_true.2 ⟨p, hp, by simp⟩
    let olds := rs.map (c.R.entAt G i)
    let ε : Nat → Ent := fun k => c.R.entAt G i (rs.getD k 0)
    have hlen : (L G).length = rs.length := by have := congrArg List.length e7; simpa using this.symm
    have hLk : ∀ k r : Nat, rs[k]? = some r → ∃ x', c.leAt i r G = some x' ∧ (L G)[k]? = some x'.drop := fun k r hk => by
      have := congrArg (fun l : List (Option LE) => l[k]?) e7
      simp only [List.getElem?_map, hk, Option.map_some] at this
      cases hl : (L G)[k]? with
      | none => rw [hl] at this; cases this
      | some x =>
        rw [hl] at this
        simp only [Option.map_some, Option.some.injEq, Option.map_eq_some_iff] at this
        obtain ⟨x', h1, h2⟩ := this
        exact ⟨x', h1, by rw [h2]⟩
    have hdrop : ∀ (x : LE) e, x.drop.ent e = x.ent e := fun x e => by cases x <;> rfl
    have holds : ents (L G) ε = olds := by
      refine List.ext_getElem? fun k => ?_
      rw [ents_get]
      show _ = (rs.map (c.R.entAt G i))[k]?
      rw [List.getElem?_map]
      cases hk : rs[k]? with
      | none =>
        have : (L G)[k]? = none := by rw [List.getElem?_eq_none_iff] at hk ⊢; omega
        rw [this]; rfl
      | some r =>
        obtain ⟨x', h1, h2⟩ := hLk k r hk
        obtain ⟨e, a1, _, _⟩ := Cx.own_at ok hil hs h1 (by rw [hwr r (List.mem_of_getElem? hk)]; simp)
        have hε : ε k = c.R.entAt G i r := by show c.R.entAt G i (rs.getD k 0) = _; rw [List.getD_eq_getElem?_getD, hk]; rfl
        rw [h2]
        simp only [Option.map_some, Option.some.injEq]
        rw [hdrop, hε, a1]
        cases x' <;> rfl
    -- what the callee may read
    have hside : ∀ g, sideOk ex rs ns qs (F' G g) (L' G g) = true := fun g => by
      have := h G g w
      simp only [Prod.mk.injEq] at this
      exact this.2.2.2.2.2.2.2.2.1
    have hs0 := hside {}
    unfold sideOk at hs0
    simp only [Bool.and_eq_true] at hs0
    obtain ⟨⟨⟨hnd, _⟩, hsrc⟩, hex⟩ := hs0
    have hblk : ∀ b ∈ blks olds, ∃ r ∈ rs, ∃ o, c.R.entAt G i r = some (b, o) := fun b hb => by
      obtain ⟨x, hx, hxb⟩ := List.mem_filterMap.1 hb
      obtain ⟨r, hr, rfl⟩ := List.mem_map.1 hx
      cases he : c.R.entAt G i r with
      | none => rw [he] at hxb; cases hxb
      | some p => rw [he] at hxb; simp at hxb; subst hxb; exact ⟨r, hr, p.2, he⟩
    have hent := fun r hr => hs.ent r (by rw [hwr r hr]; simp)
    have hJnone : ∀ t, ∀ b ∈ blks olds, c.J i G t b = none := fun t b hb => by
      obtain ⟨r, hr, o', he⟩ := hblk b hb
      obtain ⟨_, _, h3, h4⟩ := hent r hr b o' he
      refine JV_none ?_ _ fun j _ => ?_
      · have hK : hun c.N c.H b = none := h3 _ (by show _ ∈ [_]; simp)
        cases t
        · exact hK
        · cases hN : c.N b with
          | none => exact hN
          | some o'' => unfold hun at hK; rw [hN] at hK; cases hK
      · unfold Cx.pre
        cases hb' : c.R.bef i j with
        | false => rfl
        | true => exact h4 j hb'
    let Hc : Heaplet := bif ex then c.J i G false else wholeBut w (blks olds)
    have hJc : ∀ t, Sub (c.J i G t) Hc := fun t => by
      cases hx : ex with
      | true => show Sub _ (bif ex then _ else _); rw [hx]; exact Cx.J_le_false hs t
      | false => show Sub _ (bif ex then _ else _); rw [hx]; exact sub_but (Cx.J_le hs t) (hJnone t)
    have hCw : Agrees w Hc := by
      cases hx : ex with
      | true => show Agrees w (bif ex then _ else _); rw [hx]; exact Cx.J_le hs false
      | false =>
        show Agrees w (bif ex then _ else _); rw [hx]
        intro b o e
        simp only [cond_false, wholeBut] at e
        split at e
        · cases e
        · exact e
    have hCn : ∀ b ∈ blks olds, Hc b = none := fun b hb => by
      cases hx : ex with
      | true => show (bif ex then _ else _ : Heaplet) b = none; rw [hx]; exact hJnone false b hb
      | false => show (bif ex then _ else _ : Heaplet) b = none; rw [hx]; simp only [cond_false, wholeBut]; rw [if_pos hb]
    have hfacts : ∀ q ∈ qs.map (Kv.fp G), q.p Hc := fun p hp => by
      obtain ⟨q, hq, rfl⟩ := List.mem_map.1 hp
      have hm : q.κ.src.what c i G = (some (q.κ.t, q.κ.p G), true) := map_eq e8 q hq
      obtain ⟨e, a1, a2, a3, a4⟩ := Src.get ok hil hs hm
      cases hx : ex with
      | true =>
        rw [hx] at hex
        simp only [cond_true] at hex
        exact (q.κ.rj (List.all_eq_true.1 hex q hq) G e _ a1).mono (hJc _)
      | false =>
        refine q.κ.rd G e _ _ a1 (hJc _) ?_
        show Sub _ (bif ex then _ else _)
        rw [hx]
        refine sub_but (entH_agrees a2) fun b hb => ?_
        by_cases hsr : ∃ r, q.κ.src = .o r
        · obtain ⟨r, hsr⟩ := hsr
          have hE := a3 r hsr
          have hr : r ∉ rs := by
            have := List.all_eq_true.1 hsrc q hq
            rw [hsr] at this
            simpa [srcNot] using this
          obtain ⟨r', hr', o', he⟩ := hblk b hb
          cases hne : entH e b with
          | none => rfl
          | some o'' =>
            exfalso
            have hb2 : c.R.entAt G i r = some (b, o'') := by
              rw [hE]
              cases e with
              | none => cases hne
              | some p =>
                unfold entH at hne
                simp only at hne
                split at hne
                · rename_i hbe; subst hbe; cases hne; rfl
                · cases hne
            have hrd : ((c.R.c i).rds.contains r || c.R.wrE r i) = true := by
              rw [Cx.c_of hi]
              have : (qrds qs).contains r = true := by simpa using qrds_mem hq hsr
              show ((qrds qs).contains r || _) = true
              rw [this]; rfl
            have := hs.dis r r' b o'' o' hrd (by rw [hwr r' hr']; simp) hb2 he
            subst this; exact hr hr'
        · rw [a4 fun r hr => hsr ⟨r, hr⟩]; rfl
    have hst : StW w (blks olds) [Hc] olds w := by
      refine ⟨Base.refl _ _, fun K hK => ?_, fun k b o hk => ?_, fun k l b o o' hk hl => ?_⟩
      · have : K = Hc := by simpa using hK
        subst this; exact hCw
      · have hm : some (b, o) ∈ olds := List.mem_of_getElem? hk
        obtain ⟨r, hr, he⟩ := List.mem_map.1 hm
        have hbb : b ∈ blks olds := List.mem_filterMap.2 ⟨_, hm, rfl⟩
        refine ⟨(hent r hr b o he).1, .inr hbb, fun K hK => ?_⟩
        have : K = Hc := by simpa using hK
        subst this; exact hCn b hbb
      · have h1 : (rs.map (c.R.entAt G i))[k]? = some (some (b, o)) := hk
        have h2 : (rs.map (c.R.entAt G i))[l]? = some (some (b, o')) := hl
        simp only [List.getElem?_map, Option.map_eq_some_iff] at h1 h2
        obtain ⟨r, hr, he⟩ := h1
        obtain ⟨r', hr', he'⟩ := h2
        have hm := List.mem_of_getElem? hr
        have hm' := List.mem_of_getElem? hr'
        have := hs.dis r r' b o o' (by rw [hwr r hm]; simp) (by rw [hwr r' hm']; simp) he he'
        subst this
        refine nodup_inj (l := rs ++ ns) hnd (x := r) ?_ ?_
        · rw [List.getElem?_append_left (List.getElem?_eq_some_iff.1 hr).1]; exact hr
        · rw [List.getElem?_append_left (List.getElem?_eq_some_iff.1 hr').1]; exact hr'
    have hown : ∀ (k : Nat) (x : LE), (L G)[k]? = some x → x.at (ε k) Hc Hc := fun k x hx => by
      have hk : k < rs.length := by have := (List.getElem?_eq_some_iff.1 hx).1; omega
      have hk' : rs[k]? = some rs[k] := List.getElem?_eq_getElem hk
      obtain ⟨x', h1, h2⟩ := hLk k _ hk'
      rw [hx] at h2
      cases h2
      obtain ⟨e, a1, a2, _⟩ := Cx.own_at ok hil hs h1 (by rw [hwr _ (List.getElem_mem hk)]; simp)
      have hε : ε k = c.R.entAt G i rs[k] := by show c.R.entAt G i (rs.getD k 0) = _; rw [List.getD_eq_getElem?_getD, hk']; rfl
      cases x' with
      | own t p m q hq =>
        rw [hε, a1]
        show p e Hc
        cases t
        · exact m _ _ _ (hJc false) a2
        · exact m _ _ _ (hJc true) a2
      | _ => trivial
    have hcall := hct w Hc ε hCw hfacts (by rw [holds]; exact hst) hown
    rw [holds] at hcall
    unfold Does
    rw [e1]
    refine hcall.mono ?_
    rintro e w' ⟨g, C⟩
    refine ⟨_, C.ret, g, ?_⟩
    have hg := h G g w
    simp only [Prod.mk.injEq] at hg
    obtain ⟨_, _, f1, f2, f3, f4, _, _, f5, _⟩ := hg
    unfold sideOk at f5
    simp only [Bool.and_eq_true, beq_iff_eq] at f5
    obtain ⟨⟨⟨_, hll⟩, _⟩, hex'⟩ := f5
    have hv := Cx.vis_self (c := c) (i := i) (G := G) g
    obtain ⟨a1, a2, a3, a4⟩ := ahead ok hil hs C.new
    -- where the callee's facts hold
    have to2 : ex = true → Sub (hun g.H Hc) (JV (c.R.vis i (RC.put G i g)) (hun c.N c.H) c.ops.size) := fun hx => hun_sub a4 (by
      show Sub (bif ex then _ else _) _
      rw [hx]; exact a2)
    have hentk : ∀ k : Nat, (((L' (c.R.vis i (RC.put G i g)) g)[k]?).getD .no).ent (g.es k) = ((ents (L' G g) g.es)[k]?).getD none := fun k => by rw [f3, ents_ent]
    have hp2 : ∀ p ∈ c.R.ups i, ∃ k : Nat, (rs ++ ns)[k]? = some p.1 ∧ p.2 (RC.put G i g) = ((ents (L' G g) g.es)[k]?).getD none := fun p hp => by
      rw [hup] at hp
      obtain ⟨q, hq, rfl⟩ := List.mem_map.1 hp
      obtain ⟨k, h1, h2, h3⟩ := newsOf_mem hq
      refine ⟨k, h1, ?_⟩
      show (q.2.1 _).ent (q.2.2 _) = _
      rw [h2, h3, ← hentk k]
      simp only [hv, Nat.zero_add]
    refine ⟨?_, fact_of ok hil hi hs C.new (fun f hf => ?_) (fun q hq => ?_) ?_, ?_, C.agr, C.new, fun p hp b o hb => ?_, fun p hp q hq b o o' hb hb' => ?_⟩
    · rw [Cx.valOf hi]
      show _ = V _ (c.R.vis i (RC.put G i g) i)
      rw [hv, f1]
    · have hf' : f ∈ F' (c.R.vis i (RC.put G i g)) (c.R.vis i (RC.put G i g) i) := hf
      rw [hv, f2] at hf'
      have hc := C.facts f hf'
      unfold FP.at at hc ⊢
      cases ht : f.t with
      | true => rw [ht] at hc; exact f.m _ _ a3 hc
      | false =>
        rw [ht] at hc
        cases hx : ex with
        | true => exact f.m _ _ (to2 hx) hc
        | false =>
          rw [hx] at hex'
          simp only [cond_false, Bool.and_eq_true] at hex'
          have := List.all_eq_true.1 hex'.1 f hf'
          rw [ht] at this; cases this
    · obtain ⟨k, h1, h2, h3⟩ := newsOf_mem hq
      rw [h2, h3]
      simp only [hv, Nat.zero_add]
      rw [f3]
      cases hk : (L' G g)[k]? with
      | none => trivial
      | some x =>
        have hc := C.own k x hk
        simp only [Option.getD_some]
        cases x with
        | own t p m q hq =>
          cases t with
          | true => exact m _ _ _ a3 hc
          | false =>
            cases hx : ex with
            | true => exact m _ _ _ (to2 hx) hc
            | false =>
              rw [hx] at hex'
              simp only [cond_false, Bool.and_eq_true] at hex'
              have := List.all_eq_true.1 hex'.2 _ (List.mem_of_getElem? hk)
              simp [LE.tag] at this
        | _ => trivial
    · show conjL (pu _ (c.R.vis i (RC.put G i g) i))
      rw [hv, f4]; exact C.pu
    · refine ⟨C.base.os, C.base.tape, C.base.output, C.base.size, fun b hb hnb => C.base.keep b hb fun hm => hnb ?_⟩
      obtain ⟨r, hr, o', he⟩ := hblk b hm
      have : r ∈ (c.R.ups i).map (·.1) := by rw [hfst]; exact List.mem_append_left _ hr
      obtain ⟨p, hp, hpr⟩ := List.mem_map.1 this
      exact List.mem_filterMap.2 ⟨p, hp, by rw [hpr, he]; rfl⟩
    · obtain ⟨k, h1, h2⟩ := hp2 p hp
      rw [h2] at hb
      cases hk : (ents (L' G g) g.es)[k]? with
      | none => rw [hk] at hb; cases hb
      | some x =>
        rw [hk] at hb
        simp only [Option.getD_some] at hb
        subst hb
        obtain ⟨b1, b2, b3⟩ := C.ent k b o hk
        refine ⟨b1, ?_, b3⟩
        rcases b2 with b2 | b2
        · exact .inl b2
        · obtain ⟨r, hr, o', he⟩ := hblk b b2
          have : r ∈ (c.R.ups i).map (·.1) := by rw [hfst]; exact List.mem_append_left _ hr
          obtain ⟨q, hq, hqr⟩ := List.mem_map.1 this
          exact .inr ⟨q, hq, o', by rw [hqr]; exact he⟩
    · obtain ⟨k, h1, h2⟩ := hp2 p hp
      obtain ⟨l, h3, h4⟩ := hp2 q hq
      rw [h2] at hb
      rw [h4] at hb'
      have get : ∀ (k b : Nat) (o : Obj), ((ents (L' G g) g.es)[k]?).getD none = some (b, o) → (ents (L' G g) g.es)[k]? = some (some (b, o)) := fun k b o hh => by
        cases hk : (ents (L' G g) g.es)[k]? with
        | none => rw [hk] at hh; cases hh
        | some x => rw [hk] at hh; simp only [Option.getD_some] at hh; rw [hh]
      have := C.dis k l b o o' (get k b o hb) (get l b o' hb')
      subst this
      rw [h1] at h3
      exact Option.some.inj h3
end Hint
end Kb
