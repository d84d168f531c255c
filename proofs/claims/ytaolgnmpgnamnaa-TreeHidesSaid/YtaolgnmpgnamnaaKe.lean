/- Parts of memory that grow; calls that make, own or turn memory; the ends of functions. No program in sight. -/
import Derived.Test.YtaolgnmpgnamnaaKd
namespace Kb
open Go

/-- what is asked where these slots, this memory are -/
def Pre (nt : Nat) (w0 : World) (X : List Nat) (sl : Slots) (A : List Heaplet) (L : List Ent) (Z : Act → World → Prop) : Prop :=
  ∀ a w, SlotsOK nt sl a → StW w0 X A L w → Z a w
section
variable {P : Program} {nt : Nat} {w0 : World} {X : List Nat} {Z : Act → World → Prop} {sl sl' : Slots} {A A' : List Heaplet} {L L' : List Ent}
theorem Pre.conv (h : Pre nt w0 X sl A L Z) (h1 : sl' = sl) (h2 : A' = A) (h3 : L' = L) : Pre nt w0 X sl' A' L' Z := by
  subst h1 h2 h3; exact h
theorem StW.entIn {w : World} (h : StW w0 X A L w) {r : Nat} {e : Ent} (hr : L[r]? = some e) : EntIn w e := fun b o hb => (h.ent r b o (by rw [hr, hb])).1
theorem StW.entNew {w : World} (h : StW w0 [] A L w) {r : Nat} {e : Ent} (hr : L[r]? = some e) : ∀ b o, e = some (b, o) → w0.heap.size ≤ b := fun b o hb => by
  rcases (h.ent r b o (by rw [hr, hb])).2.1 with h1 | h1
  · exact h1
  · cases h1
theorem StW.read {w : World} {K : Heaplet} (h : StW w0 X [K] L w) : Agrees w K := h.agr K (by simp)
/-- several read-only parts: one -/
theorem Pre.merge {Ns : List Heaplet} {K0 H : Heaplet} (hE : Ext w0 H K0) (hN : ∀ N ∈ Ns, New w0 N)
    (k : ∀ K, Sub K0 K → (∀ N ∈ Ns, Sub N K) → Ext w0 H K → Pre nt w0 X sl [K] L Z) : Pre nt w0 X sl (Ns ++ [K0]) L Z := fun a w hs hw => by
  classical
  let K : Heaplet := fun b => if ∃ N ∈ Ns ++ [K0], N b ≠ none then w.heap[b]? else none
  have hsub : ∀ N ∈ Ns ++ [K0], Sub N K := fun N hN b o e => by
    show (if ∃ N ∈ Ns ++ [K0], N b ≠ none then w.heap[b]? else none) = some o
    rw [if_pos ⟨N, hN, by rw [e]; simp⟩]
    exact hw.agr N hN b o e
  have hex : ∀ b, K b ≠ none → ∃ N ∈ Ns ++ [K0], N b ≠ none := fun b hb => by
    by_cases h : ∃ N ∈ Ns ++ [K0], N b ≠ none
    · exact h
    · exact absurd (if_neg h) hb
  have h0 : K0 ∈ Ns ++ [K0] := by simp
  refine k K (hsub K0 h0) (fun N hN => hsub N (by simp [hN])) ⟨hE.sub.trans (hsub K0 h0), fun b hb => ?_⟩ a w hs ⟨hw.base, fun H' hH b o e => ?_, fun r b o he => ?_, hw.dis⟩
  · obtain ⟨N, hm, hb'⟩ := hex b hb
    rcases List.mem_append.1 hm with h | h
    · exact .inr (hN N h b hb')
    · have : N = K0 := by simpa using h
      subst this
      exact hE.new b hb'
  · have : H' = K := by simpa using hH
    subst this
    by_cases h : ∃ N ∈ Ns ++ [K0], N b ≠ none
    · have : K b = w.heap[b]? := if_pos h
      rw [← this]; exact e
    · have : K b = none := if_neg h
      rw [this] at e; cases e
  · obtain ⟨h1, h2, h3⟩ := hw.ent r b o he
    refine ⟨h1, h2, fun H' hH => ?_⟩
    have : H' = K := by simpa using hH
    subst this
    refine Classical.byContradiction fun hn => ?_
    obtain ⟨N, hm, hb'⟩ := hex b hn
    exact hb' (h3 N hm)
/-- an owned slice: read-only from here on -/
theorem Pre.freeze {K0 H : Heaplet} {e : Ent} (r : Nat) (hr : L[r]? = some e) (hE : Ext w0 H K0)
    (k : ∀ K, Sub K0 K → Sub (entH e) K → Ext w0 H K → Pre nt w0 [] sl [K] (L.set r none) Z) : Pre nt w0 [] sl [K0] L Z := fun a w hs hw => by
  have hlt := (List.getElem?_eq_some_iff.1 hr).1
  have hset : ∀ (r' b : Nat) (o : Obj), (L.set r none)[r']? = some (some (b, o)) → r' ≠ r ∧ L[r']? = some (some (b, o)) := fun r' b o h => by
    by_cases c : r = r'
    · subst c; simp [hlt] at h
    · rw [List.getElem?_set_ne c] at h; exact ⟨fun e => c e.symm, h⟩
  have hw' : StW w0 [] [entH e, K0] (L.set r none) w := by
    refine ⟨hw.base, fun H' hH => ?_, fun r' b o he => ?_, fun r1 r2 b o o' h1 h2 => hw.dis r1 r2 b o o' (hset _ _ _ h1).2 (hset _ _ _ h2).2⟩
    · simp only [List.mem_cons, List.not_mem_nil, or_false] at hH
      rcases hH with rfl | rfl
      · exact entH_agrees (hw.entIn hr)
      · exact hw.agr _ (by simp)
    · obtain ⟨hne, he⟩ := hset _ _ _ he
      obtain ⟨h1, h2, h3⟩ := hw.ent r' b o he
      refine ⟨h1, h2, fun H' hH => ?_⟩
      simp only [List.mem_cons, List.not_mem_nil, or_false] at hH
      rcases hH with rfl | rfl
      · unfold entH
        cases e with
        | none => rfl
        | some p =>
          obtain ⟨g, o'⟩ := p
          simp only
          split
          · rename_i hb; subst hb
            exact absurd (hw.dis r' r _ _ _ he hr) hne
          · rfl
      · exact h3 _ (by simp)
  refine Pre.merge (Ns := [entH e]) hE (fun N hN => ?_) (fun K k1 k2 k3 => k K k1 (k2 _ (by simp)) k3) a w hs hw'
  have : N = entH e := by simpa using hN
  subst this
  exact entH_new (hw.entNew hr)
def maskL (m : List Bool) (L : List Ent) : List Ent := (m.zip L).map fun p => bif p.1 then p.2 else none
theorem StW.mask {w : World} (h : StW w0 X A L w) (m : List Bool) (e : L' = maskL m L) : StW w0 X A L' w := by
  subst e
  refine h.drop (fun _ h => h) fun r e he => ?_
  unfold maskL at he
  rw [List.getElem?_map] at he
  cases hz : (m.zip L)[r]? with
  | none => rw [hz] at he; cases he
  | some p =>
    rw [hz] at he
    obtain ⟨b, x⟩ := p
    rw [List.getElem?_zip_eq_some] at hz
    cases b with
    | false => simp at he
    | true => simp only [Option.map_some, cond_true, Option.some.injEq] at he; subst he; exact hz.2
end

/-! ### what callees leave -/
/-- a value out of the callee's own choices, new memory, what is said of them over all that can be read -/
def Makes (H : Heaplet) (V : Rec → Value) (F : Heaplet → Rec → Prop) (w : World) (e : Ending) (w' : World) : Prop :=
  ∃ g : Rec, e = .returned (V g) ∧ Base [] w w' ∧ Agrees w' g.H ∧ New w g.H ∧ F (hun g.H H) g
/-- beside it a slice that nobody else has -/
def Owns (H : Heaplet) (V : Rec → Value) (F : Heaplet → Rec → Prop) (w : World) (e : Ending) (w' : World) : Prop :=
  ∃ g : Rec, e = .returned (V g) ∧ Base [] w w' ∧ Agrees w' g.H ∧ New w g.H ∧ EntIn w' g.e ∧ (∀ b o, g.e = some (b, o) → w.heap.size ≤ b ∧ g.H b = none) ∧ F (hun g.H H) g
theorem makes_split {w w' : World} {H K : Heaplet} (hA : Agrees w H) (hb : Base [] w w') (hE : Ext w H K) (hK : Agrees w' K) : ∃ N, New w N ∧ Agrees w' N ∧ Sub K (hun N H) ∧ ∀ b, K b = none → N b = none := by
  refine ⟨fun b => if w.heap.size ≤ b then K b else none, fun b h => ?_, fun b o h => ?_, fun b o h => ?_, fun b h => ?_⟩
  · by_cases c : w.heap.size ≤ b
    · exact c
    · exact absurd (if_neg c) h
  · by_cases c : w.heap.size ≤ b
    · simp only [if_pos c] at h; exact hK b o h
    · simp only [if_neg c] at h; cases h
  · unfold hun
    by_cases c : w.heap.size ≤ b
    · simp only [if_pos c, h]
    · simp only [if_neg c]
      rcases hE.new b (by rw [h]; simp) with h1 | h1
      · cases hH : H b with
        | none => exact absurd hH h1
        | some o' =>
          have a1 := hA b o' hH
          have a2 := hK b o h
          rw [hb.keep b (by omega) (by simp), a1] at a2
          exact a2
      · exact absurd h1 c
  · by_cases c : w.heap.size ≤ b
    · simp only [if_pos c]; exact h
    · simp only [if_neg c]
/-- the end of a function that makes memory -/
theorem Makes.ret {w w' : World} {H K : Heaplet} {L : List Ent} {V : Rec → Value} {F : Heaplet → Rec → Prop} {u : Value} (v v2 v3 : Value) (hA : Agrees w H) (hE : Ext w H K) (hw : StW w [] [K] L w')
    (hv : ∀ N, u = V { v := v, v2 := v2, v3 := v3, H := N }) (h : ∀ N J, Sub K J → F J { v := v, v2 := v2, v3 := v3, H := N }) : Makes H V F w (.returned u) w' := by
  obtain ⟨N, n1, n2, n3, _⟩ := makes_split hA hw.base hE hw.read
  exact ⟨{ v := v, v2 := v2, v3 := v3, H := N }, by rw [hv N], hw.base, n2, n1, h N _ n3⟩
theorem Owns.ret {w w' : World} {H K : Heaplet} {L : List Ent} {V : Rec → Value} {F : Heaplet → Rec → Prop} {u : Value} (v v2 v3 : Value) (e : Ent) (r : Nat) (hr : L[r]? = some e) (hA : Agrees w H) (hE : Ext w H K) (hw : StW w [] [K] L w')
    (hv : ∀ N, u = V { v := v, v2 := v2, v3 := v3, H := N, e := e }) (h : ∀ N J, Sub K J → F J { v := v, v2 := v2, v3 := v3, H := N, e := e }) : Owns H V F w (.returned u) w' := by
  obtain ⟨N, n1, n2, n3, n4⟩ := makes_split hA hw.base hE hw.read
  refine ⟨{ v := v, v2 := v2, v3 := v3, H := N, e := e }, by rw [hv N], hw.base, n2, n1, hw.entIn hr, fun b o he => ⟨hw.entNew hr b o he, n4 b ?_⟩, h N _ n3⟩
  exact (hw.ent r b o (by rw [hr]; exact congrArg some he)).2.2 K (by simp)
/-- the same, where nothing is owned -/
theorem Owns.ret0 {w w' : World} {H K : Heaplet} {L : List Ent} {V : Rec → Value} {F : Heaplet → Rec → Prop} {u : Value} (v v2 v3 : Value) (hA : Agrees w H) (hE : Ext w H K) (hw : StW w [] [K] L w')
    (hv : ∀ N, u = V { v := v, v2 := v2, v3 := v3, H := N }) (h : ∀ N J, Sub K J → F J { v := v, v2 := v2, v3 := v3, H := N }) : Owns H V F w (.returned u) w' := by
  obtain ⟨N, n1, n2, n3, n4⟩ := makes_split hA hw.base hE hw.read
  exact ⟨{ v := v, v2 := v2, v3 := v3, H := N }, by rw [hv N], hw.base, n2, n1, (fun b o h => by cases h), (fun b o h => by cases h), h N _ n3⟩
theorem Makes.mono {H : Heaplet} {V : Rec → Value} {F F' : Heaplet → Rec → Prop} {w w' : World} {e : Ending} (h : Makes H V F w e w') (k : ∀ J g, F J g → F' J g) : Makes H V F' w e w' := by
  obtain ⟨g, h1, h2, h3, h4, h5⟩ := h
  exact ⟨g, h1, h2, h3, h4, k _ _ h5⟩
section
variable {P : Program} {R : RC} {w0 : World} {X : List Nat} {i : Nat}
structure CallM (P : Program) (R : RC) (w0 : World) (i : Nat) (f : FuncId) (args : Array Value) (H : Heaplet) (V : Rec → Value) (F : Heaplet → Rec → Prop) (G : Gh) (g : Rec) (w : World) : Prop where
  eq : (R.ex P G i w, R.val i (RC.put G i g), (R.ups i).map (·.1)) = (some (.ok (.enter f args) w), V g, [])
  fact : R.fact i (RC.put G i g) = (F (hun g.H H) g ∧ New w0 g.H)
theorem One.callM {f : FuncId} {args : Gh → Array Value} {H : Gh → Heaplet} {V : Gh → Rec → Value} {F : Gh → Heaplet → Rec → Prop} (h : ∀ G g w, CallM P R w0 i f (args G) (H G) (V G) (F G) G g w)
    (hc : ∀ G w, R.Sees w0 X G i w → Calls P f (args G) w (Makes (H G) (V G) (F G) w)) : One R P w0 X i := fun o ho G w hs => by
  have h0 := (h G {} w).eq
  simp only [Prod.mk.injEq] at h0
  obtain ⟨h1, _, h3⟩ := h0
  unfold RC.ex at h1
  rw [ho] at h1
  simp only [Option.map_some, Option.some.injEq] at h1
  unfold Does
  rw [h1]
  refine (hc G w hs).mono ?_
  rintro e w' ⟨g, rfl, hb, ha, hn, hf⟩
  refine ⟨_, rfl, g, ?_⟩
  have hq := h G g w
  have e2 := hq.eq
  simp only [Prod.mk.injEq] at e2
  rw [← e2.2.1]
  exact RC.Left.grow (ups_nil h3) (by rw [hq.fact]; exact ⟨hf, fun b hb' => Nat.le_trans hs.base.size (hn b hb')⟩) hb ha hn
structure CallO (P : Program) (R : RC) (w0 : World) (i : Nat) (f : FuncId) (args : Array Value) (r : Nat) (H : Heaplet) (V : Rec → Value) (F : Heaplet → Rec → Prop) (G : Gh) (g : Rec) (w : World) : Prop where
  eq : (R.ex P G i w, R.val i (RC.put G i g), R.news (RC.put G i g) i) = (some (.ok (.enter f args) w), V g, [(r, g.e)])
  fact : R.fact i (RC.put G i g) = (F (hun g.H H) g ∧ New w0 g.H)
theorem One.callO {f : FuncId} {r : Nat} {args : Gh → Array Value} {H : Gh → Heaplet} {V : Gh → Rec → Value} {F : Gh → Heaplet → Rec → Prop} (h : ∀ G g w, CallO P R w0 i f (args G) r (H G) (V G) (F G) G g w)
    (hc : ∀ G w, R.Sees w0 X G i w → Calls P f (args G) w (Owns (H G) (V G) (F G) w)) : One R P w0 X i := fun o ho G w hs => by
  have h0 := (h G {} w).eq
  simp only [Prod.mk.injEq] at h0
  obtain ⟨h1, _, _⟩ := h0
  unfold RC.ex at h1
  rw [ho] at h1
  simp only [Option.map_some, Option.some.injEq] at h1
  unfold Does
  rw [h1]
  refine (hc G w hs).mono ?_
  rintro e w' ⟨g, rfl, hb, ha, hn, he, hen, hf⟩
  refine ⟨_, rfl, g, ?_⟩
  have hq := h G g w
  have e2 := hq.eq
  simp only [Prod.mk.injEq] at e2
  obtain ⟨one, hw⟩ := news_one e2.2.2
  rw [← e2.2.1]
  refine ⟨rfl, by rw [hq.fact]; exact ⟨hf, fun b hb' => Nat.le_trans hs.base.size (hn b hb')⟩, ⟨hb.os, hb.tape, hb.output, hb.size, fun k hk _ => hb.keep k hk (by simp)⟩, ha, hn, fun p hp b o' hpb => ?_, fun p hp q hq b o1 o2 _ _ => by rw [(one p hp).1, (one q hq).1]⟩
  rw [(one p hp).2] at hpb
  exact ⟨he b o' hpb, .inl (hen b o' hpb).1, (hen b o' hpb).2⟩
/-- what a callee does that was given entries: they are turned -/
structure Trans (w : World) (olds : List Ent) (news : List Ent) (v : Value) (g : Rec) (e : Ending) (w' : World) : Prop where
  ret : e = .returned v
  base : Base (olds.filterMap (·.map (·.1))) w w'
  agr : Agrees w' g.H
  new : New w g.H
  len : news.length = olds.length
  ent : ∀ (k : Nat) (x : Ent), news[k]? = some x → ∀ b o, x = some (b, o) → w'.heap[b]? = some o ∧ (w.heap.size ≤ b ∨ ∃ o', olds[k]? = some (some (b, o'))) ∧ g.H b = none
  dis : ∀ (k l b : Nat) (o o' : Obj), news[k]? = some (some (b, o)) → news[l]? = some (some (b, o')) → k = l
def Turns (w : World) (H : Heaplet) (olds : List Ent) (news : Rec → List Ent) (V : Rec → Value) (F : Heaplet → Rec → Prop) (e : Ending) (w' : World) : Prop :=
  ∃ g : Rec, Trans w olds (news g) (V g) g e w' ∧ F (hun g.H H) g
structure TurnOf (P : Program) (R : RC) (w0 : World) (i : Nat) (f : FuncId) (args : Array Value) (rs : List Nat) (olds : List Ent) (news : Rec → List Ent) (V : Rec → Value) (H : Heaplet) (F : Heaplet → Rec → Prop) (G : Gh) (g : Rec) (w : World) : Prop where
  eq : (R.ex P G i w, R.val i (RC.put G i g), R.news (RC.put G i g) i, rs.map (R.entAt G i)) = (some (.ok (.enter f args) w), V g, rs.zip (news g), olds)
  fact : R.fact i (RC.put G i g) = (F (hun g.H H) g ∧ New w0 g.H)
theorem zip_mem {α β : Type} {as : List α} {bs : List β} {p : α × β} (h : p ∈ as.zip bs) : ∃ k : Nat, as[k]? = some p.1 ∧ bs[k]? = some p.2 := by
  obtain ⟨k, hk⟩ := List.getElem?_of_mem h
  rw [List.getElem?_zip_eq_some] at hk
  exact ⟨k, hk.1, hk.2⟩
theorem One.callT {f : FuncId} {args : Gh → Array Value} {rs : List Nat} {olds : Gh → List Ent} {news : Gh → Rec → List Ent} {V : Gh → Rec → Value} {H : Gh → Heaplet} {F : Gh → Heaplet → Rec → Prop}
    (h : ∀ G g w, TurnOf P R w0 i f (args G) rs (olds G) (news G) (V G) (H G) (F G) G g w)
    (hc : ∀ G w, R.Sees w0 X G i w → Calls P f (args G) w (Turns w (H G) (olds G) (news G) (V G) (F G))) : One R P w0 X i := fun o ho G w hs => by
  have h0 := (h G {} w).eq
  simp only [Prod.mk.injEq] at h0
  obtain ⟨h1, _, _, h4⟩ := h0
  unfold RC.ex at h1
  rw [ho] at h1
  simp only [Option.map_some, Option.some.injEq] at h1
  unfold Does
  rw [h1]
  refine (hc G w hs).mono ?_
  rintro e w' ⟨g, T, hf⟩
  refine ⟨_, T.ret, g, ?_⟩
  have hq := h G g w
  have e2 := hq.eq
  simp only [Prod.mk.injEq] at e2
  obtain ⟨_, e3, e4, _⟩ := e2
  have hmem : ∀ p ∈ R.ups i, (p.1, p.2 (RC.put G i g)) ∈ rs.zip (news G g) := fun p hp => by
    rw [← e4]; exact List.mem_map.2 ⟨p, hp, rfl⟩
  have hlen : (news G g).length = rs.length := by rw [T.len, ← h4, List.length_map]
  have hold : ∀ k r, rs[k]? = some r → (olds G)[k]? = some (R.entAt G i r) := fun k r hk => by rw [← h4, List.getElem?_map, hk]; rfl
  rw [← e3]
  refine ⟨rfl, by rw [hq.fact]; exact ⟨hf, fun b hb => Nat.le_trans hs.base.size (T.new b hb)⟩, ?_, T.agr, T.new, fun p hp b o' hb => ?_, fun p hp q hq b o1 o2 h1 h2 => ?_⟩
  · refine ⟨T.base.os, T.base.tape, T.base.output, T.base.size, fun k hk hnk => T.base.keep k hk fun hm => hnk ?_⟩
    obtain ⟨x, hx, hxk⟩ := List.mem_filterMap.1 hm
    obtain ⟨j, hj⟩ := List.getElem?_of_mem hx
    rw [← h4, List.getElem?_map] at hj
    cases hrj : rs[j]? with
    | none => simp [hrj] at hj
    | some r =>
      simp [hrj] at hj
      have hjn : j < (news G g).length := by rw [hlen]; exact (List.getElem?_eq_some_iff.1 hrj).1
      have hz : (r, (news G g)[j]) ∈ rs.zip (news G g) := List.mem_iff_getElem?.2 ⟨j, by rw [List.getElem?_zip_eq_some]; exact ⟨hrj, List.getElem?_eq_getElem hjn⟩⟩
      rw [← e4] at hz
      obtain ⟨p, hp, hpe⟩ := List.mem_map.1 hz
      refine List.mem_filterMap.2 ⟨p, hp, ?_⟩
      rw [show p.1 = r from congrArg Prod.fst hpe, hj]; exact hxk
  · obtain ⟨k, a1, a2⟩ := zip_mem (hmem p hp)
    obtain ⟨b1, b2, b3⟩ := T.ent k _ a2 b o' hb
    refine ⟨b1, ?_, b3⟩
    rcases b2 with b2 | ⟨o2, b2⟩
    · exact .inl b2
    · rw [hold k _ a1] at b2
      exact .inr ⟨o2, by simpa using b2⟩
  · obtain ⟨k, a1, a2⟩ := zip_mem (hmem p hp)
    obtain ⟨l, c1, c2⟩ := zip_mem (hmem q hq)
    have := T.dis k l b o1 o2 (by rw [a2]; exact congrArg some h1) (by rw [c2]; exact congrArg some h2)
    subst this
    rw [a1] at c1
    simpa using c1
end
end Kb
