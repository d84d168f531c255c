/- Texts for the claim, put together (part 7 of 7): contracts of the functions that the law reaches. -/
import Derived.Test.YtjcgaaalpcofhaaZyrb
import Derived.ChangeArms
import Derived.WideKeyArgs
import Derived.Carry
import Derived.OpenShut
import Derived.Test.YtjcgaaalpcofhaaZyrc
import Derived.Test.YtjcgaaalpcofhaaChecked
set_option linter.unusedVariables false
set_option linter.unusedSectionVars false
set_option linter.unusedSimpArgs false
namespace Kb
open Go Go.RowKit Go.WideShapes Go.ChangeShapes
theorem whole_agrees (w : World) : Agrees w (whole w) := fun _ _ h => h
theorem hcells_of {w : World} {a : Addr} {vs : List Value} (h0 : vs ≠ []) (h : ∀ (j : Nat) (v : Value), vs[j]? = some v → w.cell? (a.add j) = some v) : HCells (whole w) a vs := by
  obtain ⟨v0, vs', rfl⟩ := List.exists_cons_of_ne_nil h0
  have h1 := h 0 v0 rfl
  have e0 : a.add 0 = a := by simp [Addr.add]
  rw [e0] at h1
  have hs := World.cell?_spot h1
  unfold World.cell? at h1
  split at h1
  · rename_i c T fr hb
    refine ⟨hs, c, T, fr, hb, fun j v hj => ?_⟩
    have h2 := h j v hj
    rw [add_eq hs] at h2
    simpa [World.cell?, hb] using h2
  · cases h1
/-- how a type's cells open -/
structure Opens (P : Program) (w : World) (e : TypeId) (α : Type) [Dat α] : Prop where
  cells : P.cellsOf e = Dat.size α
  full : 0 < Dat.size α
  data : ∀ {H : Type} {enc : TypeId × Value → H} {base : Nat} {sp : Nat → Bool} {held : Bool} {n : Nat} {cs : List Value} {x : DataW H × List MemPlace}, DataW.trod enc P w base sp held n e cs = some x → ∃ y : α, cs = Dat.cells y ∧ Dat.good (whole w) y
section
variable {H : Type} {enc : TypeId × Value → H} {P : Program} {w : World} {base : Nat} {sp : Nat → Bool} {held : Bool}
theorem cells_get {a : Addr} {n : Nat} {cs : List Value} (h : w.cells? base a n = some cs) : ∀ (j : Nat) (v : Value), cs[j]? = some v → w.cell? (a.add j) = some v := by
  intro j v hj
  unfold World.cells? at h
  split at h
  · have hl := mapM_some_length h
    have hlt := (List.getElem?_eq_some_iff.1 hj).1
    rw [hl, List.length_range] at hlt
    have := mapM_some_get h j j (by simp [hlt])
    rw [this, hj]
  · cases h
theorem opens_slice {α : Type} [Dat α] {t e : TypeId} (ht : P.underlying t = some (.slice e)) (o : Opens P w e α) {fuel : Nat} {cs : List Value} {x : DataW H × List MemPlace} (h : DataW.trod enc P w base sp held fuel t cs = some x) :
    ∃ (l : List α) (s : SV), cs = [s.v] ∧ RSl (whole w) l s.v := by
  rcases DataW.trod_slice ht h with ⟨rfl, _⟩ | ⟨a, len, cap, elems, rest, n, _, rfl, _, _, hl, hm, hlen, hel, _⟩
  · exact ⟨[], {}, rfl, RSl.nil⟩
  · have each : ∀ i, i < len → ∃ y : α, w.cells? base (a.add (i * Dat.size α)) (Dat.size α) = some (Dat.cells y) ∧ Dat.good (whole w) y := fun i hi => by
      have h1 := hel i hi
      rw [o.cells, List.getElem?_eq_getElem (by omega), Option.bind_eq_some_iff] at h1
      obtain ⟨cs', h2, h3⟩ := h1
      obtain ⟨y, rfl, hg⟩ := o.data h3
      exact ⟨y, h2, hg⟩
    have ⟨f, hf⟩ : ∃ f : Nat → α, ∀ i, i < len → w.cells? base (a.add (i * Dat.size α)) (Dat.size α) = some (Dat.cells (f i)) ∧ Dat.good (whole w) (f i) :=
      ⟨fun i => if hi : i < len then Classical.choose (each i hi) else default, fun i hi => by simp only [dif_pos hi]; exact Classical.choose_spec (each i hi)⟩
    refine ⟨(List.range len).map f, ⟨some a, len, cap⟩, rfl, ⟨⟨?_, ?_, some a, cap, ?_, ?_, hm, ?_, ?_⟩, ?_⟩⟩
    · intro r hr; simp [rows] at hr; obtain ⟨i, _, rfl⟩ := hr; exact Dat.len _
    · intro r hr; simp [rows] at hr; obtain ⟨i, hi, rfl⟩ := hr; exact Dat.one _ _ (hf i hi).2
    · simp [SV.v]
    · simpa using hl
    · intro h; cases h
    · intro b hb hne
      cases hb
      have hrl : ∀ r ∈ rows ((List.range len).map f), r.length = Dat.size α := by intro r hr; simp [rows] at hr; obtain ⟨i, _, rfl⟩ := hr; exact Dat.len _
      have h0 : 0 < len := by
        rcases Nat.eq_zero_or_pos len with h | h
        · subst h; simp [rows] at hne
        · exact h
      have hfl := flatten_len hrl
      simp only [rows_length, List.length_map, List.length_range] at hfl
      have hsz := o.full
      have hspot : a.spot = none := by
        have h1 := cells_get (hf 0 h0).1
        have h2 : (Dat.cells (f 0)).length = Dat.size α := Dat.len _
        have h3 := h1 0 _ (List.getElem?_eq_getElem (by omega))
        have := World.cell?_spot h3
        simpa [Addr.add] using this
      refine hcells_of (fun e => ?_) fun j v hj => ?_
      · rw [e] at hfl
        have := Nat.mul_pos h0 hsz
        simp at hfl; omega
      · have hj2 := (List.getElem?_eq_some_iff.1 hj).1
        rw [hfl] at hj2
        have hk : j / Dat.size α < len := Nat.div_lt_of_lt_mul (by rwa [Nat.mul_comm])
        have hr : j % Dat.size α < Dat.size α := Nat.mod_lt _ hsz
        have h2 : (Dat.cells (f (j / Dat.size α))).length = Dat.size α := Dat.len _
        have e1 : (rows ((List.range len).map f))[j / Dat.size α]? = some (Dat.cells (f (j / Dat.size α))) := by simp [rows, hk]
        have e2 := List.getElem?_eq_getElem (l := Dat.cells (f (j / Dat.size α))) (i := j % Dat.size α) (by omega)
        have e3 := flatten_get hrl _ _ _ _ e1 e2
        have ej : j / Dat.size α * Dat.size α + j % Dat.size α = j := by rw [Nat.mul_comm]; exact Nat.div_add_mod j _
        rw [ej, hj] at e3
        have h4 := cells_get (hf _ hk).1 _ _ e2
        rw [← Option.some.inj e3] at h4
        rw [← h4, add_eq hspot, add_eq (a := a.add _) (by rw [add_eq hspot]), add_eq hspot]
        simp only [Nat.add_assoc, ej]
    · intro y hy; simp at hy; obtain ⟨i, hi, rfl⟩ := hy; exact (hf i hi).2
/-- a field of a struct's cells -/
theorem Opens.field {α : Type} [Dat α] {t : TypeId} {fs : Array Field} (ht : P.underlying t = some (.struct fs)) {fuel : Nat} {cs : List Value} {x : DataW H × List MemPlace} (h : DataW.trod enc P w base sp held fuel t cs = some x)
    (i : Nat) {f : Field} (hi : fs[i]? = some f) (o : Opens P w f.type α) : ∃ y : α, (cs.drop f.offset).take (Dat.size α) = Dat.cells y ∧ Dat.good (whole w) y := by
  obtain ⟨xs, n, _, _, _, hx, hf⟩ := DataW.trod_struct ht h
  have h1 := hf i f hi
  have hlt := (Array.getElem?_eq_some_iff.1 hi).1
  rw [List.getElem?_eq_getElem (by omega), o.cells] at h1
  exact o.data h1
/-- a field that is a slice -/
theorem field_slice {α : Type} [Dat α] {t e : TypeId} {fs : Array Field} (ht : P.underlying t = some (.struct fs)) {fuel : Nat} {cs : List Value} {x : DataW H × List MemPlace} (h : DataW.trod enc P w base sp held fuel t cs = some x)
    (i : Nat) {f : Field} (hi : fs[i]? = some f) (hs : P.underlying f.type = some (.slice e)) (hc : P.cellsOf f.type = 1) (o : Opens P w e α) : ∃ (l : List α) (s : SV), (cs.drop f.offset).take 1 = [s.v] ∧ RSl (whole w) l s.v := by
  obtain ⟨xs, n, _, _, _, hx, hf⟩ := DataW.trod_struct ht h
  have h1 := hf i f hi
  have hlt := (Array.getElem?_eq_some_iff.1 hi).1
  rw [List.getElem?_eq_getElem (by omega), hc] at h1
  exact opens_slice hs o h1
theorem struct_len {t : TypeId} {fs : Array Field} (ht : P.underlying t = some (.struct fs)) {fuel : Nat} {cs : List Value} {x : DataW H × List MemPlace} (h : DataW.trod enc P w base sp held fuel t cs = some x) : cs.length = P.cellsOf t := by
  obtain ⟨xs, n, _, _, hl, _⟩ := DataW.trod_struct ht h
  exact hl
/-- an argument that is a slice -/
theorem arg_slice {α : Type} [Dat α] {r : Reach} {b0 : Nat} {t e : TypeId} (ht : P.underlying t = some (.slice e)) (o : Opens P w e α) {v : Value} {d : DataW H} {ps : List MemPlace} (hv : Value.okWide P w r b0 t v) (h : DataW.Trod enc P w base sp held t v d ps) :
    ∃ (l : List α) (s : SV), v = s.v ∧ RSl (whole w) l s.v := by
  obtain ⟨n, hn⟩ := h
  obtain ⟨a, len, cap, rfl⟩ := okWide_slice ht hv
  obtain ⟨l, u, h1, h2⟩ := opens_slice ht o hn
  exact ⟨l, u, by injection h1, h2⟩
theorem arg_int {r : Reach} {b0 : Nat} {t : TypeId} {k : IntKind} (ht : P.underlying t = some (.int k)) {v : Value} {d : DataW H} {ps : List MemPlace} (hv : Value.okWide P w r b0 t v) (h : DataW.Trod enc P w base sp held t v d ps) : ∃ n, v = .int k n ∧ (Lit.int k n).wf = true := by
  obtain ⟨n, hn⟩ := h
  obtain ⟨m, rfl⟩ := okWide_int ht hv
  obtain ⟨n, h1, _, h2⟩ := DataW.trod_int ht hn
  cases h1
  exact ⟨_, rfl, h2⟩
theorem arg_string {r : Reach} {b0 : Nat} {t : TypeId} (ht : P.underlying t = some .string) {v : Value} {d : DataW H} {ps : List MemPlace} (hv : Value.okWide P w r b0 t v) (h : DataW.Trod enc P w base sp held t v d ps) : ∃ s, v = .string s ∧ s.size ≤ maxLen := by
  obtain ⟨n, hn⟩ := h
  obtain ⟨m, rfl⟩ := okWide_string ht hv
  obtain ⟨n, h1, _, h2⟩ := DataW.trod_string ht hn
  cases h1
  exact ⟨_, rfl, h2⟩
/-- an argument that is a struct of one slice -/
theorem arg_box {α : Type} [Dat α] {r : Reach} {b0 : Nat} {t e : TypeId} {fs : Array Field} {f : Field} (ht : P.underlying t = some (.struct fs)) (h1c : P.cellsOf t = 1) (hi : fs[0]? = some f) (h0 : f.offset = 0) (hs : P.underlying f.type = some (.slice e)) (hc : P.cellsOf f.type = 1) (o : Opens P w e α)
    {v : Value} {d : DataW H} {ps : List MemPlace} (hv : Value.okWide P w r b0 t v) (h : DataW.Trod enc P w base sp held t v d ps) :
    ∃ (l : List α) (u : SV), v = .agg #[u.v] ∧ RSl (whole w) l u.v := by
  obtain ⟨n, hn⟩ := h
  obtain ⟨cs, rfl, hl⟩ := okWide_struct ht hv
  obtain ⟨l, u, h1, h2⟩ := field_slice ht hn 0 hi hs hc o
  rw [h1c] at hl
  refine ⟨l, u, ?_, h2⟩
  rw [h0] at h1
  cases cs with
  | mk cs =>
    simp at hl
    obtain ⟨c, rfl⟩ := List.length_eq_one_iff.1 hl
    simp [Value.cells] at h1
    rw [h1]
/-- an argument that is an array of ints -/
theorem arg_array {r : Reach} {b0 : Nat} {t e : TypeId} {m : Nat} (ht : P.underlying t = some (.array m e)) (he : P.underlying e = some (.int .i64)) (hc : P.cellsOf t = m) (h1 : P.cellsOf e = 1) {v : Value} {d : DataW H} {ps : List MemPlace} (hv : Value.okWide P w r b0 t v) (h : DataW.Trod enc P w base sp held t v d ps) :
    ∃ l : List Int, l.length = m ∧ v = .agg ⟨l.map fun n => .int .i64 n⟩ := by
  obtain ⟨n, hn⟩ := h
  simp only [Value.okWide, ht] at hv
  obtain ⟨cs, rfl, hl, _⟩ := hv
  obtain ⟨xs, k, _, _, _, hx, hel⟩ := DataW.trod_array ht hn
  simp only [Value.cells, h1, Nat.mul_one] at hel
  rw [hc] at hl
  have each : ∀ i, i < m → ∃ n : Int, cs.toList[i]? = some (.int .i64 n) := fun i hi => by
    have h2 := hel i hi
    have hi' : i < cs.toList.length := by simpa [hl] using hi
    rw [List.getElem?_eq_getElem (by omega), List.drop_eq_getElem_cons hi'] at h2
    obtain ⟨n, h3, _, _⟩ := DataW.trod_int he h2
    simp at h3
    exact ⟨n, by rw [List.getElem?_eq_getElem hi']; simp [h3]⟩
  refine ⟨(List.range m).map fun i => match cs.toList[i]? with | some (Value.int .i64 n) => n | _ => 0, by simp, ?_⟩
  congr 1
  cases cs with
  | mk cs =>
    congr 1
    refine List.ext_getElem? fun i => ?_
    rcases Nat.lt_or_ge i m with hi | hi
    · obtain ⟨n, hn⟩ := each i hi
      simp only at hn
      simp [hi, hn]
    · have hl' : cs.length = m := by simpa using hl
      rw [List.getElem?_eq_none (by omega), List.getElem?_eq_none (by simp; omega)]
/-- arguments read as they did, where old memory has stayed -/
theorem keep_all (hl : laidOutB P = true) {W W' : World} (hb : Below W.heap.size W W') : ∀ {ts : List TypeId} {vs : List Value} {ds : List (DataW H)} {ps : List MemPlace}, (ts.all fun t => P.readableRec t && decide (t < P.types.size)) = true →
    DataW.TrodAll enc P W 0 (fun _ => true) true ts vs ds ps → (∀ x ∈ ps, x.block < W.heap.size) → ∀ sp' : Nat → Bool, (∀ x ∈ ps, sp' x.block = true) → DataW.TrodAll enc P W' 0 sp' true ts vs ds ps
  | [], [], [], _, _, h, _, _, _ => h
  | t :: ts, _ :: _, _ :: _, _, ht, ⟨p, q, h1, h2, e⟩, hlt, sp', hs => by
    simp only [List.all_cons, Bool.and_eq_true, decide_eq_true_eq] at ht
    refine ⟨p, q, WideElems.Trod_stays hl ht.1.1 ht.1.2 h1 (fun x hx => hb.same (hlt x (by rw [e]; exact List.mem_append_left _ hx))) (fun x hx => hs x (by rw [e]; exact List.mem_append_left _ hx)), keep_all hl hb (by simpa using ht.2) h2 (fun x hx => hlt x (by rw [e]; exact List.mem_append_right _ hx)) sp' (fun x hx => hs x (by rw [e]; exact List.mem_append_right _ hx)), e⟩
theorem opens_u8 {k : TypeId} (ht : P.underlying k = some (.int .u8)) (hc : P.cellsOf k = 1) : Opens P w k UInt8 :=
  ⟨hc, by decide, fun h => by
    obtain ⟨n, rfl, _, hw⟩ := DataW.trod_int ht h
    have : 0 ≤ n ∧ n < 256 := by simp [Lit.wf, IntKind.min, IntKind.max, IntKind.signed, IntKind.bits] at hw; omega
    exact ⟨UInt8.ofNat n.toNat, by
      show _ = [Value.int .u8 _]
      rw [UInt8.toNat_ofNat']
      congr 2
      omega, trivial⟩⟩
theorem opens_fat {α : Type} [Dat α] {k e : TypeId} (ht : P.underlying k = some (.slice e)) (hc : P.cellsOf k = 1) (o : Opens P w e α) : Opens P w k (Fat α) :=
  ⟨hc, by show 0 < 1; decide, fun h => by
    obtain ⟨l, s, rfl, hr⟩ := opens_slice ht o h
    exact ⟨⟨l, s⟩, rfl, hr⟩⟩
/-- a law's call: nothing is handed over, everything may be read -/
theorem Cp.law {P : Program} {f : FuncId} {args : Array Value} {F : List FP} {v : Value} (h : Cp P f args F v) (W : World) (hF : conjL (F.map fun q => q.p (whole W))) : Calls P f args W fun e w' => e = .returned v ∧ Base [] W w' := by
  refine (h W (whole W) (fun _ => none) (whole_agrees W) (fun q hq => conjL_mem hF _ (List.mem_map_of_mem hq)) ⟨Base.refl _ _, fun K hK => ?_, fun k b o hk => ?_, fun k l b o o' hk _ => ?_⟩ fun r x hx => ?_).mono ?_
  · have : K = whole W := by simpa using hK
    subst this; exact whole_agrees W
  · simp [ents] at hk
  · simp [ents] at hk
  · simp at hx
  · rintro e w' ⟨g, C⟩
    exact ⟨C.ret, C.base⟩
theorem opens_int {k : TypeId} (ht : P.underlying k = some (.int .i64)) (hc : P.cellsOf k = 1) : Opens P w k Int :=
  ⟨hc, by decide, fun h => by obtain ⟨n, rfl, _, _⟩ := DataW.trod_int ht h; exact ⟨n, rfl, trivial⟩⟩
theorem opens_string {k : TypeId} (ht : P.underlying k = some .string) (hc : P.cellsOf k = 1) : Opens P w k ByteArray :=
  ⟨hc, by decide, fun h => by obtain ⟨s, rfl, _, _⟩ := DataW.trod_string ht h; exact ⟨s, rfl, trivial⟩⟩
end
end Kb
namespace Kb
open Go Go.Proofs
theorem opens_31 (w : World) : Opens Try.prog w 31 DBig := ⟨by kernel_rfl, by decide, fun {_ _ _ _ _ _ cs _} h => by
  have hl : cs.length = 2 := (struct_len Try.underlying31 h).trans (by kernel_rfl)
  obtain ⟨y0, e0, g0⟩ := Opens.field Try.underlying31 h 0 rfl (Kb.opens_int Try.underlying3 (by kernel_rfl))
  obtain ⟨y1, e1, g1⟩ := Opens.field Try.underlying31 h 1 rfl (Kb.opens_fat Try.underlying29 (by kernel_rfl) (Kb.opens_int Try.underlying3 (by kernel_rfl)))
  obtain ⟨c0, c1, rfl⟩ : ∃ c0 c1, cs = [c0, c1] := by
    rcases cs with _ | ⟨c0, _ | ⟨c1, _ | ⟨_, _⟩⟩⟩
    all_goals first | exact ⟨_, _, rfl⟩ | (simp at hl; done) | (simp at hl; omega)
  simp [Dat.cells, Dat.size] at e0 e1
  refine ⟨⟨y0, y1⟩, ?_, g1⟩
  simp [Dat.cells, e0, e1]⟩
theorem opens_33 (w : World) : Opens Try.prog w 33 DFrac := ⟨by kernel_rfl, by decide, fun {_ _ _ _ _ _ cs _} h => by
  have hl : cs.length = 4 := (struct_len Try.underlying33 h).trans (by kernel_rfl)
  obtain ⟨y0, e0, g0⟩ := Opens.field Try.underlying33 h 0 rfl (Kb.opens_31 w)
  obtain ⟨y1, e1, g1⟩ := Opens.field Try.underlying33 h 1 rfl (Kb.opens_31 w)
  obtain ⟨c0, c1, c2, c3, rfl⟩ : ∃ c0 c1 c2 c3, cs = [c0, c1, c2, c3] := by
    rcases cs with _ | ⟨c0, _ | ⟨c1, _ | ⟨c2, _ | ⟨c3, _ | ⟨_, _⟩⟩⟩⟩⟩
    all_goals first | exact ⟨_, _, _, _, rfl⟩ | (simp at hl; done) | (simp at hl; omega)
  simp [Dat.cells, Dat.size] at e0 e1
  refine ⟨⟨y0, y1⟩, ?_, ⟨g0, g1⟩⟩
  simp [Dat.cells, e0, e1]⟩
end Kb
