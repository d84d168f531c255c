/- Texts for the claim, put together: the calculus of regions, its rules, and contracts of the functions that the law reaches. -/
import Derived.Test.YtpnbgdgjgndicaaZuwf
import Derived.Test.YtpnbgdgjgndicaaZu013a
import Derived.ChangeArms
import Derived.WideKeyArgs
import Derived.Carry
import Derived.OpenShut
import Derived.Test.YtpnbgdgjgndicaaChecked
set_option linter.unusedVariables false
set_option linter.unusedSectionVars false
set_option linter.unusedSimpArgs false
namespace Kb
open Go
namespace Un
open Fr Bg
theorem UR.ne {d : List Int} {ps qs : Int} {pd qd : List Int} (h : UR d ps pd qs qd) : fq ps pd qd ≠ 0 := fun e => by
  have := h.pos; rw [e] at this; exact absurd this (by decide)
theorem mdc {a f : Rat} (h : f ≠ 0) : a * f / f = a := by rw [Rat.div_def, Rat.mul_assoc, Rat.mul_inv_cancel f h, Rat.mul_one]
end Un

open Go Go.Proofs
set_option maxRecDepth 10000 in
theorem few5_ct (f_P_Sign : Int) (f_P_Digits : List Int) (f_P_Digitss : SV) (f_Q_Sign : Int) (f_Q_Digits : List Int) (f_Q_Digitss : SV) (n : Int) :
    Cp Try.prog 22 #[ag (DFrac.mk (DBig.mk f_P_Sign ⟨f_P_Digits, f_P_Digitss⟩) (DBig.mk f_Q_Sign ⟨f_Q_Digits, f_Q_Digitss⟩)), iv n] [fs true f_P_Digits f_P_Digitss, fs true f_Q_Digits f_Q_Digitss] (bv (decide ((f_P_Digits.length : Int) ≤ n ∧ (f_Q_Digits.length : Int) ≤ n))) := by
  refine V.fn mo Try.func22 19 1 (by kernel_rfl) fun w H ε k0 => ?_
  obtain ⟨⟨kl1, -⟩, ⟨kl2, -⟩, -⟩ : Lq f_P_Digits f_P_Digitss.v ∧ Lq f_Q_Digits f_Q_Digitss.v ∧ True := kn k0 (by kernel_rfl)
  clear k0
  refine V.g [.nb 0 0 (fun b => pp b 0) 30 (fun _ => ca (DFrac.mk (DBig.mk f_P_Sign ⟨f_P_Digits, f_P_Digitss⟩) (DBig.mk f_Q_Sign ⟨f_Q_Digits, f_Q_Digitss⟩))),.kb false] fun _ _ G1 => ?_
  intro S_ s_
  refine nm ((decide ((f_P_Digits.length : Int) ≤ n)) && (decide ((f_Q_Digits.length : Int) ≤ n)) : Bool) fun p1 hp1 => ?_
  refine V.g [.k (pp ((G1 0).b) 0),.k (pp ((G1 0).b) 1),.ld 0 1 false (fun _ => [f_P_Digitss.v]),.ln (kf false (.f 0) f_P_Digits (fun _ => f_P_Digitss)),.k (iv n),.k (bv (decide ((f_P_Digits.length : Int) ≤ n))),.k (bv (decide ((f_P_Digits.length : Int) ≤ n))),.k (pp ((G1 0).b) 2),.k (pp ((G1 0).b) 3),.ld 0 3 false (fun _ => [f_Q_Digitss.v]),.ln (kf false (.f 1) f_Q_Digits (fun _ => f_Q_Digitss)),.k (iv n),.k (bv (decide ((f_Q_Digits.length : Int) ≤ n))),.andn g0 false (decide ((f_P_Digits.length : Int) ≤ n)) (decide ((f_Q_Digits.length : Int) ≤ n)) p1 hp1,.k (bv p1)] fun _ _ G2 => ?_
  intro S_ s_
  have e0 : p1 = decide ((f_P_Digits.length : Int) ≤ n ∧ (f_Q_Digits.length : Int) ≤ n) := by
    refine Bool.eq_iff_iff.2 (Iff.trans (iN hp1 (iAT iDT iDT)) (Iff.trans ?_ decide_eq_true_iff.symm))
    exact Iff.rfl
  exact V.ret [0] [] [] [] [] [] (bv p1) (fun _ _ => by kernel_rfl) (fun _ _ => (Eq.trans (by kernel_rfl) (cong1 (fun (x0 : Bool) => (bv x0 : Value)) e0)).trans (by kernel_rfl)) (fun _ _ => trivial)
set_option maxRecDepth 10000 in
theorem few9_ct (u_Dim0 u_Dim1 u_Dim2 u_Dim3 u_Dim4 u_Dim5 u_Factor_P_Sign : Int) (u_Factor_P_Digits : List Int) (u_Factor_P_Digitss : SV) (u_Factor_Q_Sign : Int) (u_Factor_Q_Digits : List Int) (u_Factor_Q_Digitss : SV) :
    Cp Try.prog 21 #[.agg #[iv u_Dim0, iv u_Dim1, iv u_Dim2, iv u_Dim3, iv u_Dim4, iv u_Dim5, iv u_Factor_P_Sign, u_Factor_P_Digitss.v, iv u_Factor_Q_Sign, u_Factor_Q_Digitss.v]] [fs true u_Factor_P_Digits u_Factor_P_Digitss, fs true u_Factor_Q_Digits u_Factor_Q_Digitss] (bv (decide ((u_Factor_P_Digits.length : Int) ≤ 12 ∧ (u_Factor_Q_Digits.length : Int) ≤ 12))) := by
  refine V.fn mo Try.func21 6 1 (by kernel_rfl) fun w H ε k0 => ?_
  obtain ⟨⟨kl1, -⟩, ⟨kl2, -⟩, -⟩ : Lq u_Factor_P_Digits u_Factor_P_Digitss.v ∧ Lq u_Factor_Q_Digits u_Factor_Q_Digitss.v ∧ True := kn k0 (by kernel_rfl)
  clear k0
  refine V.g [.nb 0 0 (fun b => pp b 0) 32 (fun _ => #[iv u_Dim0, iv u_Dim1, iv u_Dim2, iv u_Dim3, iv u_Dim4, iv u_Dim5, iv u_Factor_P_Sign, u_Factor_P_Digitss.v, iv u_Factor_Q_Sign, u_Factor_Q_Digitss.v]),.kb false] fun _ _ G1 => ?_
  intro S_ s_
  refine V.g [.k (pp ((G1 0).b) 6),.ld 0 6 true (fun _ => Dat.cells (DFrac.mk (DBig.mk u_Factor_P_Sign ⟨u_Factor_P_Digits, u_Factor_P_Digitss⟩) (DBig.mk u_Factor_Q_Sign ⟨u_Factor_Q_Digits, u_Factor_Q_Digitss⟩))),.cp g0 2 22 [(kf false (.f 0) u_Factor_P_Digits (fun _ => u_Factor_P_Digitss)).a, (kf false (.f 1) u_Factor_Q_Digits (fun _ => u_Factor_Q_Digitss)).a] (fun _ G => few5_ct u_Factor_P_Sign u_Factor_P_Digits u_Factor_P_Digitss u_Factor_Q_Sign u_Factor_Q_Digits u_Factor_Q_Digitss (12 : Int)),.k (bv (decide ((u_Factor_P_Digits.length : Int) ≤ (12 : Int) ∧ (u_Factor_Q_Digits.length : Int) ≤ (12 : Int))))] fun _ _ G2 => ?_
  intro S_ s_
  have e0 : (decide ((u_Factor_P_Digits.length : Int) ≤ (12 : Int) ∧ (u_Factor_Q_Digits.length : Int) ≤ (12 : Int))) = decide ((u_Factor_P_Digits.length : Int) ≤ 12 ∧ (u_Factor_Q_Digits.length : Int) ≤ 12) := by first | rfl | omega | simp_all
  exact V.ret [0] [] [] [] [] [] (bv (decide ((u_Factor_P_Digits.length : Int) ≤ (12 : Int) ∧ (u_Factor_Q_Digits.length : Int) ≤ (12 : Int)))) (fun _ _ => by kernel_rfl) (fun _ _ => (Eq.trans (by kernel_rfl) (cong1 (fun (x0 : Bool) => (bv x0 : Value)) e0)).trans (by kernel_rfl)) (fun _ _ => trivial)

open Go Go.RowKit Go.WideShapes Go.ChangeShapes
theorem hcells_of {w : World} {a : Addr} {vs : List Value} (h0 : vs ≠ []) (h : ∀ (j : Nat) (v : Value), vs[j]? = some v → w.cell? (a.add j) = some v) : HCells (whole w) a vs := by
  obtain ⟨v0, vs', rfl⟩ := List.exists_cons_of_ne_nil h0
  have h1 := h 0 v0 rfl
  have e0 : a.add 0 = a := by simp [Addr.add]
  rw [e0] at h1
  have hs := World.cell?_spot h1
  unfold World.cell? at h1
  split at h1
  · rename_i c T fr hb
    refine ⟨hs, c, T, fr, hb, fun j v hj => ?_⟩
    have h2 := h j v hj
    rw [add_eq hs] at h2
    simpa [World.cell?, hb] using h2
  · cases h1
structure Opens (P : Program) (w : World) (e : TypeId) (α : Type) [Dat α] : Prop where
  cells : P.cellsOf e = Dat.size α
  full : 0 < Dat.size α
  data : ∀ {H : Type} {enc : TypeId × Value → H} {base : Nat} {sp : Nat → Bool} {held : Bool} {n : Nat} {cs : List Value} {x : DataW H × List MemPlace}, DataW.trod enc P w base sp held n e cs = some x → ∃ y : α, cs = Dat.cells y ∧ Dat.good (whole w) y
section
variable {H : Type} {enc : TypeId × Value → H} {P : Program} {w : World} {base : Nat} {sp : Nat → Bool} {held : Bool}
theorem cells_get {a : Addr} {n : Nat} {cs : List Value} (h : w.cells? base a n = some cs) : ∀ (j : Nat) (v : Value), cs[j]? = some v → w.cell? (a.add j) = some v := by
  intro j v hj
  unfold World.cells? at h
  split at h
  · have hl := mapM_some_length h
    have hlt := (List.getElem?_eq_some_iff.1 hj).1
    rw [hl, List.length_range] at hlt
    have := mapM_some_get h j j (by simp [hlt])
    rw [this, hj]
  · cases h
theorem opens_slice {α : Type} [Dat α] {t e : TypeId} (ht : P.underlying t = some (.slice e)) (o : Opens P w e α) {fuel : Nat} {cs : List Value} {x : DataW H × List MemPlace} (h : DataW.trod enc P w base sp held fuel t cs = some x) :
    ∃ (l : List α) (s : SV), cs = [s.v] ∧ RSl (whole w) l s.v := by
  rcases DataW.trod_slice ht h with ⟨rfl, _⟩ | ⟨a, len, cap, elems, rest, n, _, rfl, _, _, hl, hm, hlen, hel, _⟩
  · exact ⟨[], {}, rfl, RSl.nil⟩
  · have each : ∀ i, i < len → ∃ y : α, w.cells? base (a.add (i * Dat.size α)) (Dat.size α) = some (Dat.cells y) ∧ Dat.good (whole w) y := fun i hi => by
      have h1 := hel i hi
      rw [o.cells, List.getElem?_eq_getElem (by omega), Option.bind_eq_some_iff] at h1
      obtain ⟨cs', h2, h3⟩ := h1
      obtain ⟨y, rfl, hg⟩ := o.data h3
      exact ⟨y, h2, hg⟩
    have ⟨f, hf⟩ : ∃ f : Nat → α, ∀ i, i < len → w.cells? base (a.add (i * Dat.size α)) (Dat.size α) = some (Dat.cells (f i)) ∧ Dat.good (whole w) (f i) :=
      ⟨fun i => if hi : i < len then Classical.choose (each i hi) else default, fun i hi => by simp only [dif_pos hi]; exact Classical.choose_spec (each i hi)⟩
    refine ⟨(List.range len).map f, ⟨some a, len, cap⟩, rfl, ⟨⟨?_, ?_, some a, cap, ?_, ?_, hm, ?_, ?_⟩, ?_⟩⟩
    · intro r hr; simp [rows] at hr; obtain ⟨i, _, rfl⟩ := hr; exact Dat.len _
    · intro r hr; simp [rows] at hr; obtain ⟨i, hi, rfl⟩ := hr; exact Dat.one _ _ (hf i hi).2
    · simp [SV.v]
    · simpa using hl
    · intro h; cases h
    · intro b hb hne
      cases hb
      have hrl : ∀ r ∈ rows ((List.range len).map f), r.length = Dat.size α := by intro r hr; simp [rows] at hr; obtain ⟨i, _, rfl⟩ := hr; exact Dat.len _
      have h0 : 0 < len := by
        rcases Nat.eq_zero_or_pos len with h | h
        · subst h; simp [rows] at hne
        · exact h
      have hfl := flatten_len hrl
      simp only [rows_length, List.length_map, List.length_range] at hfl
      have hsz := o.full
      have hspot : a.spot = none := by
        have h1 := cells_get (hf 0 h0).1
        have h2 : (Dat.cells (f 0)).length = Dat.size α := Dat.len _
        have h3 := h1 0 _ (List.getElem?_eq_getElem (by omega))
        have := World.cell?_spot h3
        simpa [Addr.add] using this
      refine hcells_of (fun e => ?_) fun j v hj => ?_
      · rw [e] at hfl
        have := Nat.mul_pos h0 hsz
        simp at hfl; omega
      · have hj2 := (List.getElem?_eq_some_iff.1 hj).1
        rw [hfl] at hj2
        have hk : j / Dat.size α < len := Nat.div_lt_of_lt_mul (by rwa [Nat.mul_comm])
        have hr : j % Dat.size α < Dat.size α := Nat.mod_lt _ hsz
        have h2 : (Dat.cells (f (j / Dat.size α))).length = Dat.size α := Dat.len _
        have e1 : (rows ((List.range len).map f))[j / Dat.size α]? = some (Dat.cells (f (j / Dat.size α))) := by simp [rows, hk]
        have e2 := List.getElem?_eq_getElem (l := Dat.cells (f (j / Dat.size α))) (i := j % Dat.size α) (by omega)
        have e3 := flatten_get hrl _ _ _ _ e1 e2
        have ej : j / Dat.size α * Dat.size α + j % Dat.size α = j := by rw [Nat.mul_comm]; exact Nat.div_add_mod j _
        rw [ej, hj] at e3
        have h4 := cells_get (hf _ hk).1 _ _ e2
        rw [← Option.some.inj e3] at h4
        rw [← h4, add_eq hspot, add_eq (a := a.add _) (by rw [add_eq hspot]), add_eq hspot]
        simp only [Nat.add_assoc, ej]
    · intro y hy; simp at hy; obtain ⟨i, hi, rfl⟩ := hy; exact (hf i hi).2
theorem Opens.field {α : Type} [Dat α] {t : TypeId} {fs : Array Field} (ht : P.underlying t = some (.struct fs)) {fuel : Nat} {cs : List Value} {x : DataW H × List MemPlace} (h : DataW.trod enc P w base sp held fuel t cs = some x)
    (i : Nat) {f : Field} (hi : fs[i]? = some f) (o : Opens P w f.type α) : ∃ y : α, (cs.drop f.offset).take (Dat.size α) = Dat.cells y ∧ Dat.good (whole w) y := by
  obtain ⟨xs, n, _, _, _, hx, hf⟩ := DataW.trod_struct ht h
  have h1 := hf i f hi
  have hlt := (Array.getElem?_eq_some_iff.1 hi).1
  rw [List.getElem?_eq_getElem (by omega), o.cells] at h1
  exact o.data h1
theorem struct_len {t : TypeId} {fs : Array Field} (ht : P.underlying t = some (.struct fs)) {fuel : Nat} {cs : List Value} {x : DataW H × List MemPlace} (h : DataW.trod enc P w base sp held fuel t cs = some x) : cs.length = P.cellsOf t := by
  obtain ⟨xs, n, _, _, hl, _⟩ := DataW.trod_struct ht h
  exact hl
theorem opens_fat {α : Type} [Dat α] {k e : TypeId} (ht : P.underlying k = some (.slice e)) (hc : P.cellsOf k = 1) (o : Opens P w e α) : Opens P w k (Fat α) :=
  ⟨hc, by show 0 < 1; decide, fun h => by
    obtain ⟨l, s, rfl, hr⟩ := opens_slice ht o h
    exact ⟨⟨l, s⟩, rfl, hr⟩⟩
theorem opens_int {k : TypeId} (ht : P.underlying k = some (.int .i64)) (hc : P.cellsOf k = 1) : Opens P w k Int :=
  ⟨hc, by decide, fun h => by obtain ⟨n, rfl, _, _⟩ := DataW.trod_int ht h; exact ⟨n, rfl, trivial⟩⟩
end

open Go Go.RowKit Go.WideShapes Go.ChangeShapes
section
variable {H : Type} {enc : TypeId × Value → H} {P : Program} {w : World} {base : Nat} {sp : Nat → Bool} {held : Bool}
theorem opens_six {t e : TypeId} (ht : P.underlying t = some (.array 6 e)) (he : P.underlying e = some (.int .i64)) (hc : P.cellsOf t = 6) (h1 : P.cellsOf e = 1) : Opens P w t Six :=
  ⟨hc, by decide, fun {_ _ _ _ _ _ cs _} h => by
    obtain ⟨xs, k, _, _, hl, hx, hel⟩ := DataW.trod_array ht h
    rw [hc] at hl
    match cs, hl with
    | [c0, c1, c2, c3, c4, c5], _ =>
      have each : ∀ i, i < 6 → ∃ n : Int, [c0, c1, c2, c3, c4, c5][i]? = some (.int .i64 n) := fun i hi => by
        have h2 := hel i hi
        have hi' : i < [c0, c1, c2, c3, c4, c5].length := hi
        rw [List.getElem?_eq_getElem (by omega), h1, Nat.mul_one, List.drop_eq_getElem_cons hi'] at h2
        obtain ⟨n, h3, _, _⟩ := DataW.trod_int he h2
        simp at h3
        exact ⟨n, by rw [List.getElem?_eq_getElem hi', h3]⟩
      obtain ⟨n0, h0⟩ := each 0 (by omega)
      obtain ⟨n1, h1⟩ := each 1 (by omega)
      obtain ⟨n2, h2⟩ := each 2 (by omega)
      obtain ⟨n3, h3⟩ := each 3 (by omega)
      obtain ⟨n4, h4⟩ := each 4 (by omega)
      obtain ⟨n5, h5⟩ := each 5 (by omega)
      simp at h0 h1 h2 h3 h4 h5
      exact ⟨⟨n0, n1, n2, n3, n4, n5⟩, by rw [h0, h1, h2, h3, h4, h5]; rfl, trivial⟩⟩
theorem arg_agg {α : Type} [Dat α] {r : Reach} {b0 : Nat} {t : TypeId} {fs : Array Field} (ht : P.underlying t = some (.struct fs)) (o : Opens P w t α)
    {v : Value} {d : DataW H} {ps : List MemPlace} (hv : Value.okWide P w r b0 t v) (h : DataW.Trod enc P w base sp held t v d ps) :
    ∃ x : α, v = .agg (Dat.cells x).toArray ∧ Dat.good (whole w) x := by
  obtain ⟨n, hn⟩ := h
  obtain ⟨cs, rfl, hl⟩ := okWide_struct ht hv
  obtain ⟨x, h1, h2⟩ := o.data hn
  refine ⟨x, ?_, h2⟩
  have h1' : cs.toList = Dat.cells x := h1
  rw [← h1']
end

open Go Go.Proofs
theorem opens_28 (w : World) : Opens Try.prog w 28 DBig := ⟨by kernel_rfl, by decide, fun {_ _ _ _ _ _ cs _} h => by
  have hl : cs.length = 2 := (struct_len Try.underlying28 h).trans (by kernel_rfl)
  obtain ⟨y0, e0, g0⟩ := Opens.field Try.underlying28 h 0 rfl (Kb.opens_int Try.underlying3 (by kernel_rfl))
  obtain ⟨y1, e1, g1⟩ := Opens.field Try.underlying28 h 1 rfl (Kb.opens_fat Try.underlying26 (by kernel_rfl) (Kb.opens_int Try.underlying3 (by kernel_rfl)))
  obtain ⟨c0, c1, rfl⟩ : ∃ c0 c1, cs = [c0, c1] := by
    rcases cs with _ | ⟨c0, _ | ⟨c1, _ | ⟨_, _⟩⟩⟩
    all_goals first | exact ⟨_, _, rfl⟩ | (simp at hl; done) | (simp at hl; omega)
  simp [Dat.cells, Dat.size] at e0 e1
  refine ⟨⟨y0, y1⟩, ?_, g1⟩
  simp [Dat.cells, e0, e1]⟩
theorem opens_30 (w : World) : Opens Try.prog w 30 DFrac := ⟨by kernel_rfl, by decide, fun {_ _ _ _ _ _ cs _} h => by
  have hl : cs.length = 4 := (struct_len Try.underlying30 h).trans (by kernel_rfl)
  obtain ⟨y0, e0, g0⟩ := Opens.field Try.underlying30 h 0 rfl (Kb.opens_28 w)
  obtain ⟨y1, e1, g1⟩ := Opens.field Try.underlying30 h 1 rfl (Kb.opens_28 w)
  obtain ⟨c0, c1, c2, c3, rfl⟩ : ∃ c0 c1 c2 c3, cs = [c0, c1, c2, c3] := by
    rcases cs with _ | ⟨c0, _ | ⟨c1, _ | ⟨c2, _ | ⟨c3, _ | ⟨_, _⟩⟩⟩⟩⟩
    all_goals first | exact ⟨_, _, _, _, rfl⟩ | (simp at hl; done) | (simp at hl; omega)
  simp [Dat.cells, Dat.size] at e0 e1
  refine ⟨⟨y0, y1⟩, ?_, ⟨g0, g1⟩⟩
  simp [Dat.cells, e0, e1]⟩
theorem opens_32 (w : World) : Opens Try.prog w 32 DUnit := ⟨by kernel_rfl, by decide, fun {_ _ _ _ _ _ cs _} h => by
  have hl : cs.length = 10 := (struct_len Try.underlying32 h).trans (by kernel_rfl)
  obtain ⟨y0, e0, g0⟩ := Opens.field Try.underlying32 h 0 rfl (Kb.opens_six Try.underlying23 Try.underlying3 (by kernel_rfl) (by kernel_rfl))
  obtain ⟨y1, e1, g1⟩ := Opens.field Try.underlying32 h 1 rfl (Kb.opens_30 w)
  obtain ⟨c0, c1, c2, c3, c4, c5, c6, c7, c8, c9, rfl⟩ : ∃ c0 c1 c2 c3 c4 c5 c6 c7 c8 c9, cs = [c0, c1, c2, c3, c4, c5, c6, c7, c8, c9] := by
    rcases cs with _ | ⟨c0, _ | ⟨c1, _ | ⟨c2, _ | ⟨c3, _ | ⟨c4, _ | ⟨c5, _ | ⟨c6, _ | ⟨c7, _ | ⟨c8, _ | ⟨c9, _ | ⟨_, _⟩⟩⟩⟩⟩⟩⟩⟩⟩⟩⟩
    all_goals first | exact ⟨_, _, _, _, _, _, _, _, _, _, rfl⟩ | (simp at hl; done) | (simp at hl; omega)
  simp [Dat.cells, Dat.size] at e0 e1
  refine ⟨⟨y0, y1⟩, ?_, g1⟩
  simp [Dat.cells, e0, e1]⟩
end Kb
