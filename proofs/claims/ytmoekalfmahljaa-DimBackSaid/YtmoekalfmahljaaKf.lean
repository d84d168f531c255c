/- Data in memory: what a row of cells stands for; slices as lists. The rules for operations on memory, said of data. No program in sight. -/
import Derived.Test.YtmoekalfmahljaaKd
set_option linter.unusedVariables false
set_option linter.unusedSectionVars false
set_option linter.unusedSimpArgs false
namespace Kb
open Go

/-- what a list's slice tells of it -/
def Lq {α : Type} (l : List α) (v : Value) : Prop := l.length ≤ 9223372036854775807 ∧ ∀ s : SV, v = s.v → s.a.isNone = true → l = []
/-- data that rows of cells stand for -/
class Dat (α : Type) extends Inhabited α where
  size : Nat
  cells : α → List Value
  good : Heaplet → α → Prop
  len : ∀ x, (cells x).length = size
  one : ∀ H x, good H x → ∀ u ∈ cells x, cell1 u = true
  mono : ∀ H K x, Sub H K → good H x → good K x
  zero : ∀ H, good H default
  q : α → Prop := fun _ => True
  hq : ∀ H x, good H x → q x := by intros; trivial
instance : Dat Int where
  default := 0
  size := 1
  cells n := [.int .i64 n]
  good _ _ := True
  len _ := rfl
  one _ _ _ u hu := by simp at hu; subst hu; rfl
  mono _ _ _ _ _ := trivial
  zero _ := trivial
instance : Dat Bool where
  default := false
  size := 1
  cells n := [.bool n]
  good _ _ := True
  len _ := rfl
  one _ _ _ u hu := by simp at hu; subst hu; rfl
  mono _ _ _ _ _ := trivial
  zero _ := trivial
instance : Dat ByteArray where
  default := ByteArray.empty
  size := 1
  cells n := [.string n]
  good _ _ := True
  len _ := rfl
  one _ _ _ u hu := by simp at hu; subst hu; rfl
  mono _ _ _ _ _ := trivial
  zero _ := trivial
instance : Dat UInt8 where
  default := 0
  size := 1
  cells n := [.int .u8 n.toNat]
  good _ _ := True
  len _ := rfl
  one _ _ _ u hu := by simp at hu; subst hu; rfl
  mono _ _ _ _ _ := trivial
  zero _ := trivial
section
variable {α : Type} [Dat α]
def rows (l : List α) : List (List Value) := l.map Dat.cells
@[simp] theorem rows_length (l : List α) : (rows l).length = l.length := by simp [rows]
theorem rows_append (l m : List α) : rows (l ++ m) = rows l ++ rows m := by simp [rows]
/-- a slice that reads as a list -/
structure RSl (H : Heaplet) (l : List α) (v : Value) : Prop where
  sl : HSlice H (Dat.size α) (rows l) v
  good : ∀ x ∈ l, Dat.good H x
/-- a slice that the call owns -/
structure OSl (E : TypeId) (H : Heaplet) (l : List α) (v : Value) (e : Ent) : Prop where
  sl : OwnS E (Dat.size α) (rows l) v e
  good : ∀ x ∈ l, Dat.good H x
/-- a list with the slice that stands for it -/
structure Fat (α : Type) where
  l : List α := []
  s : SV := {}
abbrev Fat.v (x : Fat α) : Value := x.s.v
/-- lists with slices that stand for them -/
def fats {α : Type} : List (List α) → (Nat → SV) → List (Fat α)
  | [], _ => []
  | x :: l, σ => ⟨x, σ 0⟩ :: fats l fun i => σ (i + 1)
@[simp] theorem fats_l {α : Type} : ∀ (l : List (List α)) (σ : Nat → SV), (fats l σ).map (·.l) = l
  | [], _ => rfl
  | x :: l, σ => by simp [fats, fats_l l]
@[simp] theorem fats_length {α : Type} (l : List (List α)) (σ : Nat → SV) : (fats l σ).length = l.length := by
  rw [← List.length_map (f := fun x : Fat α => x.l), fats_l]
theorem fats_ex {α : Type} : ∀ {l : List (Fat α)} {m : List (List α)}, l.map (·.l) = m → ∃ σ, l = fats m σ
  | [], m, h => ⟨fun _ => {}, by subst h; rfl⟩
  | x :: l, m, h => by
    subst h
    obtain ⟨σ, e⟩ := fats_ex (l := l) rfl
    exact ⟨fun i => match i with | 0 => x.s | i + 1 => σ i, by
      show _ = fats (x.l :: l.map (·.l)) _
      rw [fats]
      show x :: l = ⟨x.l, x.s⟩ :: fats (l.map (·.l)) σ
      rw [← e]⟩
theorem getD_l {α : Type} (l : List (Fat α)) (k : Nat) : (l.map (·.l)).getD k [] = (l.getD k {}).l := by
  simp only [List.getD_eq_getElem?_getD, List.getElem?_map]
  cases l[k]? <;> rfl
theorem RSl.cell1 {H : Heaplet} {l : List α} {v : Value} (h : RSl H l v) : cell1 v = true := by
  obtain ⟨a, c, rfl, _⟩ := h.sl.val
  rfl
theorem OSl.cell1 {E : TypeId} {e : Ent} {H : Heaplet} {l : List α} {v : Value} (h : OSl E H l v e) : cell1 v = true := by
  rcases h.sl.val with ⟨rfl, _⟩ | ⟨_, _, _, rfl, _⟩ <;> rfl
theorem RSl.mono {H K : Heaplet} {l : List α} {v : Value} (h : RSl H l v) (k : Sub H K) : RSl K l v := ⟨h.sl.mono k, fun x hx => Dat.mono _ _ x k (h.good x hx)⟩
theorem OSl.mono {E : TypeId} {e : Ent} {H K : Heaplet} {l : List α} {v : Value} (h : OSl E H l v e) (k : Sub H K) : OSl E K l v e := ⟨h.sl, fun x hx => Dat.mono _ _ x k (h.good x hx)⟩
theorem OSl.any {E : TypeId} {e : Ent} {H K : Heaplet} {l : List α} {v : Value} (h : OSl E H l v e) (k : ∀ x ∈ l, Dat.good K x) : OSl E K l v e := ⟨h.sl, k⟩
theorem RSl.nil {H : Heaplet} : RSl H ([] : List α) (.slice none 0 0) := ⟨HSlice.nil, by simp⟩
theorem OSl.nil {E : TypeId} {H : Heaplet} : OSl E H ([] : List α) (.slice none 0 0) none := ⟨OwnS.nil _ _, by simp⟩
theorem RSl.isSl {H : Heaplet} {l : List α} {v : Value} (h : RSl H l v) : IsSl v l.length := by
  have := h.sl.isSl
  rwa [rows_length] at this
theorem RSl.lim {H : Heaplet} {l : List α} {v : Value} (h : RSl H l v) : l.length ≤ 9223372036854775807 := by
  have := h.sl.lim
  rwa [rows_length] at this
theorem RSl.lq {α : Type} [Dat α] {H : Heaplet} {l : List α} {v : Value} (h : RSl H l v) : Lq l v := ⟨h.lim, fun s e hn => by
  obtain ⟨a, c, e', h1, _⟩ := h.isSl
  rw [e] at e'
  have ha : s.a = a := by injection e'
  have : s.a = none := by simpa using hn
  exact List.eq_nil_of_length_eq_zero (h1 (ha ▸ this))⟩
instance : Dat (Fat α) where
  default := {}
  size := 1
  cells x := [x.v]
  good H x := RSl H x.l x.v
  len _ := rfl
  one _ x h u hu := by simp at hu; subst hu; exact h.cell1
  mono _ _ _ k h := h.mono k
  zero _ := RSl.nil
  q x := Lq x.l x.v
  hq _ _ h := h.lq
theorem OSl.isSl {E : TypeId} {e : Ent} {H : Heaplet} {l : List α} {v : Value} (h : OSl E H l v e) : IsSl v l.length := by
  have := h.sl.isSl
  rwa [rows_length] at this
theorem OSl.lim {E : TypeId} {e : Ent} {H : Heaplet} {l : List α} {v : Value} (h : OSl E H l v e) : l.length ≤ 9223372036854775807 := by
  have := h.sl.lim
  rwa [rows_length] at this
/-- an owned slice, read -/
theorem OSl.read {E : TypeId} {e : Ent} {H : Heaplet} {l : List α} {v : Value} {w : World} (h : OSl E H l v e) (he : EntIn w e) (hA : Agrees w H) : RSl (hun (entH e) H) l v :=
  ⟨h.sl.toH.mono hun_left, fun x hx => Dat.mono _ _ x (hun_right (entH_agrees he) hA) (h.good x hx)⟩
theorem OSl.frozen {E : TypeId} {e : Ent} {H K : Heaplet} {l : List α} {v : Value} (h : OSl E H l v e) (k : Sub H K) (k2 : Sub (entH e) K) : RSl K l v :=
  ⟨h.sl.toH.mono k2, fun x hx => Dat.mono _ _ x k (h.good x hx)⟩
theorem RSl.elem {H : Heaplet} {l : List α} {v : Value} (h : RSl H l v) {k : Nat} {x : α} (hk : k < l.length) (hx : x = l.getD k default) : HCells H (elemAddr v (k * Dat.size α)) (Dat.cells x) :=
  h.sl.elem (get_map' hk hx)
theorem RSl.at {H : Heaplet} {l : List α} {v : Value} (h : RSl H l v) {k : Int} {x : α} (hk : k < l.length) (h0 : 0 ≤ k) (hx : x = l.getD k.toNat default) : HCells H (elemAddr v (k.toNat * Dat.size α)) (Dat.cells x) :=
  h.elem (by omega) hx
theorem RSl.goodAt {H : Heaplet} {l : List α} {v : Value} (h : RSl H l v) {k : Int} {x : α} (hk : k < l.length) (h0 : 0 ≤ k) (hx : x = l.getD k.toNat default) : Dat.good H x :=
  h.good x (getD_mem (by omega) hx)
theorem OSl.goodAt {E : TypeId} {e : Ent} {H : Heaplet} {l : List α} {v : Value} (h : OSl E H l v e) {k : Int} {x : α} (hk : k < l.length) (h0 : 0 ≤ k) (hx : x = l.getD k.toNat default) : Dat.good H x :=
  h.good x (getD_mem (by omega) hx)
theorem RSl.sub {H : Heaplet} {l : List α} {v : Value} (h : RSl H l v) {lo hi : Nat} (h1 : lo ≤ hi) (h2 : hi ≤ l.length) : RSl H ((l.take hi).drop lo) (subV v (Dat.size α) lo hi) := by
  refine ⟨?_, fun x hx => h.good x (List.mem_of_mem_take (List.mem_of_mem_drop hx))⟩
  have := h.sl.sub h1 (by rw [rows_length]; exact h2)
  have e : rows ((l.take hi).drop lo) = ((rows l).take hi).drop lo := by simp [rows, List.map_take, List.map_drop]
  rw [e]; exact this
theorem OSl.take {E : TypeId} {e : Ent} {H : Heaplet} {l : List α} {v : Value} (h : OSl E H l v e) {n : Nat} (hn : n ≤ l.length) : OSl E H (l.take n) (subV v (Dat.size α) 0 n) e := by
  refine ⟨?_, fun x hx => h.good x (List.mem_of_mem_take hx)⟩
  have := h.sl.take (n := n) (by rw [rows_length]; exact hn)
  have e : rows (l.take n) = (rows l).take n := by simp [rows, List.map_take]
  rw [e]; exact this
/-- written out -/
theorem OSl.lit {E n g : Nat} {H : Heaplet} {l : List α} {arr : Array Value} (hg : ∀ x ∈ l, Dat.good H x) (hk : (l.length, arr.toList, decide (n ≤ maxLen)) = (n, (rows l).flatten, true)) :
    OSl E H l (.slice (some ⟨g, 0, none⟩) n n) (some (g, .cells arr E)) := by
  simp only [Prod.mk.injEq] at hk
  obtain ⟨h1, h2, h3⟩ := hk
  refine ⟨own_lit (by rw [rows_length]; exact h1) (fun r hr => ?_) (fun r hr => ?_) h2 (of_decide_eq_true h3), hg⟩
  · obtain ⟨x, _, rfl⟩ := List.mem_map.1 hr
    exact Dat.len x
  · obtain ⟨x, hx, rfl⟩ := List.mem_map.1 hr
    exact Dat.one H x (hg x hx)
end

section
variable {P : Program} {R : RC} {w0 : World} {X : List Nat} {i : Nat} {α : Type} [Dat α]
theorem One.appendD {t E : TypeId} {size bytes r : Nat} {l m lm : Gh → List α} {v x : Gh → Value} {e : Gh → Ent} {H J : Gh → Heaplet}
    (h : ∀ G g, AppendOf P R i t E size bytes r (v G) (e G) (x G) (fun v e => OSl E (H G) (lm G) v e) G g) (hs : Dat.size α = size)
    (hp : ∀ G w, R.Sees w0 X G i w → OSl E (H G) (l G) (v G) (e G) ∧ Agrees w (J G) ∧ RSl (J G) (m G) (x G) ∧ (∀ y ∈ m G, Dat.good (H G) y) ∧ lm G = l G ++ m G ∧ ((l G).length + (m G).length) * bytes ≤ 140737488355328) : One R P w0 X i := by
  subst hs
  refine One.append (rows := fun G => rows (l G)) (news := fun G => rows (m G)) (H := J) h fun G w hw => ?_
  obtain ⟨h1, h2, h3, h4, h5, h6⟩ := hp G w hw
  refine ⟨⟨h1.sl, h2, h3.sl, by simpa using h6⟩, fun v e ho => ⟨by rw [h5, rows_append]; exact ho, fun y hy => ?_⟩⟩
  rw [h5] at hy
  rcases List.mem_append.1 hy with hy | hy
  · exact h1.good y hy
  · exact h4 y hy
theorem One.makeD {t E : TypeId} {size bytes r : Nat} {n : Int} {row : List Value} {H : Gh → Heaplet} {l : Gh → List α} (h : ∀ G g, MakeOf P R i t E size bytes r n row (fun v e => OSl E (H G) (l G) v e) G g) (hs : Dat.size α = size) (hrow : Dat.cells (default : α) = row)
    (hp : ∀ G w, R.Sees w0 X G i w → (0 ≤ n ∧ n ≤ 9223372036854775807 ∧ bytes * n ≤ 281474976710656) ∧ l G = List.replicate n.toNat default) : One R P w0 X i := by
  subst hs hrow
  refine One.make h fun G w hw => ?_
  obtain ⟨h1, h2⟩ := hp G w hw
  refine ⟨h1, fun v e ho => ⟨?_, fun x hx => ?_⟩⟩
  · rw [h2]
    have : rows (List.replicate n.toNat (default : α)) = List.replicate n.toNat (Dat.cells (default : α)) := by simp [rows]
    rw [this]; exact ho
  · rw [h2] at hx
    rw [(List.eq_of_mem_replicate hx : x = (default : α))]
    exact Dat.zero _
/-- a store into an element, or a part of it -/
theorem One.storeD {t r E size off : Nat} {k : Int} {l l' : Gh → List α} {x x' : Gh → α} {u : Gh → Value} {vs : Gh → List Value} {v : Gh → Value} {e : Gh → Ent} {p : Gh → Addr} {H : Gh → Heaplet}
    (h : ∀ G g, StoreOwnOf P R i t r (p G) size off (u G) (vs G) (e G) (fun e => OSl E (H G) (l' G) (v G) e) G g) (hs : Dat.size α = size) (hw : ∀ G, Dat.cells (x' G) = writeL (Dat.cells (x G)) off (vs G))
    (hk : ∀ G w, R.Sees w0 X G i w → OSl E (H G) (l G) (v G) (e G) ∧ p G = (elemAddr (v G) (k.toNat * size)).add off ∧ 0 ≤ k ∧ k < (l G).length ∧ x G = (l G).getD k.toNat default ∧ l' G = (l G).set k.toNat (x' G) ∧ (u G).cells.toList = vs G ∧ (vs G).all cell1 = true ∧ Dat.good (H G) (x' G)) : One R P w0 X i := by
  subst hs
  refine One.storeOwn (E := E) (v := v) (k := k) (rows := fun G => rows (l G)) (row := fun G => Dat.cells (x G)) h fun G w hg => ?_
  obtain ⟨h1, h2, h3, h4, h5, h6, h9, h7, h8⟩ := hk G w hg
  refine ⟨⟨h1.sl, h2, get_map' (by omega) h5, h9, h7⟩, fun e ho => ⟨?_, fun y hy => ?_⟩⟩
  · have : rows (l' G) = (rows (l G)).set k.toNat (writeL (Dat.cells (x G)) off (vs G)) := by rw [h6, ← hw]; simp [rows, List.map_set]
    rw [this]; exact ho
  · rw [h6] at hy
    rcases List.mem_or_eq_of_mem_set hy with hy | hy
    · exact h1.good y hy
    · rw [hy]; exact h8
/-- a load of an element, or of a part of it -/
theorem One.loadD {t : TypeId} {size off : Nat} {k : Int} {l : Gh → List α} {x : Gh → α} {vs : Gh → List Value} {v : Gh → Value} {H : Gh → Heaplet} {p : Gh → Addr} (h : ∀ G, LoadOf P R i t (p G) (vs G) G) (hs : Dat.size α = size) (hv : ∀ G, (((Dat.cells (x G)).drop off).take (vs G).length) = vs G)
    (hc : ∀ G w, R.Sees w0 X G i w → Agrees w (H G) ∧ RSl (H G) (l G) (v G) ∧ p G = (elemAddr (v G) (k.toNat * size)).add off ∧ 0 ≤ k ∧ k < (l G).length ∧ x G = (l G).getD k.toNat default) : One R P w0 X i := by
  subst hs
  refine One.loadC (H := H) h fun G w hg => ?_
  obtain ⟨h1, h2, h3, h4, h5, h6⟩ := hc G w hg
  refine ⟨h1, ?_⟩
  rw [h3]
  exact (h2.at h5 h4 h6).part (hv G)
end
theorem cong1 {α0 β : Type} (f : α0 → β) {a0 a0' : α0} (h0 : a0 = a0') : f a0 = f a0' := by subst h0; rfl
theorem cong2 {α0 α1 β : Type} (f : α0 → α1 → β) {a0 a0' : α0} (h0 : a0 = a0') {a1 a1' : α1} (h1 : a1 = a1') : f a0 a1 = f a0' a1' := by subst h0 h1; rfl
theorem cong3 {α0 α1 α2 β : Type} (f : α0 → α1 → α2 → β) {a0 a0' : α0} (h0 : a0 = a0') {a1 a1' : α1} (h1 : a1 = a1') {a2 a2' : α2} (h2 : a2 = a2') : f a0 a1 a2 = f a0' a1' a2' := by subst h0 h1 h2; rfl
theorem cong4 {α0 α1 α2 α3 β : Type} (f : α0 → α1 → α2 → α3 → β) {a0 a0' : α0} (h0 : a0 = a0') {a1 a1' : α1} (h1 : a1 = a1') {a2 a2' : α2} (h2 : a2 = a2') {a3 a3' : α3} (h3 : a3 = a3') : f a0 a1 a2 a3 = f a0' a1' a2' a3' := by subst h0 h1 h2 h3; rfl
theorem cong5 {α0 α1 α2 α3 α4 β : Type} (f : α0 → α1 → α2 → α3 → α4 → β) {a0 a0' : α0} (h0 : a0 = a0') {a1 a1' : α1} (h1 : a1 = a1') {a2 a2' : α2} (h2 : a2 = a2') {a3 a3' : α3} (h3 : a3 = a3') {a4 a4' : α4} (h4 : a4 = a4') : f a0 a1 a2 a3 a4 = f a0' a1' a2' a3' a4' := by subst h0 h1 h2 h3 h4; rfl
theorem cong6 {α0 α1 α2 α3 α4 α5 β : Type} (f : α0 → α1 → α2 → α3 → α4 → α5 → β) {a0 a0' : α0} (h0 : a0 = a0') {a1 a1' : α1} (h1 : a1 = a1') {a2 a2' : α2} (h2 : a2 = a2') {a3 a3' : α3} (h3 : a3 = a3') {a4 a4' : α4} (h4 : a4 = a4') {a5 a5' : α5} (h5 : a5 = a5') : f a0 a1 a2 a3 a4 a5 = f a0' a1' a2' a3' a4' a5' := by subst h0 h1 h2 h3 h4 h5; rfl
theorem cong7 {α0 α1 α2 α3 α4 α5 α6 β : Type} (f : α0 → α1 → α2 → α3 → α4 → α5 → α6 → β) {a0 a0' : α0} (h0 : a0 = a0') {a1 a1' : α1} (h1 : a1 = a1') {a2 a2' : α2} (h2 : a2 = a2') {a3 a3' : α3} (h3 : a3 = a3') {a4 a4' : α4} (h4 : a4 = a4') {a5 a5' : α5} (h5 : a5 = a5') {a6 a6' : α6} (h6 : a6 = a6') : f a0 a1 a2 a3 a4 a5 a6 = f a0' a1' a2' a3' a4' a5' a6' := by subst h0 h1 h2 h3 h4 h5 h6; rfl
theorem cong8 {α0 α1 α2 α3 α4 α5 α6 α7 β : Type} (f : α0 → α1 → α2 → α3 → α4 → α5 → α6 → α7 → β) {a0 a0' : α0} (h0 : a0 = a0') {a1 a1' : α1} (h1 : a1 = a1') {a2 a2' : α2} (h2 : a2 = a2') {a3 a3' : α3} (h3 : a3 = a3') {a4 a4' : α4} (h4 : a4 = a4') {a5 a5' : α5} (h5 : a5 = a5') {a6 a6' : α6} (h6 : a6 = a6') {a7 a7' : α7} (h7 : a7 = a7') : f a0 a1 a2 a3 a4 a5 a6 a7 = f a0' a1' a2' a3' a4' a5' a6' a7' := by subst h0 h1 h2 h3 h4 h5 h6 h7; rfl
theorem cong9 {α0 α1 α2 α3 α4 α5 α6 α7 α8 β : Type} (f : α0 → α1 → α2 → α3 → α4 → α5 → α6 → α7 → α8 → β) {a0 a0' : α0} (h0 : a0 = a0') {a1 a1' : α1} (h1 : a1 = a1') {a2 a2' : α2} (h2 : a2 = a2') {a3 a3' : α3} (h3 : a3 = a3') {a4 a4' : α4} (h4 : a4 = a4') {a5 a5' : α5} (h5 : a5 = a5') {a6 a6' : α6} (h6 : a6 = a6') {a7 a7' : α7} (h7 : a7 = a7') {a8 a8' : α8} (h8 : a8 = a8') : f a0 a1 a2 a3 a4 a5 a6 a7 a8 = f a0' a1' a2' a3' a4' a5' a6' a7' a8' := by subst h0 h1 h2 h3 h4 h5 h6 h7 h8; rfl
theorem cong10 {α0 α1 α2 α3 α4 α5 α6 α7 α8 α9 β : Type} (f : α0 → α1 → α2 → α3 → α4 → α5 → α6 → α7 → α8 → α9 → β) {a0 a0' : α0} (h0 : a0 = a0') {a1 a1' : α1} (h1 : a1 = a1') {a2 a2' : α2} (h2 : a2 = a2') {a3 a3' : α3} (h3 : a3 = a3') {a4 a4' : α4} (h4 : a4 = a4') {a5 a5' : α5} (h5 : a5 = a5') {a6 a6' : α6} (h6 : a6 = a6') {a7 a7' : α7} (h7 : a7 = a7') {a8 a8' : α8} (h8 : a8 = a8') {a9 a9' : α9} (h9 : a9 = a9') : f a0 a1 a2 a3 a4 a5 a6 a7 a8 a9 = f a0' a1' a2' a3' a4' a5' a6' a7' a8' a9' := by subst h0 h1 h2 h3 h4 h5 h6 h7 h8 h9; rfl
section
variable {P : Program} {nt : Nat} {w0 : World} {X : List Nat} {sl : Slots} {A : List Heaplet} {L : List Ent}
/-- a result that lies in a block of the call's own -/
theorem res_cell {a : Act} {w : World} {t ty r b off : Nat} {arr : Array Value} {T : TypeId} {vs : List Value} (hs : SlotsOK nt sl a) (hw : StW w0 X A L w)
    (h : (sl.lookup t, L[r]?, (P.underlying ty).isSome, sizeT P ty, aggB P ty || vs.length == 1, (List.range vs.length).map fun j => arr[off + j]?) =
      (some (.pointer (some ⟨b, off, none⟩)), some (some (b, .cells arr T)), true, some vs.length, true, vs.map some)) : (resOf a.tmps (.cell t ty)).run P w = .ok (wrapT P ty vs) w := by
  simp only [Prod.mk.injEq] at h
  obtain ⟨e1, e2, e3, e4, e5, e6⟩ := h
  obtain ⟨hb, _⟩ := hw.ent r b _ e2
  have hp := slot_getD e1 hs
  have hl := loadVar_run (w := w) (a := ⟨b, off, none⟩) e3 e4 (fun hb => by rw [hb] at e5; simpa using e5) fun j v hj => by
    have hlt : j < vs.length := (List.getElem?_eq_some_iff.1 hj).1
    have e7 := congrArg (fun l => l[j]?) e6
    simp only [List.getElem?_map, List.getElem?_range hlt, Option.map_some, hj, Option.some.injEq] at e7
    rw [add_eq rfl]
    simp [World.cell?, hb, e7]
  show (do loadVar ty (← asAddr (a.tmps.getD t undef)) : Sem Value).run P w = _
  rw [hp]
  simp [asAddr, hl]
end
end Kb
