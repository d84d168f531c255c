/- Memory: read-only parts, slices in them, slices that the call owns. No program in sight. -/
import Derived.Test.YtmoekalfmahljaaKb
import Derived.Laws.AppendOwn
import Derived.Laws.OwnMore
import Derived.Laws.MakeOwn
set_option linter.unusedVariables false
set_option linter.unusedSectionVars false
set_option linter.unusedSimpArgs false
namespace Kb
open Go

/-! ### addresses, cells -/
def IsSl (v : Value) (n : Nat) : Prop := ∃ a c, v = .slice a n c ∧ (a = none → n = 0) ∧ n ≤ c
/-- the address k cells behind a slice's first -/
def elemAddr (v : Value) (k : Nat) : Addr := match v with
  | .slice (some a) _ _ => a.add k
  | _ => default
theorem add_eq {a : Addr} (h : a.spot = none) (n : Nat) : a.add n = ⟨a.block, a.off + n, none⟩ := by
  unfold Addr.add
  split
  · rename_i e; subst e; cases a; simp_all
  · rfl
theorem add_zero' (a : Addr) : a.add 0 = a := by simp [Addr.add]
/-- cells of a read-only part -/
def HCells (H : Heaplet) (a : Addr) (vs : List Value) : Prop := a.spot = none ∧ ∃ c T fr, H a.block = some (.cells c T fr) ∧ ∀ (j : Nat) (v : Value), vs[j]? = some v → c[a.off + j]? = some v
theorem HCells.cell {H : Heaplet} {a : Addr} {vs : List Value} {w : World} (h : HCells H a vs) (ag : Agrees w H) (j : Nat) (v : Value) (hj : vs[j]? = some v) : w.cell? (a.add j) = some v := by
  obtain ⟨hs, c, T, fr, hb, hc⟩ := h
  have := ag _ _ hb
  rw [add_eq hs]
  simp [World.cell?, this, hc j v hj]
theorem HCells.drop {H : Heaplet} {a : Addr} {vs ws : List Value} {k : Nat} (h : HCells H a vs) (hw : ∀ (j : Nat) (v : Value), ws[j]? = some v → vs[k + j]? = some v) : HCells H (a.add k) ws := by
  obtain ⟨hs, c, T, fr, hb, hc⟩ := h
  rw [add_eq hs]
  refine ⟨rfl, c, T, fr, hb, fun j v hj => ?_⟩
  have := hc (k + j) v (hw j v hj)
  rwa [← Nat.add_assoc] at this
/-- one part of it: cell off -/
theorem HCells.at {H : Heaplet} {a : Addr} {vs : List Value} (h : HCells H a vs) {off : Nat} {u : Value} (e : vs[off]? = some u) : HCells H (a.add off) [u] :=
  h.drop fun j v hj => by
    cases j with
    | zero => simp at hj; subst hj; exact e
    | succ j => simp at hj
/-- n cells from off on -/
theorem HCells.part {H : Heaplet} {a : Addr} {vs ws : List Value} (h : HCells H a vs) {off : Nat} (e : (vs.drop off).take ws.length = ws) : HCells H (a.add off) ws :=
  h.drop fun j v hj => by
    rw [← e, List.getElem?_take] at hj
    split at hj
    · rw [List.getElem?_drop] at hj; exact hj
    · cases hj
/-- a value of one cell -/
def cell1 : Value → Bool
  | .agg _ => false
  | .tuple _ => false
  | _ => true
theorem cell1_one {u : Value} (h : cell1 u = true) : u.oneCell' = true := by cases u <;> first | rfl | cases h
/-- a slice value that reads as rows of cells -/
structure HSlice (H : Heaplet) (size : Nat) (rows : List (List Value)) (v : Value) : Prop where
  len : ∀ r ∈ rows, r.length = size
  one : ∀ r ∈ rows, ∀ u ∈ r, cell1 u = true
  val : ∃ a c, v = .slice a rows.length c ∧ rows.length ≤ c ∧ c ≤ maxLen ∧ (a = none → rows = [] ∧ c = 0) ∧ ∀ b, a = some b → rows ≠ [] → HCells H b rows.flatten
theorem HSlice.isSl {H : Heaplet} {size : Nat} {rows : List (List Value)} {v : Value} (h : HSlice H size rows v) : IsSl v rows.length := by
  obtain ⟨a, c, rfl, h1, _, h3, _⟩ := h.val
  exact ⟨a, c, rfl, fun e => by rw [(h3 e).1]; rfl, h1⟩
theorem HSlice.lim {H : Heaplet} {size : Nat} {rows : List (List Value)} {v : Value} (h : HSlice H size rows v) : rows.length ≤ 9223372036854775807 := by
  obtain ⟨a, c, rfl, h1, h2, _⟩ := h.val
  simp only [maxLen] at h2
  omega
theorem flatten_get {size : Nat} : ∀ {rows : List (List Value)} (_ : ∀ r ∈ rows, r.length = size) (k j : Nat) (r : List Value) (v : Value), rows[k]? = some r → r[j]? = some v → rows.flatten[k * size + j]? = some v
  | [], _, k, j, r, v, h, _ => by simp at h
  | r0 :: rows, hl, 0, j, r, v, h, hj => by
    simp at h; subst h
    have hlt : j < r0.length := (List.getElem?_eq_some_iff.1 hj).1
    rw [Nat.zero_mul, Nat.zero_add, List.flatten_cons, List.getElem?_append_left hlt]; exact hj
  | r0 :: rows, hl, k + 1, j, r, v, h, hj => by
    have h0 : r0.length = size := hl r0 (by simp)
    have ih := flatten_get (rows := rows) (fun r hr => hl r (by simp [hr])) k j r v (by simpa using h) hj
    rw [List.flatten_cons, List.getElem?_append_right (by rw [h0, Nat.succ_mul]; omega)]
    rw [h0, show (k + 1) * size + j - size = k * size + j from by rw [Nat.succ_mul]; omega]
    exact ih
theorem flatten_len {size : Nat} : ∀ {rows : List (List Value)}, (∀ r ∈ rows, r.length = size) → rows.flatten.length = rows.length * size
  | [], _ => by simp
  | r :: rows, h => by
    rw [List.flatten_cons, List.length_append, flatten_len (fun r hr => h r (by simp [hr])), h r (by simp), List.length_cons, Nat.succ_mul]; omega
theorem HSlice.elem {H : Heaplet} {size : Nat} {rows : List (List Value)} {v : Value} (h : HSlice H size rows v) {k : Nat} {r : List Value} (hk : rows[k]? = some r) : HCells H (elemAddr v (k * size)) r := by
  obtain ⟨a, c, rfl, h1, _, h3, h4⟩ := h.val
  have hne : rows ≠ [] := by intro e; subst e; simp at hk
  cases a with
  | none => exact absurd (h3 rfl).1 hne
  | some a => exact (h4 a rfl hne).drop fun j u hj => flatten_get h.len k j r u hk hj
theorem HSlice.cells {H : Heaplet} {size : Nat} {rows : List (List Value)} {v : Value} {w : World} (h : HSlice H size rows v) (ag : Agrees w H) : ∀ a n c, v = .slice (some a) n c → ∀ (j : Nat) (u : Value), rows.flatten[j]? = some u → w.cell? (a.add j) = some u := by
  rintro a n c e j u hj
  obtain ⟨b, c', e', _, _, _, h4⟩ := h.val
  rw [e'] at e
  cases e
  have hne : rows ≠ [] := by intro e; subst e; simp at hj
  exact (h4 a rfl hne).cell ag j u hj
theorem HSlice.nil {H : Heaplet} {size : Nat} : HSlice H size [] (.slice none 0 0) := ⟨by simp, by simp, none, 0, rfl, Nat.le_refl _, by simp [maxLen], fun _ => ⟨rfl, rfl⟩, fun b h => by cases h⟩
theorem HCells.mono {H K : Heaplet} {a : Addr} {vs : List Value} (h : HCells H a vs) (k : ∀ b o, H b = some o → K b = some o) : HCells K a vs := by
  obtain ⟨hs, c, T, fr, hb, hc⟩ := h
  exact ⟨hs, c, T, fr, k _ _ hb, hc⟩
theorem HSlice.mono {H K : Heaplet} {size : Nat} {rows : List (List Value)} {v : Value} (h : HSlice H size rows v) (k : ∀ b o, H b = some o → K b = some o) : HSlice K size rows v := by
  obtain ⟨a, c, e, h1, h2, h3, h4⟩ := h.val
  exact ⟨h.len, h.one, a, c, e, h1, h2, h3, fun b hb hn => (h4 b hb hn).mono k⟩

/-! ### parts of memory -/
/-- no block of it was there in w0 -/
def New (w0 : World) (H : Heaplet) : Prop := ∀ b, H b ≠ none → w0.heap.size ≤ b
/-- H is a part of K -/
def Sub (H K : Heaplet) : Prop := ∀ b o, H b = some o → K b = some o
theorem Sub.refl (H : Heaplet) : Sub H H := fun _ _ h => h
theorem Sub.trans {H K J : Heaplet} (h : Sub H K) (k : Sub K J) : Sub H J := fun b o e => k b o (h b o e)
def hun (H K : Heaplet) : Heaplet := fun b => match H b with
  | some o => some o
  | none => K b
theorem hun_agrees {w : World} {H K : Heaplet} (h : Agrees w H) (k : Agrees w K) : Agrees w (hun H K) := fun b o e => by
  unfold hun at e
  split at e
  · rename_i o' h1; cases e; exact h b _ h1
  · exact k b o e
theorem hun_left {H K : Heaplet} : Sub H (hun H K) := fun b o e => by simp [hun, e]
theorem hun_right {w : World} {H K : Heaplet} (h : Agrees w H) (k : Agrees w K) : Sub K (hun H K) := fun b o e => by
  unfold hun
  split
  · rename_i o' h1
    have a := h b _ h1
    have c := k b _ e
    rw [a] at c; exact c
  · exact e
theorem hun_sub {H K J : Heaplet} (h : Sub H J) (k : Sub K J) : Sub (hun H K) J := fun b o e => by
  unfold hun at e
  split at e
  · rename_i o' h1; cases e; exact h b _ h1
  · exact k b o e
theorem new_none {w0 : World} : New w0 (fun _ => none) := fun b h => absurd rfl h
theorem agrees_none {w : World} : Agrees w (fun _ => none) := fun b o h => by cases h
/-- K is H and new memory -/
structure Ext (w0 : World) (H K : Heaplet) : Prop where
  sub : Sub H K
  new : ∀ b, K b ≠ none → H b ≠ none ∨ w0.heap.size ≤ b
theorem Ext.refl (w0 : World) (H : Heaplet) : Ext w0 H H := ⟨Sub.refl H, fun _ h => .inl h⟩

/-! ### slices that the call owns -/
/-- value, block and rows belong together -/
structure OwnS (E : TypeId) (size : Nat) (rows : List (List Value)) (v : Value) (e : Ent) : Prop where
  len : ∀ r ∈ rows, r.length = size
  one : ∀ r ∈ rows, ∀ u ∈ r, cell1 u = true
  val : (v = .slice none 0 0 ∧ rows = [] ∧ e = none) ∨
    ∃ g cap cur, v = .slice (some ⟨g, 0, none⟩) rows.length cap ∧ e = some (g, .cells cur E) ∧ rows.length ≤ cap ∧ cap ≤ maxLen ∧ cur.size = cap * size ∧ cur.toList.take (rows.length * size) = rows.flatten
def EntIn (w : World) (e : Ent) : Prop := ∀ b o, e = some (b, o) → w.heap[b]? = some o
theorem OwnS.owns {E : TypeId} {size : Nat} {rows : List (List Value)} {v : Value} {e : Ent} {w : World} (h : OwnS E size rows v e) (he : EntIn w e) : w.ownsRow 0 E size v rows.length rows.flatten := by
  refine ⟨flatten_len h.len, ?_⟩
  rcases h.val with ⟨rfl, rfl, rfl⟩ | ⟨g, cap, cur, rfl, rfl, h1, h2, h3, h4⟩
  · exact .inl ⟨rfl, rfl⟩
  · exact .inr ⟨g, cap, cur, rfl, Nat.zero_le _, he _ _ rfl, h1, h2, h3, h4⟩
theorem OwnS.isSl {E : TypeId} {size : Nat} {rows : List (List Value)} {v : Value} {e : Ent} (h : OwnS E size rows v e) : IsSl v rows.length := by
  rcases h.val with ⟨rfl, rfl, rfl⟩ | ⟨g, cap, cur, rfl, _, h1, _⟩
  · exact ⟨none, 0, rfl, fun _ => rfl, Nat.le_refl _⟩
  · exact ⟨_, _, rfl, (fun h => by cases h), h1⟩
theorem OwnS.nil (E : TypeId) (size : Nat) : OwnS E size [] (.slice none 0 0) none := ⟨by simp, by simp, .inl ⟨rfl, rfl, rfl⟩⟩
/-- an owned slice, read-only from now on -/
def entH (e : Ent) : Heaplet := fun b => match e with
  | some (g, o) => if b = g then some o else none
  | none => none
theorem entH_agrees {w : World} {e : Ent} (he : EntIn w e) : Agrees w (entH e) := fun b o h => by
  unfold entH at h
  cases e with
  | none => cases h
  | some p =>
    obtain ⟨g, o'⟩ := p
    simp only at h
    split at h
    · rename_i hb; subst hb; cases h; exact he _ _ rfl
    · cases h
theorem entH_new {w0 : World} {e : Ent} (h : ∀ b o, e = some (b, o) → w0.heap.size ≤ b) : New w0 (entH e) := fun b hb => by
  unfold entH at hb
  cases e with
  | none => simp at hb
  | some p =>
    obtain ⟨g, o⟩ := p
    simp only at hb
    split at hb
    · rename_i e; subst e; exact h _ _ rfl
    · simp at hb
theorem OwnS.toH {E : TypeId} {size : Nat} {rows : List (List Value)} {v : Value} {e : Ent} (h : OwnS E size rows v e) : HSlice (entH e) size rows v := by
  rcases h.val with ⟨rfl, rfl, rfl⟩ | ⟨g, cap, cur, rfl, rfl, h1, h2, h3, h4⟩
  · exact HSlice.nil
  · refine ⟨h.len, h.one, some ⟨g, 0, none⟩, cap, rfl, h1, h2, (fun e => by cases e), fun b hb _ => ?_⟩
    cases hb
    refine ⟨rfl, cur, E, (0, 0), by simp [entH], fun j v hj => ?_⟩
    rw [← h4] at hj
    rw [List.getElem?_take] at hj
    split at hj
    · simpa using hj
    · cases hj
theorem OwnS.lim {E : TypeId} {size : Nat} {rows : List (List Value)} {v : Value} {e : Ent} (h : OwnS E size rows v e) : rows.length ≤ 9223372036854775807 := h.toH.lim
/-- written out -/
theorem own_lit {E size n g : Nat} {rows : List (List Value)} {arr : Array Value} (hn : rows.length = n) (hl : ∀ r ∈ rows, r.length = size) (h1 : ∀ r ∈ rows, ∀ u ∈ r, cell1 u = true) (ha : arr.toList = rows.flatten) (hm : n ≤ maxLen) :
    OwnS E size rows (.slice (some ⟨g, 0, none⟩) n n) (some (g, .cells arr E)) := by
  subst hn
  have hf := flatten_len hl
  have hs : arr.size = rows.length * size := by rw [← hf, ← ha, Array.length_toList]
  refine ⟨hl, h1, .inr ⟨g, rows.length, arr, rfl, rfl, Nat.le_refl _, hm, hs, ?_⟩⟩
  rw [ha, List.take_of_length_le (by rw [hf]; exact Nat.le_refl _)]
theorem take_flatten {size : Nat} : ∀ {rows : List (List Value)} (_ : ∀ r ∈ rows, r.length = size) (n : Nat), (rows.take n).flatten = rows.flatten.take (n * size)
  | [], _, n => by simp
  | r :: rows, h, 0 => by simp
  | r :: rows, h, n + 1 => by
    have hr := h r (by simp)
    have e1 : r.take (n * size + size) = r := List.take_of_length_le (by rw [hr]; exact Nat.le_add_left _ _)
    rw [List.take_succ_cons, List.flatten_cons, take_flatten (fun r hr => h r (by simp [hr])) n, List.flatten_cons, Nat.succ_mul, List.take_append, e1, hr, Nat.add_sub_cancel]
theorem drop_flatten {size : Nat} : ∀ {rows : List (List Value)} (_ : ∀ r ∈ rows, r.length = size) (n : Nat), (rows.drop n).flatten = rows.flatten.drop (n * size)
  | [], _, n => by simp
  | r :: rows, h, 0 => by simp
  | r :: rows, h, n + 1 => by
    have hr := h r (by simp)
    have e1 : r.drop (n * size + size) = [] := List.drop_of_length_le (by rw [hr]; exact Nat.le_add_left _ _)
    rw [List.drop_succ_cons, drop_flatten (fun r hr => h r (by simp [hr])) n, List.flatten_cons, Nat.succ_mul, List.drop_append, e1, hr, Nat.add_sub_cancel, List.nil_append]
def subV (v : Value) (size lo hi : Nat) : Value := match v with
  | .slice a _ cap => .slice (if cap = lo then a else a.map (·.add (lo * size))) (hi - lo) (cap - lo)
  | v => v
theorem HSlice.sub {H : Heaplet} {size : Nat} {rows : List (List Value)} {v : Value} (h : HSlice H size rows v) {lo hi : Nat} (h1 : lo ≤ hi) (h2 : hi ≤ rows.length) : HSlice H size ((rows.take hi).drop lo) (subV v size lo hi) := by
  have hlen : ∀ r ∈ (rows.take hi).drop lo, r.length = size := fun r hr => h.len r (List.mem_of_mem_take (List.mem_of_mem_drop hr))
  have hone : ∀ r ∈ (rows.take hi).drop lo, ∀ u ∈ r, cell1 u = true := fun r hr => h.one r (List.mem_of_mem_take (List.mem_of_mem_drop hr))
  have hl : ((rows.take hi).drop lo).length = hi - lo := by simp; omega
  obtain ⟨a, c, rfl, k1, k2, k3, k4⟩ := h.val
  have hf : ((rows.take hi).drop lo).flatten = (rows.flatten.take (hi * size)).drop (lo * size) := by
    rw [drop_flatten (fun r hr => h.len r (List.mem_of_mem_take hr)), take_flatten h.len]
  refine ⟨hlen, hone, (if c = lo then a else a.map (·.add (lo * size))), c - lo, by simp [subV, hl], by rw [hl]; omega, by omega, fun e => ?_, fun b hb hn => ?_⟩
  · have : a = none := by
      split at e
      · exact e
      · simpa using e
    obtain ⟨e1, e2⟩ := k3 this
    exact ⟨by rw [e1]; simp, by omega⟩
  · by_cases e : c = lo
    · have : ((rows.take hi).drop lo) = [] := List.eq_nil_of_length_eq_zero (by rw [hl]; omega)
      exact absurd this hn
    · rw [if_neg e] at hb
      cases a with
      | none => cases hb
      | some a =>
        cases hb
        have hne : rows ≠ [] := by intro e; subst e; simp at hn
        refine (k4 a rfl hne).drop fun j u hj => ?_
        rw [hf, List.getElem?_drop, List.getElem?_take] at hj
        split at hj
        · exact hj
        · cases hj
/-- the front of an owned slice is owned -/
theorem OwnS.take {E : TypeId} {size : Nat} {rows : List (List Value)} {v : Value} {e : Ent} (h : OwnS E size rows v e) {n : Nat} (hn : n ≤ rows.length) : OwnS E size (rows.take n) (subV v size 0 n) e := by
  have hlen : ∀ r ∈ rows.take n, r.length = size := fun r hr => h.len r (List.mem_of_mem_take hr)
  have hone : ∀ r ∈ rows.take n, ∀ u ∈ r, cell1 u = true := fun r hr => h.one r (List.mem_of_mem_take hr)
  rcases h.val with ⟨rfl, rfl, rfl⟩ | ⟨g, cap, cur, rfl, rfl, h1, h2, h3, h4⟩
  · simp at hn; subst hn
    exact ⟨by simp, by simp, .inl ⟨by simp [subV], by simp, rfl⟩⟩
  · refine ⟨hlen, hone, .inr ⟨g, cap, cur, ?_, rfl, by simp; omega, h2, h3, ?_⟩⟩
    · have hl : (rows.take n).length = n := by simp; omega
      simp only [subV, Nat.sub_zero, hl, Nat.zero_mul, Option.map_some, add_zero']
      split <;> rfl
    · have hl : (rows.take n).length = n := by simp; omega
      rw [hl, take_flatten h.len, ← h4, List.take_take, Nat.min_eq_left (Nat.mul_le_mul_right _ hn)]
structure Grows (e e' : Ent) (w w' : World) : Prop where
  in' : EntIn w' e'
  from' : ∀ b o, e' = some (b, o) → w.heap.size ≤ b ∨ ∃ o', e = some (b, o')
  base : Base (e.map (·.1)).toList w w'
theorem flat_one {rows : List (List Value)} (h : ∀ r ∈ rows, ∀ u ∈ r, cell1 u = true) : ∀ u ∈ rows.flatten, u.oneCell' = true := fun u hu => by
  obtain ⟨r, hr, hu⟩ := List.mem_flatten.1 hu
  exact cell1_one (h r hr u hu)
theorem append_run {P : Program} {w : World} {t ty E : TypeId} {i : TypeInfo} {z : Value} {size bytes : Nat} (ht : P.underlying t = some (.slice E)) (hi : P.info? E = some i) (hz : i.zero = some z)
    (hsize : i.size = size) (hby : i.bytes = bytes) (hzs : z.cells.size = size) (hsz : 0 < size)
    {rows news : List (List Value)} {v x : Value} {e : Ent} {H : Heaplet} (h : OwnS E size rows v e) (he : EntIn w e) (hx : HSlice H size news x) (hA : Agrees w H)
    (hbytes : (rows.length + news.length) * bytes ≤ 140737488355328) (h63 : rows.length + news.length ≤ maxLen) :
    ∃ v' e' w', (Builtin.append_ #[t, t] ty #[v, x]).run P w = .ok v' w' ∧ OwnS E size (rows ++ news) v' e' ∧ Grows e e' w w' := by
  obtain ⟨xa, c, rfl, x1, x2, x3, x4⟩ := hx.val
  cases xa with
  | none =>
    obtain ⟨rfl, rfl⟩ := x3 rfl
    refine ⟨v, e, w, ?_, by simpa using h, he, fun b o hb => .inr ⟨o, hb⟩, Base.refl _ _⟩
    have hu : ∀ w, (underlying t).run P w = .ok (.slice E) w := fun w => by simp [underlying, ht]
    have hsz : ∀ w, (Go.sizeOf E).run P w = .ok size w := fun w => by simp [Go.sizeOf, typeInfo, hi, hsize]
    rcases h.val with ⟨rfl, rfl, rfl⟩ | ⟨g, cap, cur, rfl, rfl, h1, h2, h3, h4⟩
    · simp [Builtin.append_, hu, hsz, Builtin.lenOf, Builtin.firstCells]
    · simp [Builtin.append_, hu, hsz, Builtin.lenOf, Builtin.firstCells, h1, storeCells]
  | some a =>
    have h1 := flat_one hx.one
    have hl := hx.len
    have hnews := hx.cells hA a _ c rfl
    have hlen : ∀ r ∈ rows ++ news, r.length = size := fun r hr => by
      rcases List.mem_append.1 hr with h' | h'
      · exact h.len r h'
      · exact hl r h'
    have hone : ∀ r ∈ rows ++ news, ∀ u ∈ r, cell1 u = true := fun r hr => by
      rcases List.mem_append.1 hr with h' | h'
      · exact h.one r h'
      · exact hx.one r h'
    have hfl : (rows ++ news).flatten = rows.flatten ++ news.flatten := by simp
    have hln := flatten_len hl
    have back : ∀ {base : Nat} {v' : Value} {w' : World}, w'.ownsRow base E size v' (rows.length + news.length) (rows.flatten ++ news.flatten) → ∃ e', OwnS E size (rows ++ news) v' e' ∧ EntIn w' e' ∧ ∀ b o, e' = some (b, o) → base ≤ b ∧ v'.ownBlock = some b := by
      intro base v' w' ho
      rcases ho.2 with ⟨rfl, hn⟩ | ⟨g, cap, cur, rfl, hb, hg, a1, a2, a3, a4⟩
      · have : rows ++ news = [] := List.eq_nil_of_length_eq_zero (by simpa using hn)
        exact ⟨none, ⟨hlen, hone, .inl ⟨rfl, this, rfl⟩⟩, (fun b o h => by cases h), fun b o h => by cases h⟩
      · refine ⟨some (g, .cells cur E), ⟨hlen, hone, .inr ⟨g, cap, cur, by rw [List.length_append], rfl, by rw [List.length_append]; exact a1, a2, a3, by rw [List.length_append, hfl]; exact a4⟩⟩, fun b o h => by cases h; exact hg, fun b o h => by cases h; exact ⟨hb, rfl⟩⟩
    have hb0 : ∀ {row : Option Nat} {w' : World}, w.grownBy w' row → (∀ k, row = some k → k ∈ (e.map (·.1)).toList) → Base (e.map (·.1)).toList w w' := fun {row w'} hg hk =>
      ⟨hg.os, hg.tape, hg.output, hg.size, fun k h1 h2 => hg.block k h1 fun hr => h2 (hk k hr.symm)⟩
    rcases h.val with ⟨rfl, rfl, rfl⟩ | ⟨g, cap, cur, rfl, rfl, g1, g2, g3, g4⟩
    · obtain ⟨v', w', hr, ho, hg, _⟩ := run_append_own w w.heap.size t ty E i z size bytes ht hi hz hsize hby hzs hsz (.slice none 0 0) 0 [] (World.ownsRow_nil w _ E size) a news.length c news.flatten hln hnews h1 (by simpa using h63) (by simpa using hbytes) (Nat.le_refl _)
      obtain ⟨e', a1, a2, a3⟩ := back (base := w.heap.size) (v' := v') (w' := w') (by simpa using ho)
      exact ⟨v', e', w', hr, a1, a2, fun b o hb => .inl (a3 b o hb).1, hb0 hg fun k hk => by simp [Value.ownBlock] at hk⟩
    · have hown := h.owns he
      by_cases hroom : rows.length + news.length ≤ cap
      · obtain ⟨v', w', hr, ho, hg, _⟩ := run_append_own w 0 t ty E i z size bytes ht hi hz hsize hby hzs hsz _ _ _ hown a news.length c news.flatten hln hnews h1 h63 hbytes (Nat.zero_le _)
        obtain ⟨e', a1, a2, a3⟩ := back ho
        have hrow := run_append_room (P := P) w t ty E i ht hi g rows.length cap cur (he _ _ rfl) a news.length c news.flatten (by rw [hsize]; exact hln) hnews h1 hroom (by rw [hsize, hln, g3, ← Nat.add_mul]; exact Nat.mul_le_mul_right _ hroom)
        rw [hrow] at hr
        cases hr
        refine ⟨_, e', _, hrow, a1, a2, fun b o hb => .inr ?_, hb0 hg fun k hk => by simpa [Value.ownBlock] using hk.symm⟩
        have := (a3 b o hb).2
        simp [Value.ownBlock] at this
        subst this
        exact ⟨_, rfl⟩
      · have holds : ∀ j u, rows.flatten[j]? = some u → w.cell? ((⟨g, 0, none⟩ : Addr).add j) = some u := hown.cells (g := g) rfl
        have hgrow := run_append_grow (P := P) w t ty E i z ht hi hz ⟨g, 0, none⟩ rows.length cap rows.flatten (by rw [hsize]; exact flatten_len h.len) holds a news.length c news.flatten (by rw [hsize]; exact hln) hnews (by omega)
          (by have := h63; simp only [maxLen] at this; omega) (growslice_fits (by omega) (by rw [hby]; exact hbytes))
        obtain ⟨v', w', hr, ho, hg, _⟩ := run_append_own w 0 t ty E i z size bytes ht hi hz hsize hby hzs hsz _ _ _ hown a news.length c news.flatten hln hnews h1 h63 hbytes (Nat.zero_le _)
        obtain ⟨e', a1, a2, a3⟩ := back ho
        rw [hgrow] at hr
        cases hr
        refine ⟨_, e', _, hgrow, a1, a2, fun b o hb => .inl ?_, hb0 hg fun k hk => by simpa [Value.ownBlock] using hk.symm⟩
        have := (a3 b o hb).2
        simp [Value.ownBlock] at this
        omega

/-! ### making, storing -/
theorem made_flatten {row : List Value} : ∀ n : Nat, (madeCells row.toArray (n * row.length)).toList = (List.replicate n row).flatten := by
  intro n
  have hlen : (List.replicate n row).flatten.length = n * row.length := by
    rw [flatten_len (size := row.length) (fun r hr => by rw [List.eq_of_mem_replicate hr]), List.length_replicate]
  refine List.ext_getElem? fun j => ?_
  by_cases hj : j < n * row.length
  · have hp : 0 < row.length := by
      rcases Nat.eq_zero_or_pos row.length with h | h
      · rw [h] at hj; simp at hj
      · exact h
    have hm : j % row.length < row.length := Nat.mod_lt _ hp
    have hd : j / row.length < n := by rw [Nat.div_lt_iff_lt_mul hp]; exact hj
    have h1 := flatten_get (size := row.length) (rows := List.replicate n row) (fun r hr => by rw [List.eq_of_mem_replicate hr]) (j / row.length) (j % row.length) row row[j % row.length] (by simp [hd]) (by simp [hm])
    rw [Nat.div_add_mod'] at h1
    rw [h1]
    simp [madeCells, hj, hm]
  · have h0 : n * row.length ≤ j := Nat.le_of_not_lt hj
    rw [List.getElem?_eq_none (by simp [madeCells]; exact h0), List.getElem?_eq_none (by rw [hlen]; exact h0)]
theorem made_own {E g n : Nat} {row : List Value} (h1 : ∀ u ∈ row, cell1 u = true) (h63 : n ≤ maxLen) : OwnS E row.length (List.replicate n row) (.slice (some ⟨g, 0, none⟩) n n) (some (g, .cells (madeCells row.toArray (n * row.length)) E)) := by
  refine ⟨fun r hr => by rw [List.eq_of_mem_replicate hr], (fun r hr => by rw [List.eq_of_mem_replicate hr]; exact h1), .inr ⟨g, n, _, by simp, rfl, by simp, h63, by rw [size_madeCells], ?_⟩⟩
  rw [List.length_replicate, made_flatten, List.take_of_length_le]
  rw [flatten_len (size := row.length) (fun r hr => by rw [List.eq_of_mem_replicate hr]), List.length_replicate]
  exact Nat.le_refl _
/-- cells written from a place on -/
def writeA (arr : Array Value) (off : Nat) : List Value → Array Value
  | [] => arr
  | v :: vs => writeA (arr.setIfInBounds off v) (off + 1) vs
theorem writeA_size : ∀ (vs : List Value) (arr : Array Value) (off : Nat), (writeA arr off vs).size = arr.size
  | [], _, _ => rfl
  | v :: vs, arr, off => by rw [writeA, writeA_size vs]; simp
def setBlk (w : World) (b : Nat) (o : Obj) : World := { w with heap := w.heap.setIfInBounds b o }
theorem store_run {P : Program} {w : World} {b off : Nat} {arr : Array Value} {T : TypeId} {v : Value} (hb : w.heap[b]? = some (.cells arr T)) (ho : off < arr.size) (hv : cell1 v = true) :
    (store ⟨b, off, none⟩ v).run P w = .ok () (setBlk w b (.cells (arr.setIfInBounds off v) T)) := by
  have hc : w.cell? ⟨b, off, none⟩ = some arr[off] := by simp [World.cell?, hb, ho]
  have hf : w.frozen? ⟨b, off, none⟩ = false := by simp [World.frozen?, hb]
  have hlt := RC.heap_lt hb
  have hs : w.setCell ⟨b, off, none⟩ v = setBlk w b (.cells (arr.setIfInBounds off v) T) := by
    unfold World.setCell setBlk
    congr 1
    apply Array.ext_getElem?
    intro k
    simp only [Array.getElem?_modify, Array.getElem?_setIfInBounds]
    have hg : w.heap[b] = .cells arr T := (Array.getElem?_eq_some_iff.1 hb).2
    by_cases e : b = k
    · subst e; simp [hlt, hg]
    · simp [e]
  rw [← hs]
  cases v <;> simp [cell1] at hv <;> simp [store, Sem.run, hc, hf]
theorem storeCells_run {P : Program} {b : Nat} {T : TypeId} : ∀ (vs : List Value) (i off : Nat) (arr : Array Value) (w : World), w.heap[b]? = some (.cells arr T) → off + i + vs.length ≤ arr.size → (∀ v ∈ vs, cell1 v = true) →
    (storeCells ⟨b, off, none⟩ vs i).run P w = .ok () (setBlk w b (.cells (writeA arr (off + i) vs) T))
  | [], i, off, arr, w, hb, _, _ => by
    have hlt := RC.heap_lt hb
    have : setBlk w b (.cells arr T) = w := by
      unfold setBlk
      have : w.heap.setIfInBounds b (.cells arr T) = w.heap := by
        apply Array.ext_getElem?
        intro k
        rw [Array.getElem?_setIfInBounds]
        have hg : w.heap[b] = .cells arr T := (Array.getElem?_eq_some_iff.1 hb).2
        by_cases e : b = k
        · subst e; simp [hlt, hg]
        · simp [e]
      rw [this]
    show (Pure.pure () : Sem Unit).run P w = _
    rw [writeA, this]; rfl
  | v :: vs, i, off, arr, w, hb, hl, h1 => by
    have hlt := RC.heap_lt hb
    simp only [List.length_cons] at hl
    show ((do store (Addr.add ⟨b, off, none⟩ i) v; storeCells ⟨b, off, none⟩ vs (i + 1)) : Sem Unit).run P w = _
    rw [Sem.run_bind, add_eq rfl, store_run hb (by show off + i < arr.size; omega) (h1 v (by simp))]
    simp only [Result.andThen_ok]
    have hb' : (setBlk w b (.cells (arr.setIfInBounds (off + i) v) T)).heap[b]? = some (.cells (arr.setIfInBounds (off + i) v) T) := by
      simp [setBlk, hlt]
    rw [storeCells_run vs (i + 1) off _ _ hb' (by simp; omega) (fun u hu => h1 u (by simp [hu]))]
    have : ∀ o1 o2, setBlk (setBlk w b o1) b o2 = setBlk w b o2 := fun o1 o2 => by
      unfold setBlk
      simp
    rw [this, writeA, ← Nat.add_assoc]
def writeL (row : List Value) (off : Nat) (vs : List Value) : List Value := row.take off ++ vs ++ row.drop (off + vs.length)
theorem writeL_length {row vs : List Value} {off : Nat} (h : off + vs.length ≤ row.length) : (writeL row off vs).length = row.length := by
  simp [writeL]; omega
theorem writeA_toList : ∀ (vs : List Value) (arr : Array Value) (off : Nat), off + vs.length ≤ arr.size → (writeA arr off vs).toList = writeL arr.toList off vs
  | [], arr, off, h => by simp [writeA, writeL]
  | v :: vs, arr, off, h => by
    simp only [List.length_cons] at h
    rw [writeA, writeA_toList vs _ (off + 1) (by simp; omega)]
    simp only [writeL, Array.toList_setIfInBounds, List.length_cons]
    have h1 : (arr.toList.set off v).take (off + 1) = arr.toList.take off ++ [v] := by
      have hl : off < arr.toList.length := by simp; omega
      rw [List.set_eq_take_append_cons_drop, if_pos hl, List.take_append]
      have hm : (arr.toList.take off).length = off := by simp; omega
      rw [hm, List.take_of_length_le (by rw [hm]; omega), show off + 1 - off = 1 by omega]
      simp
    have h2 : (arr.toList.set off v).drop (off + 1 + vs.length) = arr.toList.drop (off + (vs.length + 1)) := by
      rw [List.drop_set]
      rw [if_pos (by omega)]
      congr 1; omega
    rw [h1, h2]
    simp
theorem writeL_mid {A B row vs : List Value} {off : Nat} (h : off + vs.length ≤ row.length) : writeL (A ++ row ++ B) (A.length + off) vs = A ++ writeL row off vs ++ B := by
  simp only [writeL, List.append_assoc]
  rw [List.take_append, List.drop_append]
  rw [List.take_of_length_le (by omega), List.drop_of_length_le (by omega), Nat.add_sub_cancel_left, List.take_append, show off - row.length = 0 by omega, List.take_zero, List.append_nil]
  rw [show A.length + off + vs.length - A.length = off + vs.length by omega, List.drop_append, show off + vs.length - row.length = 0 by omega, List.drop_zero]
  simp
theorem flatten_set {size : Nat} {rows : List (List Value)} (h : ∀ r ∈ rows, r.length = size) {k : Nat} {row row' : List Value} (hk : rows[k]? = some row) :
    ∃ A B, A.length = k * size ∧ rows.flatten = A ++ row ++ B ∧ (rows.set k row').flatten = A ++ row' ++ B := by
  have hlt : k < rows.length := (List.getElem?_eq_some_iff.1 hk).1
  refine ⟨(rows.take k).flatten, (rows.drop (k + 1)).flatten, ?_, ?_, ?_⟩
  · rw [flatten_len (size := size) (fun r hr => h r (List.mem_of_mem_take hr)), List.length_take, Nat.min_eq_left (by omega)]
  · conv => lhs; rw [← List.take_append_drop k rows]
    rw [List.drop_eq_getElem_cons hlt, (List.getElem?_eq_some_iff.1 hk).2]
    simp
  · rw [List.set_eq_take_append_cons_drop, if_pos hlt]
    simp
theorem writeL_mem {row vs : List Value} {off : Nat} {u : Value} (h : u ∈ writeL row off vs) : u ∈ row ∨ u ∈ vs := by
  simp only [writeL, List.mem_append] at h
  rcases h with (h | h) | h
  · exact .inl (List.mem_of_mem_take h)
  · exact .inr h
  · exact .inl (List.mem_of_mem_drop h)
theorem own_store {P : Program} {w : World} {E : TypeId} {size : Nat} {rows : List (List Value)} {v : Value} {e : Ent} (h : OwnS E size rows v e) (he : EntIn w e) {k off : Nat} {row vs : List Value} (hk : rows[k]? = some row)
    (hoff : off + vs.length ≤ size) (h1 : ∀ u ∈ vs, cell1 u = true) :
    ∃ e' w', (storeCells ((elemAddr v (k * size)).add off) vs 0).run P w = .ok () w' ∧ OwnS E size (rows.set k (writeL row off vs)) v e' ∧ Grows e e' w w' := by
  have hrl : row.length = size := h.len _ (List.mem_of_getElem? hk)
  have hlt : k < rows.length := (List.getElem?_eq_some_iff.1 hk).1
  obtain ⟨A, B, hA, hf, hf'⟩ := flatten_set h.len (row' := writeL row off vs) hk
  rcases h.val with ⟨rfl, rfl, rfl⟩ | ⟨g, cap, cur, rfl, rfl, g1, g2, g3, g4⟩
  · simp at hk
  · have hb := he _ _ rfl
    have hflen := flatten_len h.len
    have hBl : (A ++ row ++ B).length = rows.length * size := by rw [← hf]; exact hflen
    have hks : k * size + size ≤ rows.length * size := by rw [← Nat.succ_mul]; exact Nat.mul_le_mul_right _ hlt
    have hcs : rows.length * size ≤ cur.size := by rw [g3]; exact Nat.mul_le_mul_right _ g1
    have hst := storeCells_run (P := P) vs 0 (k * size + off) cur w hb (by omega) h1
    have ha : (elemAddr (.slice (some ⟨g, 0, none⟩) rows.length cap) (k * size)).add off = ⟨g, k * size + off, none⟩ := by
      show ((⟨g, 0, none⟩ : Addr).add (k * size)).add off = _
      rw [add_eq (a := ⟨g, 0, none⟩) rfl (k * size), add_eq rfl]; simp
    rw [ha]
    have hglt := RC.heap_lt hb
    refine ⟨_, _, hst, ⟨fun r hr => ?_, fun r hr => ?_, .inr ⟨g, cap, writeA cur (k * size + off) vs, by rw [List.length_set], rfl, by rw [List.length_set]; exact g1, g2, by rw [writeA_size]; exact g3, ?_⟩⟩,
      fun b o hbo => by cases hbo; simp [setBlk, hglt], fun b o hbo => by cases hbo; exact .inr ⟨_, rfl⟩, ⟨rfl, rfl, rfl, by simp [setBlk], fun j hj hn => ?_⟩⟩
    · rcases List.mem_or_eq_of_mem_set hr with h' | h'
      · exact h.len r h'
      · subst h'; rw [writeL_length (by omega)]; exact hrl
    · rcases List.mem_or_eq_of_mem_set hr with h' | h'
      · exact h.one r h'
      · subst h'
        intro u hu
        rcases writeL_mem hu with hu | hu
        · exact h.one row (List.mem_of_getElem? hk) u hu
        · exact h1 u hu
    · rw [List.length_set, writeA_toList _ _ _ (by omega), hf']
      have hsplit : cur.toList = A ++ row ++ (B ++ cur.toList.drop (rows.length * size)) := by
        conv => lhs; rw [← List.take_append_drop (rows.length * size) cur.toList, g4, hf]
        simp
      rw [hsplit, ← hA, writeL_mid (by omega), ← List.append_assoc]
      refine List.take_left' ?_
      simp only [List.length_append] at hBl ⊢
      rw [writeL_length (by omega)]
      exact hBl
    · have : g ≠ j := fun e => hn (by subst e; simp)
      simp [setBlk, Array.getElem?_setIfInBounds_ne this]
/-! ### lists -/
theorem get_map {α : Type} [Inhabited α] {f : α → List Value} {l : List α} {k : Nat} (h : k < l.length) : (l.map f)[k]? = some (f (l.getD k default)) := by
  simp [h]
theorem get_map' {α : Type} [Inhabited α] {f : α → List Value} {l : List α} {k : Nat} {x : α} (h : k < l.length) (e : x = l.getD k default) : (l.map f)[k]? = some (f x) := by
  subst e; exact get_map h
theorem getD_mem {α : Type} [Inhabited α] {l : List α} {k : Nat} {x : α} (h : k < l.length) (e : x = l.getD k default) : x ∈ l := by
  subst e; simp [h]
end Kb
