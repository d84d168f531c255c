/- Texts for the claim, put together: the calculus of regions, its rules, and contracts of the functions that the law reaches. -/
import Derived.Test.YtpnbgdgjgndicaaZuwf
import Derived.Test.YtpnbgdgjgndicaaZu123a
import Derived.Test.YtpnbgdgjgndicaaZu23a
import Derived.Laws.Strings
import Derived.Laws.Slices
import Derived.Lib.Join
import Derived.ChangeSame
import Derived.ChangeArms
import Derived.WideKeyArgs
import Derived.Carry
import Derived.OpenShut
set_option linter.unusedVariables false
set_option linter.unusedSectionVars false
set_option linter.unusedSimpArgs false
namespace Kb
open Go
section
variable {α : Type} [Dat α] {l : List α} {s : Gh → SV}
def kx {β : Type} [Dat β] (t : Bool) (src : Src) (x : β) (l : List α) (s : Gh → SV) (pr : ∀ G H, Dat.good H x → RSl H l (s G).v) : Kw α l s := ⟨src, t, true, fun _ _ H => Dat.good H x, fun G _ H _ h k _ => (pr G H h).mono k, fun G _ H h => (pr G H h).good, fun _ G _ H h => pr G H h⟩
variable {P : Program}
end

open Go
namespace Hint
variable {P : Program}
def seG {α : Type} [Dat α] {g : Prop} (Γ : GdI g) (n r : Nat) (E : TypeId) (t : Bool) (l : List α) (s : Gh → SV) (k : Int) (off : Option Nat) (x : α) (x' : Gh → α) (hx : x = l.getD k.toNat default) (t2 : Bool) (h : g → 0 ≤ k ∧ k < l.length)
    (ht : t2 = true → t = true) (qs : List Kv) (hq : ∀ G H, (∀ x ∈ l, Dat.good H x) → allR qs G H → Dat.good H (x' G)) : Hint P where
  d := { val := fun _ => undef, news := [(r, fun G => os t2 E (l.set k.toNat (x' G)) (s G), fun G => (G n).e)] }
  τ := Option (TypeId × Value × Value) × Option Nat × Bool × Option LE × Nat × Bool × List Value × Bool × List (Option (Bool × (Ent → Heaplet → Prop)) × Bool) × SV × Option Bool × α
  lhs c i G g _ := (c.R.str G i, sizeT P (c.R.stt i), decide (off.getD 0 + (c.R.stv G i).cells.toList.length ≤ Dat.size α), c.leAt i r G, i, (c.R.stv G i).cells.toList.all cell1, Dat.cells (x' G), tOk t2 qs, qs.map (Kv.chk c i G), s (c.R.vis i (RC.put G i g)), Γ.B.map fun _ => c.R.gd G i, x' (c.R.vis i (RC.put G i g)))
  rhs c i G _ _ := (some (c.R.stt i, .pointer (some (offA (elemAddr (s G).v (k.toNat * Dat.size α)) off)), c.R.stv G i), some (c.R.stv G i).cells.toList.length, true, some (os t E l (s G)), n, true, writeL (Dat.cells x) (off.getD 0) (c.R.stv G i).cells.toList, true, qs.map (Kv.want G), s G, Γ.B, x' G)
  sound c i ok hil hi h0 := fun o ho G w hs => by
    have h1 := fun g => h0 G g w
    simp only [Prod.mk.injEq] at h1
    obtain ⟨e1, e2, e3, e4, rfl, e6, e7, e8, e9, _, e11, _⟩ := h1 {}
    obtain ⟨b0, b1⟩ := h (Cx.gdOk Γ hs e11)
    have hw : c.R.wrE r i = true := by unfold RC.wrE; rw [Cx.upsOf hi]; simp
    obtain ⟨en, a1, a2, a3⟩ := Cx.own_at ok hil hs e4 (by rw [hw]; simp)
    have own : OwnS E (Dat.size α) (rows l) (s G).v en ∧ ∀ x ∈ l, Dat.good (c.J i G t) x := by
      unfold os ow LE.at at a2
      cases t
      · exact ⟨a2.sl, a2.good⟩
      · exact ⟨a2.sl, a2.good⟩
    obtain ⟨en', w', hr, ho', hg⟩ := storeOwn_does (w := w) (k := k.toNat) (row := Dat.cells x) ho e1 (offA_eq _ _) e2 rfl own.1 a3 (get_map' (by omega) hx) (of_decide_eq_true e3) e6
    unfold Does
    rw [hr]
    have hv := Cx.vis_self (c := c) (i := i) (G := G) { e := en' }
    have hsv := (h1 { e := en' }).2.2.2.2.2.2.2.2.2.1
    have hxv := (h1 { e := en' }).2.2.2.2.2.2.2.2.2.2.2
    refine ⟨{ e := en' }, left_turn ok hil hi hs rfl rfl a1 hg ?_ ?_ rfl rfl (by rw [Cx.valOf hi])⟩
    · show (c.R.vis i (RC.put G i { e := en' }) i).e = _
      rw [hv]
    · show bif t2 then OSl E _ (l.set k.toNat (x' (c.R.vis i (RC.put G i { e := en' })))) _ _ else OSl E _ (l.set k.toNat (x' (c.R.vis i (RC.put G i { e := en' })))) _ _
      rw [hv, hsv, hxv]
      have ho2 : OwnS E (Dat.size α) (rows (l.set k.toNat (x' G))) (s G).v en' := by
        have : rows (l.set k.toNat (x' G)) = (rows l).set k.toNat (writeL (Dat.cells x) (off.getD 0) (c.R.stv G i).cells.toList) := by rw [← e7]; simp [rows, List.map_set]
        rw [this]; exact ho'
      have hgl : ∀ x ∈ l, Dat.good (c.J i G t2) x := fun y hy => by
        cases t2 with
        | true => rw [← ht rfl]; exact own.2 y hy
        | false => exact Dat.mono _ _ _ (Cx.J_le_false hs _) (own.2 y hy)
      have fin : ∀ x ∈ l.set k.toNat (x' G), Dat.good (c.J i G t2) x := fun y hy => by
        rcases List.mem_or_eq_of_mem_set hy with hy | hy
        · exact hgl y hy
        · rw [hy]; exact hq G _ hgl (allR_of ok hil hs e9 e8)
      cases t2
      · exact ⟨ho2, fin⟩
      · exact ⟨ho2, fin⟩
end Hint

open Go
theorem bl_mk (l : List UInt8) : bl ⟨l.toArray⟩ = l := by simp [bl]

open Go
namespace Dm
def cuB (s : ByteArray) : Int := ((cut s).getD (0, 0, ByteArray.empty)).1
theorem aft_ok {i : Int} {t : ByteArray} : (aft i t).1 = i ∧ (1 ≤ (aft i t).2.1 ∧ (aft i t).2.1 ≤ 9) ∧ (aft i t).2.2.size ≤ t.size := by
  unfold aft
  split
  · rename_i h; refine ⟨rfl, ?_, ?_⟩
    · show 1 ≤ (((bl t).getD 0 default).toNat : Int) - 48 ∧ (((bl t).getD 0 default).toNat : Int) - 48 ≤ 9; omega
    · show (t.extract 1 t.size).size ≤ _; rw [ByteArray.size_extract]; omega
  · exact ⟨rfl, ⟨by show (1 : Int) ≤ 1; omega, by show (1 : Int) ≤ 9; omega⟩, Nat.le_refl _⟩
theorem cutN_ok {s : ByteArray} : ∀ (l : List ByteArray) (i : Nat) (x : Int × Int × ByteArray), cutN s i l = some x → ((i : Int) ≤ x.1 ∧ x.1 < i + l.length) ∧ (1 ≤ x.2.1 ∧ x.2.1 ≤ 9) ∧ x.2.2.size ≤ s.size
  | [], _, _, h => by cases h
  | p :: l, i, x, h => by
    unfold cutN at h
    split at h
    · obtain rfl := Option.some.inj h
      obtain ⟨h1, h2, h3⟩ := aft_ok (i := (i : Int)) (t := cpR s p)
      have := cpR_size (s := s) (p := p)
      rw [h1]
      exact ⟨by simp; omega, h2, by omega⟩
    · obtain ⟨h1, h2, h3⟩ := cutN_ok l (i + 1) x h
      exact ⟨by simp only [List.length_cons]; omega, h2, h3⟩
theorem cut_ok {s : ByteArray} (h : (cut s).isSome = true) : (0 ≤ cuB s ∧ cuB s < 6) ∧ (1 ≤ cuE s ∧ cuE s ≤ 9) ∧ (cuR s).size ≤ s.size := by
  obtain ⟨x, hx⟩ := Option.isSome_iff_exists.1 h
  obtain ⟨h1, h2, h3⟩ := cutN_ok sy 0 x hx
  unfold cuB cuE cuR
  rw [hx]
  simp only [sy, List.length_cons, List.length_nil] at h1
  exact ⟨by simp; omega, by simpa using h2, by simpa using h3⟩
theorem parseN_fuel : ∀ (n m : Nat) (r : ByteArray) (d : List Int), r.size ≤ n → r.size ≤ m → parseN n r d = parseN m r d
  | 0, 0, _, _, _, _ => rfl
  | 0, m + 1, r, d, h, _ => by
    have h0 : r.size = 0 := by omega
    unfold parseN; rw [if_pos h0, if_pos h0]
  | n + 1, 0, r, d, _, h => by
    have h0 : r.size = 0 := by omega
    unfold parseN; rw [if_pos h0, if_pos h0]
  | n + 1, m + 1, r, d, h1, h2 => by
    unfold parseN
    by_cases h0 : r.size = 0
    · rw [if_pos h0, if_pos h0]
    · rw [if_neg h0, if_neg h0]
      by_cases hc : ¬ (((bl r).getD 0 default).toNat = 42 ∨ ((bl r).getD 0 default).toNat = 47)
      · rw [if_pos hc, if_pos hc]
      · rw [if_neg hc, if_neg hc]
        cases hx : cut (r.extract 1 r.size) with
        | none => rfl
        | some x =>
          obtain ⟨b, e, r'⟩ := x
          have := (cutN_ok sy 0 _ hx).2.2
          simp only at this
          rw [ByteArray.size_extract] at this
          exact parseN_fuel n m r' _ (by omega) (by omega)
theorem parse_end {r : ByteArray} {d : List Int} (h : r = ByteArray.empty) : parse r d = some d := by subst h; rfl
theorem parse_step {r t : ByteArray} {d : List Int} {c : UInt8} {sg : Int} (h : ¬ r = ByteArray.empty) (hc : c = (bl r).getD (0 : Int).toNat default) (ht : t = r.extract (1 : Int).toNat (r.size : Int).toNat) (hx : (cut t).isSome = true) (hs : ((c.toNat : Int) = 42 ∧ sg = 1) ∨ (¬ (c.toNat : Int) = 42 ∧ (c.toNat : Int) = 47 ∧ sg = -1)) :
    parse r d = parse (cuR t) (d.set (cuB t).toNat (sg * cuE t)) := by
  have h0 := size_ne h
  have ht' : t = r.extract 1 r.size := by rw [ht]; rfl
  obtain ⟨⟨b, e, r'⟩, hx'⟩ := Option.isSome_iff_exists.1 hx
  have hsz := (cut_ok hx).2.2
  rw [ht', ByteArray.size_extract, ← ht'] at hsz
  unfold parse
  obtain ⟨n, hn⟩ : ∃ n, r.size = n + 1 := ⟨r.size - 1, by omega⟩
  have hc' : c = (bl r).getD 0 default := hc
  rw [hn, parseN, if_neg h0, if_neg, ← ht', hx']
  · show parseN n r' (d.set b.toNat _) = _
    have e1 : cuR t = r' := by unfold cuR; rw [hx']; rfl
    have e2 : cuB t = b := by unfold cuB; rw [hx']; rfl
    have e3 : cuE t = e := by unfold cuE; rw [hx']; rfl
    rw [e1] at hsz
    rw [e1, e2, e3, ← hc']
    rw [parseN_fuel n r'.size _ _ (by omega) (Nat.le_refl _)]
    congr 2
    rcases hs with ⟨a, b⟩ | ⟨a, _, b⟩
    · rw [if_pos (by exact_mod_cast a), b, Int.one_mul]
    · rw [if_neg (by exact_mod_cast a), b]; omega
  · intro hh; apply hh
    rw [← hc']
    rcases hs with ⟨a, _⟩ | ⟨_, a, _⟩
    · exact .inl (by exact_mod_cast a)
    · exact .inr (by exact_mod_cast a)
theorem cutN_at {s : ByteArray} : ∀ (l : List ByteArray) (i n : Nat), n < l.length → (∀ j, j < n → ¬ cpB s (l.getD j default)) → cpB s (l.getD n default) → cutN s i l = some (aft ((i + n : Nat) : Int) (cpR s (l.getD n default)))
  | p :: l, i, 0, _, _, h => by unfold cutN; rw [if_pos (by simpa using h)]; rfl
  | p :: l, i, n + 1, hn, hj, h => by
    unfold cutN
    have h0 := hj 0 (by omega)
    rw [if_neg (by simpa using h0)]
    have := cutN_at l (i + 1) n (by simpa using hn) (fun j hj' => by have := hj (j + 1) (by omega); simpa using this) (by simpa using h)
    rw [this]
    simp only [List.getD_cons_succ]
    rw [show i + 1 + n = i + (n + 1) by omega]
theorem cut_at {s : ByteArray} (n : Nat) (hn : n < 6) (h : ∀ j, j < n → ¬ cpB s (sy.getD j default)) (hc : cpB s (sy.getD n default)) : cut s = some (aft (n : Int) (cpR s (sy.getD n default))) := by
  have := cutN_at sy 0 n hn h hc
  rw [Nat.zero_add] at this
  exact this
end Dm

namespace Bg
def orL : List Int → Int
  | [] => 0
  | x :: l => if x = 0 then orL l else x
theorem or2 (s t : Int) : orL [s, t] = if s = 0 then t else s := by
  unfold orL
  split
  · unfold orL
    split
    · rename_i h; exact h.symm
    · rfl
  · rfl
section
variable {s t : Int} {l m : List Int}
theorem addS (h : RtB s l) (k : RtB t m) (hs : 0 ≤ s * t) : (if nv (dig (nv l + nv m)) = 0 then 0 else orL [s, t]) = sgn (zv s l + zv t m) := by
  rw [nv_dig, or2]; exact (add_same h k hs).2
end
end Bg

open Go
namespace Hint
variable {P : Program}
def nlG {α : Type} [Dat α] (n r : Nat) (t : Bool) (E : TypeId) (l : Gh → List α) (k : Nat) (hk : ∀ G, (l G).length = k) (qs : List Kv) (hq : ∀ G H, allR qs G H → ∀ x ∈ l G, Dat.good H x) (arr : Gh → Array Value) : Hint P where
  d := { val := fun G => .slice (atB (G n).b) k k, news := [(r, fun G => os t E (l G) ⟨atB (G n).b, k, k⟩, fun G => some ((G n).b, .cells (arr G) E))] }
  τ := Option (Result Next) × Nat × Array Value × List Value × Bool × Bool × List (Option (Bool × (Ent → Heaplet → Prop)) × Bool) × List α
  lhs c i G g w := (c.R.ex P G i w, i, arr (c.R.vis i (RC.put G i g)), (arr G).toList, decide (k ≤ maxLen), tOk t qs, qs.map (Kv.chk c i G), l (c.R.vis i (RC.put G i g)))
  rhs _ _ G _ w := (some (.ok (.value (.slice (atB w.heap.size) k k)) { w with heap := w.heap.push (.cells (arr G) E) }), n, arr G, (rows (l G)).flatten, true, true, qs.map (Kv.want G), l G)
  sound c i ok hil hi h := fun o ho G w hs => by
    have h0 := h G { b := w.heap.size } w
    simp only [Prod.mk.injEq, RC.ex, ho, Option.map_some, Option.some.injEq] at h0
    obtain ⟨e1, rfl, e3, e4, e5, e6, e7, e8⟩ := h0
    unfold Does
    rw [e1]
    have hv := Cx.vis_self (c := c) (i := i) (G := G) { b := w.heap.size }
    refine ⟨{ b := w.heap.size }, left_turn ok hil hi hs (e1 := some (w.heap.size, .cells (arr G) E)) rfl rfl rfl grows_push ?_ ?_ rfl rfl ?_⟩
    · show some _ = _
      rw [hv, e3]
    · show bif t then OSl E _ (l _) _ _ else OSl E _ (l _) _ _
      rw [hv, e3, e8]
      have key : ∀ H, (∀ x ∈ l G, Dat.good H x) → OSl E H (l G) (.slice (atB w.heap.size) k k) (some (w.heap.size, .cells (arr G) E)) := fun H hg => OSl.lit hg (by rw [e4, hk, e5])
      have hR := hq G _ (allR_of ok hil hs e7 e6)
      cases t
      · exact key _ hR
      · exact key _ hR
    · rw [Cx.valOf hi]
      show Value.slice _ _ _ = _
      rw [hv]
end Hint

open Go
namespace Dm
def Tl (r : ByteArray) : Prop := bl r = [] ∨ ∃ x l, bl r = x :: l ∧ x.toNat < 50
theorem fst_ne : ∀ n, n < 6 → ∀ m, m < n → ([103, 109, 115, 74, 99, 112] : List UInt8).getD n 0 ≠ ([103, 109, 115, 74, 99, 112] : List UInt8).getD m 0 := by decide
theorem dig_ok : ∀ e : Fin 10, 2 ≤ e.1 → 50 ≤ (UInt8.ofNat (48 + e.1)).toNat ∧ (UInt8.ofNat (48 + e.1)).toNat ≤ 57 ∧ (UInt8.ofNat (48 + e.1)).toNat = 48 + e.1 := by decide
theorem aft_item {i e : Int} {t r : ByteArray} (he : 1 ≤ e ∧ e ≤ 9) (hr : Tl r) (ht : bl t = (if e = 1 then [] else [UInt8.ofNat (48 + e).toNat]) ++ bl r) : aft i t = (i, e, r) := by
  by_cases h1 : e = 1
  · rw [if_pos h1, List.nil_append] at ht
    obtain rfl := bl_inj ht
    unfold aft
    rw [if_neg, h1]
    rintro ⟨h2, h3, _⟩
    rcases hr with hr | ⟨x, l, hr, hx⟩
    · have := congrArg List.length hr; rw [bl_len] at this; exact h2 this
    · rw [hr] at h3; have : (x :: l).getD 0 default = x := rfl
      rw [this] at h3; omega
  · rw [if_neg h1] at ht
    obtain ⟨n, rfl⟩ := Int.eq_ofNat_of_zero_le (show 0 ≤ e by omega)
    have hd := dig_ok ⟨n, by omega⟩ (by show 2 ≤ n; omega)
    simp only at hd
    have e1 : (48 + (n : Int)).toNat = 48 + n := by omega
    rw [e1] at ht
    unfold aft
    have e2 : (bl t).getD 0 default = UInt8.ofNat (48 + n) := by rw [ht]; rfl
    have e3 : t.size ≠ 0 := by rw [← bl_len, ht]; simp
    rw [e2, if_pos ⟨e3, hd.1, hd.2.1⟩, hd.2.2, show ((48 + n : Nat) : Int) - 48 = (n : Int) by omega]
    congr 2
    · apply bl_inj
      rw [bl_extract, ← bl_len t, List.take_length, ht]; rfl
theorem cut_item {n : Nat} {e : Int} {s r : ByteArray} (hn : n < 6) (he : 1 ≤ e ∧ e ≤ 9) (hr : Tl r) (hs : bl s = bl (item (sy.getD n default) e) ++ bl r) : cut s = some ((n : Int), e, r) := by
  rw [bl_item, List.append_assoc] at hs
  obtain ⟨m, hm⟩ := sy_fst n hn
  obtain ⟨h1, h2⟩ := cpR_of (s := s) (p := sy.getD n default) (r := ⟨((if e = 1 then [] else [UInt8.ofNat (48 + e).toNat]) ++ bl r).toArray⟩) (by rw [bl_mk]; exact hs)
  rw [cut_at n hn (fun j hj => ?_) h1, h2, aft_item he hr (by rw [bl_mk])]
  obtain ⟨m', hm'⟩ := sy_fst j (by omega)
  rw [hm, List.cons_append] at hs
  exact cpB_not hs hm' (fst_ne n hn j hj)
theorem tl_tks {l : List (Nat × Int)} {r : ByteArray} (h : bl r = tks l) : Tl r := by
  cases l with
  | nil => exact .inl h
  | cons x l =>
    rw [tks_cons] at h
    unfold tk at h
    refine .inr ⟨_, _, h, ?_⟩
    split <;> decide
theorem parse_tks : ∀ (l : List (Nat × Int)) (r : ByteArray) (d : List Int), (∀ x ∈ l, x.1 < 6 ∧ x.2 ≠ 0 ∧ -9 ≤ x.2 ∧ x.2 ≤ 9) → bl r = tks l → parse r d = some (l.foldl (fun d x => d.set x.1 x.2) d)
  | [], r, d, _, h => parse_end (bl_inj h)
  | (n, e) :: l, r, d, hl, h => by
    obtain ⟨h1, h2, h3, h4⟩ := hl _ List.mem_cons_self
    rw [tks_cons] at h
    unfold tk at h
    simp only at h h1 h2 h3 h4
    have hne : ¬ r = ByteArray.empty := fun e0 => by rw [e0] at h; cases h
    have hb : 1 ≤ (if 0 < e then e else -e) ∧ (if 0 < e then e else -e) ≤ 9 := by split <;> omega
    have ht : bl (r.extract (1 : Int).toNat (r.size : Int).toNat) = bl (item (sy.getD n default) (if 0 < e then e else -e)) ++ bl (⟨(tks l).toArray⟩ : ByteArray) := by
      rw [bl_extract]
      have : (r.size : Int).toNat = (bl r).length := by simp
      rw [this, List.take_length, h, bl_mk]; rfl
    have hc := cut_item h1 hb (tl_tks (l := l) (by rw [bl_mk])) ht
    have e0 : (bl r).getD (0 : Int).toNat default = if 0 < e then 42 else 47 := by rw [h]; rfl
    rw [parse_step hne rfl rfl (by rw [hc]; rfl) (sg := if 0 < e then 1 else -1) ?_]
    · have e1 : cuR (r.extract (1 : Int).toNat (r.size : Int).toNat) = ⟨(tks l).toArray⟩ := by unfold cuR; rw [hc]; rfl
      have e2 : cuB (r.extract (1 : Int).toNat (r.size : Int).toNat) = n := by unfold cuB; rw [hc]; rfl
      have e3 : cuE (r.extract (1 : Int).toNat (r.size : Int).toNat) = (if 0 < e then e else -e) := by unfold cuE; rw [hc]; rfl
      have e4 : (if 0 < e then (1 : Int) else -1) * (if 0 < e then e else -e) = e := by split <;> omega
      rw [e1, e2, e3, e4, parse_tks l _ _ (fun x hx => hl x (List.mem_cons_of_mem _ hx)) (by rw [bl_mk])]
      rfl
    · rw [e0]
      split
      · exact .inl ⟨rfl, rfl⟩
      · exact .inr ⟨by decide, rfl, rfl⟩
theorem poN_mem {D : List Int} : ∀ n, ∀ x ∈ poN D n, x.1 < n ∧ 0 < x.2 ∧ x.2 = D.getD x.1 0
  | 0, x, h => by cases h
  | n + 1, x, h => by
    unfold poN at h
    split at h
    · rcases List.mem_append.1 h with h | h
      · have := poN_mem n x h; exact ⟨by omega, this.2⟩
      · have : x = (n, D.getD n 0) := by simpa using h
        subst this
        exact ⟨by show n < n + 1; omega, by assumption, rfl⟩
    · have := poN_mem n x h; exact ⟨by omega, this.2⟩
theorem neN_mem {D : List Int} : ∀ n, ∀ x ∈ neN D n, x.1 < n ∧ x.2 < 0 ∧ x.2 = D.getD x.1 0
  | 0, x, h => by cases h
  | n + 1, x, h => by
    unfold neN at h
    split at h
    · rcases List.mem_append.1 h with h | h
      · have := neN_mem n x h; exact ⟨by omega, this.2⟩
      · have : x = (n, D.getD n 0) := by simpa using h
        subst this
        exact ⟨by show n < n + 1; omega, by assumption, rfl⟩
    · have := neN_mem n x h; exact ⟨by omega, this.2⟩
theorem set_po {D : List Int} : ∀ n (d : List Int), (((poN D n).foldl (fun d x => d.set x.1 x.2) d).length = d.length) ∧ ∀ j, j < d.length → ((poN D n).foldl (fun d x => d.set x.1 x.2) d).getD j 0 = if j < n ∧ 0 < D.getD j 0 then D.getD j 0 else d.getD j 0
  | 0, d => ⟨rfl, fun j _ => by simp [poN]⟩
  | n + 1, d => by
    obtain ⟨h1, h2⟩ := set_po (D := D) n d
    unfold poN
    split
    · rename_i hp
      rw [List.foldl_append]
      refine ⟨by simp [h1], fun j hj => ?_⟩
      show (List.set _ _ _).getD j 0 = _
      rw [List.getD_eq_getElem?_getD, List.getElem?_set]
      by_cases e : n = j
      · subst e
        rw [if_pos rfl, if_pos (by omega), if_pos ⟨by omega, hp⟩]; rfl
      · rw [if_neg e, ← List.getD_eq_getElem?_getD, h2 j hj]
        by_cases c : j < n ∧ 0 < D.getD j 0
        · rw [if_pos c, if_pos ⟨by omega, c.2⟩]
        · rw [if_neg c, if_neg fun h => c ⟨by omega, h.2⟩]
    · rename_i hp
      refine ⟨h1, fun j hj => ?_⟩
      rw [h2 j hj]
      by_cases c : j < n ∧ 0 < D.getD j 0
      · rw [if_pos c, if_pos ⟨by omega, c.2⟩]
      · rw [if_neg c, if_neg]
        rintro ⟨ha, hb⟩
        by_cases e : j = n
        · subst e; exact hp hb
        · exact c ⟨by omega, hb⟩
theorem set_ne {D : List Int} : ∀ n (d : List Int), (((neN D n).foldl (fun d x => d.set x.1 x.2) d).length = d.length) ∧ ∀ j, j < d.length → ((neN D n).foldl (fun d x => d.set x.1 x.2) d).getD j 0 = if j < n ∧ D.getD j 0 < 0 then D.getD j 0 else d.getD j 0
  | 0, d => ⟨rfl, fun j _ => by simp [neN]⟩
  | n + 1, d => by
    obtain ⟨h1, h2⟩ := set_ne (D := D) n d
    unfold neN
    split
    · rename_i hp
      rw [List.foldl_append]
      refine ⟨by simp [h1], fun j hj => ?_⟩
      show (List.set _ _ _).getD j 0 = _
      rw [List.getD_eq_getElem?_getD, List.getElem?_set]
      by_cases e : n = j
      · subst e
        rw [if_pos rfl, if_pos (by omega), if_pos ⟨by omega, hp⟩]; rfl
      · rw [if_neg e, ← List.getD_eq_getElem?_getD, h2 j hj]
        by_cases c : j < n ∧ D.getD j 0 < 0
        · rw [if_pos c, if_pos ⟨by omega, c.2⟩]
        · rw [if_neg c, if_neg fun h => c ⟨by omega, h.2⟩]
    · rename_i hp
      refine ⟨h1, fun j hj => ?_⟩
      rw [h2 j hj]
      by_cases c : j < n ∧ D.getD j 0 < 0
      · rw [if_pos c, if_pos ⟨by omega, c.2⟩]
      · rw [if_neg c, if_neg]
        rintro ⟨ha, hb⟩
        by_cases e : j = n
        · subst e; exact hp hb
        · exact c ⟨by omega, hb⟩
theorem set_all {D : List Int} (hD : D.length = 6) : (poN D 6 ++ neN D 6).foldl (fun d x => d.set x.1 x.2) [0, 0, 0, 0, 0, 0] = D := by
  rw [List.foldl_append]
  obtain ⟨h1, h2⟩ := set_po (D := D) 6 [0, 0, 0, 0, 0, 0]
  generalize hm : (poN D 6).foldl (fun d x => d.set x.1 x.2) [0, 0, 0, 0, 0, 0] = m at h1 h2 ⊢
  obtain ⟨h3, h4⟩ := set_ne (D := D) 6 m
  have h1' : m.length = 6 := h1
  refine List.ext_getElem (by omega) fun j hj hj' => ?_
  have e1 := h4 j (by omega)
  have e2 := h2 j (by show j < 6; omega)
  rw [e2] at e1
  rw [List.getD_eq_getElem?_getD, List.getElem?_eq_getElem hj] at e1
  have e3 : D.getD j 0 = D[j] := by rw [List.getD_eq_getElem?_getD, List.getElem?_eq_getElem hj']; rfl
  have e4 : ([0, 0, 0, 0, 0, 0] : List Int).getD j 0 = 0 := by
    have : ∀ j, j < 6 → ([0, 0, 0, 0, 0, 0] : List Int).getD j 0 = 0 := by decide
    exact this j (by omega)
  rw [e3, e4] at e1
  have e5 : ((neN D 6).foldl (fun d x => d.set x.1 x.2) m)[j] = _ := e1
  rw [e5]
  split
  · rfl
  · split
    · rfl
    · omega
theorem toks_ok {D : List Int} (h : Rt D) (hD : D.length = 6) : ∀ x ∈ poN D 6 ++ neN D 6, x.1 < 6 ∧ x.2 ≠ 0 ∧ -9 ≤ x.2 ∧ x.2 ≤ 9 := by
  have key : ∀ j, j < 6 → -9 ≤ D.getD j 0 ∧ D.getD j 0 ≤ 9 := fun j hj => h _ (by simp [List.getD_eq_getElem?_getD, show j < D.length by omega])
  intro x hx
  rcases List.mem_append.1 hx with hx | hx
  · obtain ⟨a, b, c⟩ := poN_mem 6 x hx
    have := key x.1 a
    rw [← c] at this
    exact ⟨a, by omega, this⟩
  · obtain ⟨a, b, c⟩ := neN_mem 6 x hx
    have := key x.1 a
    rw [← c] at this
    exact ⟨a, by omega, this⟩
theorem read_text {D : List Int} (h : Rt D) (hD : D.length = 6) : read (text D) = some D := by
  have := parse_tks _ _ [0, 0, 0, 0, 0, 0] (toks_ok h hD) (start_tks h).1
  rw [set_all hD] at this
  exact read_ok this.symm rfl
end Dm

open Go
namespace Un
open Fr Bg
theorem nlL_word : ∀ (w m : List UInt8), (∀ c ∈ w, ltr (c.toNat : Int)) → nlL m = 0 → nlL (w ++ m) = w.length
  | [], m, _, h => h
  | c :: w, m, hw, h => by
    rw [List.cons_append]; unfold nlL
    rw [if_pos (hw c List.mem_cons_self), nlL_word w m (fun x hx => hw x (List.mem_cons_of_mem _ hx)) h]; rfl
def syn (n : Nat) : ByteArray := Dm.sy.getD n default
theorem sy_ltr : ∀ n, n < 6 → (∀ c ∈ bl (syn n), ltr (c.toNat : Int)) ∧ 0 < (syn n).size ∧ (syn n).size ≤ 4 := by decide +kernel
theorem dg_ltr : ∀ e : Fin 10, 2 ≤ e.1 → ¬ ltr ((UInt8.ofNat (48 + e.1)).toNat : Int) := by decide +kernel
theorem cut_sy {n : Nat} {e : Int} {t r : ByteArray} (hn : n < 6) (he : 1 ≤ e ∧ e ≤ 9) (hr : Sg r) (hs : bl t = bl (Dm.item (syn n) e) ++ bl r) : nl t = (syn n).size ∧ cuW t = syn n ∧ cuE t = e ∧ cuR t = r := by
  obtain ⟨h1, h2, h3⟩ := sy_ltr n hn
  rw [Dm.bl_item, List.append_assoc] at hs
  have hz : nlL ((if e = 1 then [] else [UInt8.ofNat (48 + e).toNat]) ++ bl r) = 0 := by
    by_cases h : e = 1
    · rw [if_pos h]; exact hr.nl
    · rw [if_neg h]
      obtain ⟨m, rfl⟩ := Int.eq_ofNat_of_zero_le (show 0 ≤ e by omega)
      have hd := dg_ltr ⟨m, by omega⟩ (by show 2 ≤ m; omega)
      have e1 : (48 + (m : Int)).toNat = 48 + m := by omega
      rw [e1]
      show nlL (_ :: _) = 0
      unfold nlL
      rw [if_neg hd]
  have hnl : nl t = (syn n).size := by
    unfold nl; rw [hs, nlL_word _ _ h1 hz, bl_len]
  have hrest : bl (rest t) = (if e = 1 then [] else [UInt8.ofNat (48 + e).toNat]) ++ bl r := by
    unfold rest
    rw [hnl, bl_extract, ← bl_len t, List.take_length, hs, List.drop_left' (by rw [bl_len])]
  refine ⟨hnl, ?_, ?_⟩
  · apply bl_inj
    unfold cuW
    rw [hnl, bl_extract, hs, List.take_left' (by rw [bl_len]), List.drop_zero]
  · by_cases h : e = 1
    · rw [if_pos h, List.nil_append] at hrest
      have hrt := bl_inj hrest
      have hnn := hr.num
      unfold cuE cuR
      rw [hrt, if_neg hnn, if_neg hnn]
      exact ⟨h.symm, rfl⟩
    · rw [if_neg h] at hrest
      obtain ⟨m, rfl⟩ := Int.eq_ofNat_of_zero_le (show 0 ≤ e by omega)
      have hd := Dm.dig_ok ⟨m, by omega⟩ (by show 2 ≤ m; omega)
      simp only at hd
      have e1 : (48 + (m : Int)).toNat = 48 + m := by omega
      rw [e1] at hrest
      have e2 : (bl (rest t)).getD 0 default = UInt8.ofNat (48 + m) := by rw [hrest]; rfl
      have hnum : num (rest t) := by
        refine ⟨⟨Dm.ne_empty.2 (by rw [hrest]; exact List.cons_ne_nil _ _), ?_⟩, ?_⟩ <;> rw [e2] <;> omega
      unfold cuE cuR
      rw [if_pos hnum, if_pos hnum, e2, hd.2.2]
      refine ⟨by omega, bl_inj ?_⟩
      rw [bl_extract, ← bl_len (rest t), List.take_length, hrest]; rfl
theorem sg_tks {l : List (Nat × Int)} {r : ByteArray} (h : bl r = Dm.tks l) : Sg r := by
  cases l with
  | nil => exact .inl h
  | cons x l =>
    rw [Dm.tks_cons] at h
    unfold Dm.tk at h
    refine .inr ⟨_, _, h, ?_⟩
    split
    · left; decide
    · right; decide
theorem it_tks : ∀ (l : List (Nat × Int)) (r : ByteArray), (∀ x ∈ l, x.1 < 6 ∧ x.2 ≠ 0 ∧ -9 ≤ x.2 ∧ x.2 ≤ 9) → bl r = Dm.tks l → it r = some (l.map fun x => (⟨syn x.1, x.2⟩ : Ditem))
  | [], r, _, h => it_end (bl_inj h)
  | (n, e) :: l, r, hl, h => by
    obtain ⟨h1, h2, h3, h4⟩ := hl _ List.mem_cons_self
    rw [Dm.tks_cons] at h
    unfold Dm.tk at h
    simp only at h h1 h2 h3 h4
    have hne : ¬ r = ByteArray.empty := fun e0 => by rw [e0] at h; cases h
    have hb : 1 ≤ (if 0 < e then e else -e) ∧ (if 0 < e then e else -e) ≤ 9 := by split <;> omega
    have ht : bl (r.extract 1 r.size) = bl (Dm.item (syn n) (if 0 < e then e else -e)) ++ bl (⟨(Dm.tks l).toArray⟩ : ByteArray) := by
      rw [bl_extract, ← bl_len r, List.take_length, h, bl_mk]; rfl
    obtain ⟨c1, c2, c3, c4⟩ := cut_sy h1 hb (sg_tks (l := l) (by rw [bl_mk])) ht
    have e0 : (bl r).getD 0 default = if 0 < e then 42 else 47 := by rw [h]; rfl
    have hg : good r := by
      refine ⟨by rw [c1]; exact (sy_ltr n h1).2.1, ?_⟩
      rw [e0]; split
      · left; decide
      · right; decide
    rw [it_step hne hg, c4, it_tks l _ (fun x hx => hl x (List.mem_cons_of_mem _ hx)) (by rw [bl_mk])]
    have hx : itm ((bl r).getD 0 default) (r.extract 1 r.size) = ⟨syn n, e⟩ := by
      unfold itm; rw [c2, c3, e0]
      by_cases hp : 0 < e
      · rw [if_pos hp, if_pos hp, if_neg (by decide)]
      · rw [if_neg hp, if_neg hp, if_pos (by decide)]
        show Ditem.mk (syn n) (- -e) = _
        rw [Int.neg_neg]
    rw [hx, Option.map_some, List.map_cons]
def bas (n : Nat) : List Int := [0, 0, 0, 0, 0, 0].set n 1
theorem word_sy : ∀ n, n < 6 → word (syn n) = some (bas n, 1) := by decide +kernel
theorem tmN_one {p : Prop} [Decidable p] : ∀ n, tmN 1 1 p n = 1
  | 0 => rfl
  | n + 1 => by
    rw [tmN, tmN_one n]
    split
    · exact Rat.mul_one 1
    · decide +kernel
def addS (d : List Int) (x : Nat × Int) : List Int := addD d (bas x.1) x.2
theorem acc_sy : ∀ (l : List (Nat × Int)) (d : List Int), (∀ x ∈ l, x.1 < 6) → acc (l.map fun x => (⟨syn x.1, x.2⟩ : Ditem)) (d, 1) = some (l.foldl addS d, 1)
  | [], d, _ => rfl
  | x :: l, d, h => by
    rw [List.map_cons]; unfold acc
    have hw := word_sy x.1 (h _ List.mem_cons_self)
    have e : tm 1 1 x.2 = 1 := tmN_one _
    show (if (word (syn x.1)).isSome = true then acc _ (addD d ((word (syn x.1)).getD ([], 0)).1 x.2, tm 1 (fv (word (syn x.1))) x.2) else none) = _
    rw [hw, if_pos (show (some (bas x.1, (1 : Rat))).isSome = true from rfl)]
    show acc _ (addD d (bas x.1) x.2, tm 1 1 x.2) = _
    rw [e, acc_sy l _ fun y hy => h y (List.mem_cons_of_mem _ hy)]; rfl
theorem bas_get : ∀ n j, n < 6 → j < 6 → (bas n).getD j 0 = if n = j then 1 else 0 := by
  intro n j hn hj
  unfold bas
  rw [List.getD_eq_getElem?_getD, List.getElem?_set]
  by_cases e : n = j
  · subst e; rw [if_pos rfl, if_pos rfl, if_pos (by exact hn)]; rfl
  · rw [if_neg e, if_neg e]
    have : ∀ j, j < 6 → (([0, 0, 0, 0, 0, 0] : List Int)[j]?).getD 0 = 0 := by decide
    exact this j hj
theorem addS_get (d : List Int) (n : Nat) (e : Int) (hn : n < 6) (j : Nat) (hj : j < 6) : (addS d (n, e)).getD j 0 = if n = j then d.getD j 0 + e else d.getD j 0 := by
  have h : (addS d (n, e)).getD j 0 = d.getD j 0 + (bas n).getD j 0 * e := by
    unfold addS addD
    match j, hj with
    | 0, _ => rfl
    | 1, _ => rfl
    | 2, _ => rfl
    | 3, _ => rfl
    | 4, _ => rfl
    | 5, _ => rfl
  rw [h, bas_get n j hn hj]
  split <;> simp
theorem addS_len (d : List Int) (x : Nat × Int) : (addS d x).length = 6 := rfl
theorem fold_len : ∀ (l : List (Nat × Int)) (d : List Int), d.length = 6 → (l.foldl addS d).length = 6
  | [], d, h => h
  | x :: l, d, _ => fold_len l _ (addS_len d x)
theorem add_po {D : List Int} : ∀ n (d : List Int), n ≤ 6 → ∀ j, j < 6 → ((Dm.poN D n).foldl addS d).getD j 0 = if j < n ∧ 0 < D.getD j 0 then d.getD j 0 + D.getD j 0 else d.getD j 0
  | 0, d, _ => fun j _ => by simp [Dm.poN]
  | n + 1, d, hn => by
    have h2 := add_po (D := D) n d (by omega)
    unfold Dm.poN
    split
    · rename_i hp
      rw [List.foldl_append]
      intro j hj
      show (addS _ (n, _)).getD j 0 = _
      rw [addS_get _ _ _ (by omega) j hj, h2 j hj]
      by_cases e : n = j
      · subst e
        rw [if_pos rfl, if_neg (by omega), if_pos ⟨by omega, hp⟩]
      · rw [if_neg e]
        by_cases c : j < n ∧ 0 < D.getD j 0
        · rw [if_pos c, if_pos ⟨by omega, c.2⟩]
        · rw [if_neg c, if_neg fun h => c ⟨by omega, h.2⟩]
    · rename_i hp
      intro j hj
      rw [h2 j hj]
      by_cases c : j < n ∧ 0 < D.getD j 0
      · rw [if_pos c, if_pos ⟨by omega, c.2⟩]
      · rw [if_neg c, if_neg]
        rintro ⟨ha, hb⟩
        by_cases e : j = n
        · subst e; exact hp hb
        · exact c ⟨by omega, hb⟩
theorem add_ne {D : List Int} : ∀ n (d : List Int), n ≤ 6 → ∀ j, j < 6 → ((Dm.neN D n).foldl addS d).getD j 0 = if j < n ∧ D.getD j 0 < 0 then d.getD j 0 + D.getD j 0 else d.getD j 0
  | 0, d, _ => fun j _ => by simp [Dm.neN]
  | n + 1, d, hn => by
    have h2 := add_ne (D := D) n d (by omega)
    unfold Dm.neN
    split
    · rename_i hp
      rw [List.foldl_append]
      intro j hj
      show (addS _ (n, _)).getD j 0 = _
      rw [addS_get _ _ _ (by omega) j hj, h2 j hj]
      by_cases e : n = j
      · subst e
        rw [if_pos rfl, if_neg (by omega), if_pos ⟨by omega, hp⟩]
      · rw [if_neg e]
        by_cases c : j < n ∧ D.getD j 0 < 0
        · rw [if_pos c, if_pos ⟨by omega, c.2⟩]
        · rw [if_neg c, if_neg fun h => c ⟨by omega, h.2⟩]
    · rename_i hp
      intro j hj
      rw [h2 j hj]
      by_cases c : j < n ∧ D.getD j 0 < 0
      · rw [if_pos c, if_pos ⟨by omega, c.2⟩]
      · rw [if_neg c, if_neg]
        rintro ⟨ha, hb⟩
        by_cases e : j = n
        · subst e; exact hp hb
        · exact c ⟨by omega, hb⟩
theorem z6_get : ∀ j, j < 6 → Z6.getD j 0 = 0 := by decide
theorem add_all {D : List Int} (hD : D.length = 6) : (Dm.poN D 6 ++ Dm.neN D 6).foldl addS Z6 = D := by
  rw [List.foldl_append]
  have h2 := add_po (D := D) 6 Z6 (by omega)
  have h3 := add_ne (D := D) 6 ((Dm.poN D 6).foldl addS Z6) (by omega)
  refine List.ext_getElem ?_ fun j hj hj' => ?_
  · rw [hD]; exact fold_len _ _ (fold_len _ _ rfl)
  · have e1 := h3 j (by omega)
    rw [h2 j (by omega), z6_get j (by omega)] at e1
    rw [List.getD_eq_getElem?_getD, List.getElem?_eq_getElem hj] at e1
    have e3 : D.getD j 0 = D[j] := by rw [List.getD_eq_getElem?_getD, List.getElem?_eq_getElem hj']; rfl
    rw [e3] at e1
    refine Eq.trans e1 ?_
    split
    · split <;> omega
    · split <;> omega
theorem one_len (p : Prop) [Decidable p] (c : UInt8) : (if p then [] else [c]).length ≤ 1 := by split <;> simp
theorem tk_len (x : Nat × Int) (h : x.1 < 6) : (Dm.tk x).length ≤ 6 := by
  unfold Dm.tk
  rw [List.length_cons, Dm.bl_item, List.length_append, bl_len]
  have := (sy_ltr x.1 h).2.2
  unfold syn at this
  have h1 := one_len ((if 0 < x.2 then x.2 else -x.2) = 1) (UInt8.ofNat (48 + (if 0 < x.2 then x.2 else -x.2)).toNat)
  omega
theorem tks_len : ∀ (l : List (Nat × Int)), (∀ x ∈ l, x.1 < 6) → (Dm.tks l).length ≤ 6 * l.length
  | [], _ => Nat.le_refl _
  | x :: l, h => by
    rw [Dm.tks_cons, List.length_append, List.length_cons]
    have h1 := tk_len x (h _ List.mem_cons_self)
    have h2 := tks_len l fun y hy => h y (List.mem_cons_of_mem _ hy)
    omega
theorem pn_len {D : List Int} : ∀ n, (Dm.poN D n).length + (Dm.neN D n).length ≤ n
  | 0 => Nat.le_refl _
  | n + 1 => by
    have := pn_len (D := D) n
    unfold Dm.poN Dm.neN
    split
    · rw [if_neg (by omega), List.length_append]; show _ + 1 + _ ≤ _; omega
    · split
      · rw [List.length_append]; show _ + (_ + 1) ≤ _; omega
      · omega
theorem text_40 {D : List Int} (h : Dm.Rt D) (hD : D.length = 6) : (Dm.text D).size ≤ 37 := by
  have h1 := tks_len _ fun x hx => (Dm.toks_ok h hD x hx).1
  rw [← (Dm.start_tks h).1, bl_len, List.length_append] at h1
  have h2 := pn_len (D := D) 6
  have h3 : (Dm.text D).size ≤ (Dm.start (Dm.text D)).size + 1 := by
    unfold Dm.start
    split
    · rename_i k
      unfold Dm.cpR
      rw [if_pos k, ByteArray.size_extract]
      have : (⟨#[49]⟩ : ByteArray).size = 1 := rfl
      omega
    · rw [ByteArray.size_append]; omega
  omega
theorem read_text {D : List Int} (h : Dm.Rt D) (hD : D.length = 6) : read (Dm.text D) = (some (D, 1), 0) := by
  have hs : ¬ Dm.text D = ByteArray.empty := Dm.text_ne.2 h
  have h1 : items (Dm.text D) = some ((Dm.poN D 6 ++ Dm.neN D 6).map fun x => (⟨syn x.1, x.2⟩ : Ditem)) := by
    have := text_40 h hD
    unfold items
    rw [if_neg hs, if_neg (by omega)]
    exact it_tks _ _ (Dm.toks_ok h hD) (Dm.start_tks h).1
  have h2 := acc_sy _ Z6 fun x hx => (Dm.toks_ok h hD x hx).1
  rw [add_all hD] at h2
  rw [RdIs.read h1 h2, if_pos h]
def pxs : List (ByteArray × Rat) := [(⟨#[107]⟩, 1000), (⟨#[77]⟩, 1000000), (⟨#[71]⟩, 1000000000), (⟨#[109]⟩, Rat.divInt 1 1000)]
theorem read_sym : ∀ x ∈ sl, read x.1 = (some x.2, 0) := by decide +kernel
theorem read_pfx : ∀ x ∈ sl, ∀ p ∈ pxs, read (p.1 ++ x.1) = if pf x.1 then (some (x.2.1, x.2.2 * p.2), 0) else (none, 11) := by decide +kernel
end Un

open Go Go.RowKit Go.WideShapes Go.ChangeShapes
theorem wf8 {a : Int} (h : (Lit.int .u8 a).wf = true) : 0 ≤ a ∧ a ≤ 255 := by
  simp [Lit.wf, IntKind.min, IntKind.max, IntKind.signed, IntKind.bits] at h
  omega

open Go Go.RowKit Go.WideShapes Go.ChangeShapes
section
variable {H : Type} {enc : TypeId × Value → H} {P : Program} {w : World} {base : Nat} {sp : Nat → Bool} {held : Bool}
theorem arg_int {r : Reach} {b0 : Nat} {t : TypeId} {k : IntKind} (ht : P.underlying t = some (.int k)) {v : Value} {d : DataW H} {ps : List MemPlace} (hv : Value.okWide P w r b0 t v) (h : DataW.Trod enc P w base sp held t v d ps) : ∃ n, v = .int k n ∧ (Lit.int k n).wf = true := by
  obtain ⟨n, hn⟩ := h
  obtain ⟨m, rfl⟩ := okWide_int ht hv
  obtain ⟨n, h1, _, h2⟩ := DataW.trod_int ht hn
  cases h1
  exact ⟨_, rfl, h2⟩
theorem arg_array {r : Reach} {b0 : Nat} {t e : TypeId} {m : Nat} (ht : P.underlying t = some (.array m e)) (he : P.underlying e = some (.int .i64)) (hc : P.cellsOf t = m) (h1 : P.cellsOf e = 1) {v : Value} {d : DataW H} {ps : List MemPlace} (hv : Value.okWide P w r b0 t v) (h : DataW.Trod enc P w base sp held t v d ps) :
    ∃ l : List Int, l.length = m ∧ v = .agg ⟨l.map fun n => .int .i64 n⟩ := by
  obtain ⟨n, hn⟩ := h
  simp only [Value.okWide, ht] at hv
  obtain ⟨cs, rfl, hl, _⟩ := hv
  obtain ⟨xs, k, _, _, _, hx, hel⟩ := DataW.trod_array ht hn
  simp only [Value.cells, h1, Nat.mul_one] at hel
  rw [hc] at hl
  have each : ∀ i, i < m → ∃ n : Int, cs.toList[i]? = some (.int .i64 n) := fun i hi => by
    have h2 := hel i hi
    have hi' : i < cs.toList.length := by simpa [hl] using hi
    rw [List.getElem?_eq_getElem (by omega), List.drop_eq_getElem_cons hi'] at h2
    obtain ⟨n, h3, _, _⟩ := DataW.trod_int he h2
    simp at h3
    exact ⟨n, by rw [List.getElem?_eq_getElem hi']; simp [h3]⟩
  refine ⟨(List.range m).map fun i => match cs.toList[i]? with | some (Value.int .i64 n) => n | _ => 0, by simp, ?_⟩
  congr 1
  cases cs with
  | mk cs =>
    congr 1
    refine List.ext_getElem? fun i => ?_
    rcases Nat.lt_or_ge i m with hi | hi
    · obtain ⟨n, hn⟩ := each i hi
      simp only at hn
      simp [hi, hn]
    · have hl' : cs.length = m := by simpa using hl
      rw [List.getElem?_eq_none (by omega), List.getElem?_eq_none (by simp; omega)]
end

open Go Go.Proofs
set_option maxRecDepth 10000 in
theorem frac9_ct (p q : Int) (hp : -9223372036854775808 ≤ p ∧ p ≤ 9223372036854775807) (hq : -9223372036854775808 ≤ q ∧ q ≤ 9223372036854775807) :
    Ct Try.prog 54 #[iv p, iv q] [] [] (fun g => ag (DFrac.mk (DBig.mk (Fr.rS (q ≠ 0) (Rat.divInt p q)) ⟨Fr.rD (q ≠ 0) (Rat.divInt p q), (g.ss 0)⟩) (DBig.mk (Fr.rT (q ≠ 0)) ⟨Fr.rE (q ≠ 0) (Rat.divInt p q), (g.ss 1)⟩))) (fun g => [fs true (Fr.rD (q ≠ 0) (Rat.divInt p q)) (g.ss 0), fs true (Fr.rE (q ≠ 0) (Rat.divInt p q)) (g.ss 1)]) (fun g => []) (fun g => []) := by
  refine V.fn mo Try.func54 14 2 (by kernel_rfl) fun w H ε k0 => ?_
  clear k0
  refine V.g [.nb 0 0 (fun b => pp b 0) 30 (fun _ => ca (DFrac.mk (DBig.mk 0 ⟨[], {}⟩) (DBig.mk 0 ⟨[], {}⟩)))] fun _ _ G1 => ?_
  intro S_ s_
  refine nm (Fr.rS (q ≠ 0) (Rat.divInt p q) : Int) fun n1 hn1 => ?_
  refine nm (Fr.rD (q ≠ 0) (Rat.divInt p q) : List Int) fun l1 hl1 => ?_
  have hl1n := congrArg List.length hl1
  refine nm (Fr.rT (q ≠ 0) : Int) fun n2 hn2 => ?_
  refine nm (Fr.rE (q ≠ 0) (Rat.divInt p q) : List Int) fun l2 hl2 => ?_
  have hl2n := congrArg List.length hl2
  refine nm (if q = 0 then (15 : Int) else 0 : Int) fun n3 hn3 => ?_
  refine V.r [.k (iv p),.k (iv q),.ct g0 2 18 false [] [] [] (fun _ G => r5of_ctv p q (by omega) (by omega) n1 hn1 l1 hl1 n2 hn2 l2 hl2 n3 hn3),.v fun G => .tuple #[ag (DFrac.mk (DBig.mk n1 ⟨l1, (G 2).ss 0⟩) (DBig.mk n2 ⟨l2, (G 2).ss 1⟩)), iv n3],.v fun G => ag (DFrac.mk (DBig.mk n1 ⟨l1, (G 2).ss 0⟩) (DBig.mk n2 ⟨l2, (G 2).ss 1⟩)),.k (iv n3),.nb 6 1 (fun b => pp b 0) 30 (fun _ => ca (DFrac.mk (DBig.mk 0 ⟨[], {}⟩) (DBig.mk 0 ⟨[], {}⟩))),.st 1 (fun G => .blk ((G 6).b) (ca (DFrac.mk (DBig.mk n1 ⟨l1, (G 2).ss 0⟩) (DBig.mk n2 ⟨l2, (G 2).ss 1⟩))) 30),.k (iv n3)] fun _ _ G2 kw2 => ?_
  intro S_ s_
  obtain ⟨⟨kl1, -⟩, ⟨kl2, -⟩, -⟩ : Lq l1 (((G2 2).ss 0).v) ∧ Lq l2 (((G2 2).ss 1).v) ∧ True := kn kw2 (by kernel_rfl)
  clear kw2
  refine V.g [.ld 1 0 true (fun _ => Dat.cells (DFrac.mk (DBig.mk n1 ⟨l1, (G2 2).ss 0⟩) (DBig.mk n2 ⟨l2, (G2 2).ss 1⟩))),.st 0 (fun _ => .blk ((G1 0).b) (ca (DFrac.mk (DBig.mk n1 ⟨l1, (G2 2).ss 0⟩) (DBig.mk n2 ⟨l2, (G2 2).ss 1⟩))) 30)] fun _ _ G3 => ?_
  intro S_ s_
  have e1 : l1 = Fr.rD (q ≠ 0) (Rat.divInt p q) := by rw [hl1]
  subst e1
  have e3 : l2 = Fr.rE (q ≠ 0) (Rat.divInt p q) := by rw [hl2]
  subst e3
  have e0 : n1 = Fr.rS (q ≠ 0) (Rat.divInt p q) := by rw [hn1]
  have e2 : n2 = Fr.rT (q ≠ 0) := by rw [hn2]
  exact V.ret [0] [(G2 2).ss 0, (G2 2).ss 1] [fun _ => {}, fun _ => {}] [] [0, 1] [] (ag (DFrac.mk (DBig.mk n1 ⟨(Fr.rD (q ≠ 0) (Rat.divInt p q)), (G2 2).ss 0⟩) (DBig.mk n2 ⟨(Fr.rE (q ≠ 0) (Rat.divInt p q)), (G2 2).ss 1⟩))) (fun _ _ => by kernel_rfl) (fun _ _ => (Eq.trans (by kernel_rfl) (cong2 (fun (x0 : Int) (x2 : Int) => (.agg #[iv x0, ((G2 2).ss 0).v, iv x2, ((G2 2).ss 1).v] : Value)) e0 e2)).trans (by kernel_rfl)) (fun _ _ => trivial)
theorem frac9_ctv (p q : Int) (hp : -9223372036854775808 ≤ p ∧ p ≤ 9223372036854775807) (hq : -9223372036854775808 ≤ q ∧ q ≤ 9223372036854775807) (rv0 : Int) (erv0 : rv0 = Fr.rS (q ≠ 0) (Rat.divInt p q)) (rv1 : List Int) (erv1 : rv1 = Fr.rD (q ≠ 0) (Rat.divInt p q)) (rv2 : Int) (erv2 : rv2 = Fr.rT (q ≠ 0)) (rv3 : List Int) (erv3 : rv3 = Fr.rE (q ≠ 0) (Rat.divInt p q)) :
    Ct Try.prog 54 #[iv p, iv q] [] [] (fun g => ag (DFrac.mk (DBig.mk rv0 ⟨rv1, (g.ss 0)⟩) (DBig.mk rv2 ⟨rv3, (g.ss 1)⟩))) (fun g => [fs true rv1 (g.ss 0), fs true rv3 (g.ss 1)]) (fun g => []) (fun g => []) := by
  subst erv0 erv1 erv2 erv3; exact frac9_ct p q hp hq
set_option maxRecDepth 10000 in
theorem base0_ct (exp factor_P_Sign : Int) (factor_P_Digits : List Int) (factor_P_Digitss : SV) (factor_Q_Sign : Int) (factor_Q_Digits : List Int) (factor_Q_Digitss : SV) :
    Ct Try.prog 53 #[iv 0, iv exp, ag (DFrac.mk (DBig.mk factor_P_Sign ⟨factor_P_Digits, factor_P_Digitss⟩) (DBig.mk factor_Q_Sign ⟨factor_Q_Digits, factor_Q_Digitss⟩))] [fs true factor_P_Digits factor_P_Digitss, fs true factor_Q_Digits factor_Q_Digitss] [] (fun g => .agg #[iv exp, iv 0, iv 0, iv 0, iv 0, iv 0, iv factor_P_Sign, ((g.ss 0)).v, iv factor_Q_Sign, ((g.ss 1)).v]) (fun g => [fs false factor_P_Digits (g.ss 0), fs false factor_Q_Digits (g.ss 1)]) (fun g => []) (fun g => []) := by
  refine V.fn mo Try.func53 15 3 (by kernel_rfl) fun w H ε k0 => ?_
  obtain ⟨⟨kl1, -⟩, ⟨kl2, -⟩, -⟩ : Lq factor_P_Digits factor_P_Digitss.v ∧ Lq factor_Q_Digits factor_Q_Digitss.v ∧ True := kn k0 (by kernel_rfl)
  clear k0
  refine V.g [.nb 0 0 (fun b => pp b 0) 30 (fun _ => ca (DFrac.mk (DBig.mk factor_P_Sign ⟨factor_P_Digits, factor_P_Digitss⟩) (DBig.mk factor_Q_Sign ⟨factor_Q_Digits, factor_Q_Digitss⟩))),.nb 1 1 (fun b => pp b 0) 32 (fun _ => #[iv 0, iv 0, iv 0, iv 0, iv 0, iv 0, iv 0, .slice none 0 0, iv 0, .slice none 0 0])] fun _ _ G1 => ?_
  intro S_ s_
  refine V.g [.ld 0 0 true (fun _ => Dat.cells (DFrac.mk (DBig.mk factor_P_Sign ⟨factor_P_Digits, factor_P_Digitss⟩) (DBig.mk factor_Q_Sign ⟨factor_Q_Digits, factor_Q_Digitss⟩))),.k (.agg #[iv 0, iv 0, iv 0, iv 0, iv 0, iv 0, iv factor_P_Sign, factor_P_Digitss.v, iv factor_Q_Sign, factor_Q_Digitss.v]),.nb 2 2 (fun b => pp b 0) 32 (fun _ => #[iv 0, iv 0, iv 0, iv 0, iv 0, iv 0, iv 0, .slice none 0 0, iv 0, .slice none 0 0]),.st 2 (fun G => .blk ((G 2).b) #[iv 0, iv 0, iv 0, iv 0, iv 0, iv 0, iv factor_P_Sign, factor_P_Digitss.v, iv factor_Q_Sign, factor_Q_Digitss.v] 32)] fun _ _ G2 => ?_
  intro S_ s_
  refine V.g [.k (iv 0),.k (iv exp),.k (pp ((G2 2).b) 0),.k (pp ((G2 2).b) 0),.st 2 (fun _ => .blk ((G2 2).b) #[iv exp, iv 0, iv 0, iv 0, iv 0, iv 0, iv factor_P_Sign, factor_P_Digitss.v, iv factor_Q_Sign, factor_Q_Digitss.v] 32)] fun _ _ G3 => ?_
  intro S_ s_
  refine V.g [.ld 2 0 true (fun _ => [iv exp, iv 0, iv 0, iv 0, iv 0, iv 0, iv factor_P_Sign, factor_P_Digitss.v, iv factor_Q_Sign, factor_Q_Digitss.v]),.st 1 (fun _ => .blk ((G1 1).b) #[iv exp, iv 0, iv 0, iv 0, iv 0, iv 0, iv factor_P_Sign, factor_P_Digitss.v, iv factor_Q_Sign, factor_Q_Digitss.v] 32)] fun _ _ G4 => ?_
  intro S_ s_
  exact V.ret [1] [factor_P_Digitss, factor_Q_Digitss] [fun _ => {}, fun _ => {}] [] [0, 1] [] (.agg #[iv exp, iv 0, iv 0, iv 0, iv 0, iv 0, iv factor_P_Sign, factor_P_Digitss.v, iv factor_Q_Sign, factor_Q_Digitss.v]) (fun _ _ => by kernel_rfl) (fun _ _ => by kernel_rfl) (fun _ _ => trivial)
set_option maxRecDepth 10000 in
theorem base1_ct (exp factor_P_Sign : Int) (factor_P_Digits : List Int) (factor_P_Digitss : SV) (factor_Q_Sign : Int) (factor_Q_Digits : List Int) (factor_Q_Digitss : SV) :
    Ct Try.prog 53 #[iv 1, iv exp, ag (DFrac.mk (DBig.mk factor_P_Sign ⟨factor_P_Digits, factor_P_Digitss⟩) (DBig.mk factor_Q_Sign ⟨factor_Q_Digits, factor_Q_Digitss⟩))] [fs true factor_P_Digits factor_P_Digitss, fs true factor_Q_Digits factor_Q_Digitss] [] (fun g => .agg #[iv 0, iv exp, iv 0, iv 0, iv 0, iv 0, iv factor_P_Sign, ((g.ss 0)).v, iv factor_Q_Sign, ((g.ss 1)).v]) (fun g => [fs false factor_P_Digits (g.ss 0), fs false factor_Q_Digits (g.ss 1)]) (fun g => []) (fun g => []) := by
  refine V.fn mo Try.func53 15 3 (by kernel_rfl) fun w H ε k0 => ?_
  obtain ⟨⟨kl1, -⟩, ⟨kl2, -⟩, -⟩ : Lq factor_P_Digits factor_P_Digitss.v ∧ Lq factor_Q_Digits factor_Q_Digitss.v ∧ True := kn k0 (by kernel_rfl)
  clear k0
  refine V.g [.nb 0 0 (fun b => pp b 0) 30 (fun _ => ca (DFrac.mk (DBig.mk factor_P_Sign ⟨factor_P_Digits, factor_P_Digitss⟩) (DBig.mk factor_Q_Sign ⟨factor_Q_Digits, factor_Q_Digitss⟩))),.nb 1 1 (fun b => pp b 0) 32 (fun _ => #[iv 0, iv 0, iv 0, iv 0, iv 0, iv 0, iv 0, .slice none 0 0, iv 0, .slice none 0 0])] fun _ _ G1 => ?_
  intro S_ s_
  refine V.g [.ld 0 0 true (fun _ => Dat.cells (DFrac.mk (DBig.mk factor_P_Sign ⟨factor_P_Digits, factor_P_Digitss⟩) (DBig.mk factor_Q_Sign ⟨factor_Q_Digits, factor_Q_Digitss⟩))),.k (.agg #[iv 0, iv 0, iv 0, iv 0, iv 0, iv 0, iv factor_P_Sign, factor_P_Digitss.v, iv factor_Q_Sign, factor_Q_Digitss.v]),.nb 2 2 (fun b => pp b 0) 32 (fun _ => #[iv 0, iv 0, iv 0, iv 0, iv 0, iv 0, iv 0, .slice none 0 0, iv 0, .slice none 0 0]),.st 2 (fun G => .blk ((G 2).b) #[iv 0, iv 0, iv 0, iv 0, iv 0, iv 0, iv factor_P_Sign, factor_P_Digitss.v, iv factor_Q_Sign, factor_Q_Digitss.v] 32)] fun _ _ G2 => ?_
  intro S_ s_
  refine V.g [.k (iv 1),.k (iv exp),.k (pp ((G2 2).b) 0),.k (pp ((G2 2).b) 1),.st 2 (fun _ => .blk ((G2 2).b) #[iv 0, iv exp, iv 0, iv 0, iv 0, iv 0, iv factor_P_Sign, factor_P_Digitss.v, iv factor_Q_Sign, factor_Q_Digitss.v] 32)] fun _ _ G3 => ?_
  intro S_ s_
  refine V.g [.ld 2 0 true (fun _ => [iv 0, iv exp, iv 0, iv 0, iv 0, iv 0, iv factor_P_Sign, factor_P_Digitss.v, iv factor_Q_Sign, factor_Q_Digitss.v]),.st 1 (fun _ => .blk ((G1 1).b) #[iv 0, iv exp, iv 0, iv 0, iv 0, iv 0, iv factor_P_Sign, factor_P_Digitss.v, iv factor_Q_Sign, factor_Q_Digitss.v] 32)] fun _ _ G4 => ?_
  intro S_ s_
  exact V.ret [1] [factor_P_Digitss, factor_Q_Digitss] [fun _ => {}, fun _ => {}] [] [0, 1] [] (.agg #[iv 0, iv exp, iv 0, iv 0, iv 0, iv 0, iv factor_P_Sign, factor_P_Digitss.v, iv factor_Q_Sign, factor_Q_Digitss.v]) (fun _ _ => by kernel_rfl) (fun _ _ => by kernel_rfl) (fun _ _ => trivial)
set_option maxRecDepth 10000 in
theorem base2_ct (exp factor_P_Sign : Int) (factor_P_Digits : List Int) (factor_P_Digitss : SV) (factor_Q_Sign : Int) (factor_Q_Digits : List Int) (factor_Q_Digitss : SV) :
    Ct Try.prog 53 #[iv 2, iv exp, ag (DFrac.mk (DBig.mk factor_P_Sign ⟨factor_P_Digits, factor_P_Digitss⟩) (DBig.mk factor_Q_Sign ⟨factor_Q_Digits, factor_Q_Digitss⟩))] [fs true factor_P_Digits factor_P_Digitss, fs true factor_Q_Digits factor_Q_Digitss] [] (fun g => .agg #[iv 0, iv 0, iv exp, iv 0, iv 0, iv 0, iv factor_P_Sign, ((g.ss 0)).v, iv factor_Q_Sign, ((g.ss 1)).v]) (fun g => [fs false factor_P_Digits (g.ss 0), fs false factor_Q_Digits (g.ss 1)]) (fun g => []) (fun g => []) := by
  refine V.fn mo Try.func53 15 3 (by kernel_rfl) fun w H ε k0 => ?_
  obtain ⟨⟨kl1, -⟩, ⟨kl2, -⟩, -⟩ : Lq factor_P_Digits factor_P_Digitss.v ∧ Lq factor_Q_Digits factor_Q_Digitss.v ∧ True := kn k0 (by kernel_rfl)
  clear k0
  refine V.g [.nb 0 0 (fun b => pp b 0) 30 (fun _ => ca (DFrac.mk (DBig.mk factor_P_Sign ⟨factor_P_Digits, factor_P_Digitss⟩) (DBig.mk factor_Q_Sign ⟨factor_Q_Digits, factor_Q_Digitss⟩))),.nb 1 1 (fun b => pp b 0) 32 (fun _ => #[iv 0, iv 0, iv 0, iv 0, iv 0, iv 0, iv 0, .slice none 0 0, iv 0, .slice none 0 0])] fun _ _ G1 => ?_
  intro S_ s_
  refine V.g [.ld 0 0 true (fun _ => Dat.cells (DFrac.mk (DBig.mk factor_P_Sign ⟨factor_P_Digits, factor_P_Digitss⟩) (DBig.mk factor_Q_Sign ⟨factor_Q_Digits, factor_Q_Digitss⟩))),.k (.agg #[iv 0, iv 0, iv 0, iv 0, iv 0, iv 0, iv factor_P_Sign, factor_P_Digitss.v, iv factor_Q_Sign, factor_Q_Digitss.v]),.nb 2 2 (fun b => pp b 0) 32 (fun _ => #[iv 0, iv 0, iv 0, iv 0, iv 0, iv 0, iv 0, .slice none 0 0, iv 0, .slice none 0 0]),.st 2 (fun G => .blk ((G 2).b) #[iv 0, iv 0, iv 0, iv 0, iv 0, iv 0, iv factor_P_Sign, factor_P_Digitss.v, iv factor_Q_Sign, factor_Q_Digitss.v] 32)] fun _ _ G2 => ?_
  intro S_ s_
  refine V.g [.k (iv 2),.k (iv exp),.k (pp ((G2 2).b) 0),.k (pp ((G2 2).b) 2),.st 2 (fun _ => .blk ((G2 2).b) #[iv 0, iv 0, iv exp, iv 0, iv 0, iv 0, iv factor_P_Sign, factor_P_Digitss.v, iv factor_Q_Sign, factor_Q_Digitss.v] 32)] fun _ _ G3 => ?_
  intro S_ s_
  refine V.g [.ld 2 0 true (fun _ => [iv 0, iv 0, iv exp, iv 0, iv 0, iv 0, iv factor_P_Sign, factor_P_Digitss.v, iv factor_Q_Sign, factor_Q_Digitss.v]),.st 1 (fun _ => .blk ((G1 1).b) #[iv 0, iv 0, iv exp, iv 0, iv 0, iv 0, iv factor_P_Sign, factor_P_Digitss.v, iv factor_Q_Sign, factor_Q_Digitss.v] 32)] fun _ _ G4 => ?_
  intro S_ s_
  exact V.ret [1] [factor_P_Digitss, factor_Q_Digitss] [fun _ => {}, fun _ => {}] [] [0, 1] [] (.agg #[iv 0, iv 0, iv exp, iv 0, iv 0, iv 0, iv factor_P_Sign, factor_P_Digitss.v, iv factor_Q_Sign, factor_Q_Digitss.v]) (fun _ _ => by kernel_rfl) (fun _ _ => by kernel_rfl) (fun _ _ => trivial)
set_option maxRecDepth 10000 in
theorem base3_ct (exp factor_P_Sign : Int) (factor_P_Digits : List Int) (factor_P_Digitss : SV) (factor_Q_Sign : Int) (factor_Q_Digits : List Int) (factor_Q_Digitss : SV) :
    Ct Try.prog 53 #[iv 3, iv exp, ag (DFrac.mk (DBig.mk factor_P_Sign ⟨factor_P_Digits, factor_P_Digitss⟩) (DBig.mk factor_Q_Sign ⟨factor_Q_Digits, factor_Q_Digitss⟩))] [fs true factor_P_Digits factor_P_Digitss, fs true factor_Q_Digits factor_Q_Digitss] [] (fun g => .agg #[iv 0, iv 0, iv 0, iv exp, iv 0, iv 0, iv factor_P_Sign, ((g.ss 0)).v, iv factor_Q_Sign, ((g.ss 1)).v]) (fun g => [fs false factor_P_Digits (g.ss 0), fs false factor_Q_Digits (g.ss 1)]) (fun g => []) (fun g => []) := by
  refine V.fn mo Try.func53 15 3 (by kernel_rfl) fun w H ε k0 => ?_
  obtain ⟨⟨kl1, -⟩, ⟨kl2, -⟩, -⟩ : Lq factor_P_Digits factor_P_Digitss.v ∧ Lq factor_Q_Digits factor_Q_Digitss.v ∧ True := kn k0 (by kernel_rfl)
  clear k0
  refine V.g [.nb 0 0 (fun b => pp b 0) 30 (fun _ => ca (DFrac.mk (DBig.mk factor_P_Sign ⟨factor_P_Digits, factor_P_Digitss⟩) (DBig.mk factor_Q_Sign ⟨factor_Q_Digits, factor_Q_Digitss⟩))),.nb 1 1 (fun b => pp b 0) 32 (fun _ => #[iv 0, iv 0, iv 0, iv 0, iv 0, iv 0, iv 0, .slice none 0 0, iv 0, .slice none 0 0])] fun _ _ G1 => ?_
  intro S_ s_
  refine V.g [.ld 0 0 true (fun _ => Dat.cells (DFrac.mk (DBig.mk factor_P_Sign ⟨factor_P_Digits, factor_P_Digitss⟩) (DBig.mk factor_Q_Sign ⟨factor_Q_Digits, factor_Q_Digitss⟩))),.k (.agg #[iv 0, iv 0, iv 0, iv 0, iv 0, iv 0, iv factor_P_Sign, factor_P_Digitss.v, iv factor_Q_Sign, factor_Q_Digitss.v]),.nb 2 2 (fun b => pp b 0) 32 (fun _ => #[iv 0, iv 0, iv 0, iv 0, iv 0, iv 0, iv 0, .slice none 0 0, iv 0, .slice none 0 0]),.st 2 (fun G => .blk ((G 2).b) #[iv 0, iv 0, iv 0, iv 0, iv 0, iv 0, iv factor_P_Sign, factor_P_Digitss.v, iv factor_Q_Sign, factor_Q_Digitss.v] 32)] fun _ _ G2 => ?_
  intro S_ s_
  refine V.g [.k (iv 3),.k (iv exp),.k (pp ((G2 2).b) 0),.k (pp ((G2 2).b) 3),.st 2 (fun _ => .blk ((G2 2).b) #[iv 0, iv 0, iv 0, iv exp, iv 0, iv 0, iv factor_P_Sign, factor_P_Digitss.v, iv factor_Q_Sign, factor_Q_Digitss.v] 32)] fun _ _ G3 => ?_
  intro S_ s_
  refine V.g [.ld 2 0 true (fun _ => [iv 0, iv 0, iv 0, iv exp, iv 0, iv 0, iv factor_P_Sign, factor_P_Digitss.v, iv factor_Q_Sign, factor_Q_Digitss.v]),.st 1 (fun _ => .blk ((G1 1).b) #[iv 0, iv 0, iv 0, iv exp, iv 0, iv 0, iv factor_P_Sign, factor_P_Digitss.v, iv factor_Q_Sign, factor_Q_Digitss.v] 32)] fun _ _ G4 => ?_
  intro S_ s_
  exact V.ret [1] [factor_P_Digitss, factor_Q_Digitss] [fun _ => {}, fun _ => {}] [] [0, 1] [] (.agg #[iv 0, iv 0, iv 0, iv exp, iv 0, iv 0, iv factor_P_Sign, factor_P_Digitss.v, iv factor_Q_Sign, factor_Q_Digitss.v]) (fun _ _ => by kernel_rfl) (fun _ _ => by kernel_rfl) (fun _ _ => trivial)
set_option maxRecDepth 10000 in
theorem base4_ct (exp factor_P_Sign : Int) (factor_P_Digits : List Int) (factor_P_Digitss : SV) (factor_Q_Sign : Int) (factor_Q_Digits : List Int) (factor_Q_Digitss : SV) :
    Ct Try.prog 53 #[iv 4, iv exp, ag (DFrac.mk (DBig.mk factor_P_Sign ⟨factor_P_Digits, factor_P_Digitss⟩) (DBig.mk factor_Q_Sign ⟨factor_Q_Digits, factor_Q_Digitss⟩))] [fs true factor_P_Digits factor_P_Digitss, fs true factor_Q_Digits factor_Q_Digitss] [] (fun g => .agg #[iv 0, iv 0, iv 0, iv 0, iv exp, iv 0, iv factor_P_Sign, ((g.ss 0)).v, iv factor_Q_Sign, ((g.ss 1)).v]) (fun g => [fs false factor_P_Digits (g.ss 0), fs false factor_Q_Digits (g.ss 1)]) (fun g => []) (fun g => []) := by
  refine V.fn mo Try.func53 15 3 (by kernel_rfl) fun w H ε k0 => ?_
  obtain ⟨⟨kl1, -⟩, ⟨kl2, -⟩, -⟩ : Lq factor_P_Digits factor_P_Digitss.v ∧ Lq factor_Q_Digits factor_Q_Digitss.v ∧ True := kn k0 (by kernel_rfl)
  clear k0
  refine V.g [.nb 0 0 (fun b => pp b 0) 30 (fun _ => ca (DFrac.mk (DBig.mk factor_P_Sign ⟨factor_P_Digits, factor_P_Digitss⟩) (DBig.mk factor_Q_Sign ⟨factor_Q_Digits, factor_Q_Digitss⟩))),.nb 1 1 (fun b => pp b 0) 32 (fun _ => #[iv 0, iv 0, iv 0, iv 0, iv 0, iv 0, iv 0, .slice none 0 0, iv 0, .slice none 0 0])] fun _ _ G1 => ?_
  intro S_ s_
  refine V.g [.ld 0 0 true (fun _ => Dat.cells (DFrac.mk (DBig.mk factor_P_Sign ⟨factor_P_Digits, factor_P_Digitss⟩) (DBig.mk factor_Q_Sign ⟨factor_Q_Digits, factor_Q_Digitss⟩))),.k (.agg #[iv 0, iv 0, iv 0, iv 0, iv 0, iv 0, iv factor_P_Sign, factor_P_Digitss.v, iv factor_Q_Sign, factor_Q_Digitss.v]),.nb 2 2 (fun b => pp b 0) 32 (fun _ => #[iv 0, iv 0, iv 0, iv 0, iv 0, iv 0, iv 0, .slice none 0 0, iv 0, .slice none 0 0]),.st 2 (fun G => .blk ((G 2).b) #[iv 0, iv 0, iv 0, iv 0, iv 0, iv 0, iv factor_P_Sign, factor_P_Digitss.v, iv factor_Q_Sign, factor_Q_Digitss.v] 32)] fun _ _ G2 => ?_
  intro S_ s_
  refine V.g [.k (iv 4),.k (iv exp),.k (pp ((G2 2).b) 0),.k (pp ((G2 2).b) 4),.st 2 (fun _ => .blk ((G2 2).b) #[iv 0, iv 0, iv 0, iv 0, iv exp, iv 0, iv factor_P_Sign, factor_P_Digitss.v, iv factor_Q_Sign, factor_Q_Digitss.v] 32)] fun _ _ G3 => ?_
  intro S_ s_
  refine V.g [.ld 2 0 true (fun _ => [iv 0, iv 0, iv 0, iv 0, iv exp, iv 0, iv factor_P_Sign, factor_P_Digitss.v, iv factor_Q_Sign, factor_Q_Digitss.v]),.st 1 (fun _ => .blk ((G1 1).b) #[iv 0, iv 0, iv 0, iv 0, iv exp, iv 0, iv factor_P_Sign, factor_P_Digitss.v, iv factor_Q_Sign, factor_Q_Digitss.v] 32)] fun _ _ G4 => ?_
  intro S_ s_
  exact V.ret [1] [factor_P_Digitss, factor_Q_Digitss] [fun _ => {}, fun _ => {}] [] [0, 1] [] (.agg #[iv 0, iv 0, iv 0, iv 0, iv exp, iv 0, iv factor_P_Sign, factor_P_Digitss.v, iv factor_Q_Sign, factor_Q_Digitss.v]) (fun _ _ => by kernel_rfl) (fun _ _ => by kernel_rfl) (fun _ _ => trivial)
set_option maxRecDepth 10000 in
theorem base5_ct (exp factor_P_Sign : Int) (factor_P_Digits : List Int) (factor_P_Digitss : SV) (factor_Q_Sign : Int) (factor_Q_Digits : List Int) (factor_Q_Digitss : SV) :
    Ct Try.prog 53 #[iv 5, iv exp, ag (DFrac.mk (DBig.mk factor_P_Sign ⟨factor_P_Digits, factor_P_Digitss⟩) (DBig.mk factor_Q_Sign ⟨factor_Q_Digits, factor_Q_Digitss⟩))] [fs true factor_P_Digits factor_P_Digitss, fs true factor_Q_Digits factor_Q_Digitss] [] (fun g => .agg #[iv 0, iv 0, iv 0, iv 0, iv 0, iv exp, iv factor_P_Sign, ((g.ss 0)).v, iv factor_Q_Sign, ((g.ss 1)).v]) (fun g => [fs false factor_P_Digits (g.ss 0), fs false factor_Q_Digits (g.ss 1)]) (fun g => []) (fun g => []) := by
  refine V.fn mo Try.func53 15 3 (by kernel_rfl) fun w H ε k0 => ?_
  obtain ⟨⟨kl1, -⟩, ⟨kl2, -⟩, -⟩ : Lq factor_P_Digits factor_P_Digitss.v ∧ Lq factor_Q_Digits factor_Q_Digitss.v ∧ True := kn k0 (by kernel_rfl)
  clear k0
  refine V.g [.nb 0 0 (fun b => pp b 0) 30 (fun _ => ca (DFrac.mk (DBig.mk factor_P_Sign ⟨factor_P_Digits, factor_P_Digitss⟩) (DBig.mk factor_Q_Sign ⟨factor_Q_Digits, factor_Q_Digitss⟩))),.nb 1 1 (fun b => pp b 0) 32 (fun _ => #[iv 0, iv 0, iv 0, iv 0, iv 0, iv 0, iv 0, .slice none 0 0, iv 0, .slice none 0 0])] fun _ _ G1 => ?_
  intro S_ s_
  refine V.g [.ld 0 0 true (fun _ => Dat.cells (DFrac.mk (DBig.mk factor_P_Sign ⟨factor_P_Digits, factor_P_Digitss⟩) (DBig.mk factor_Q_Sign ⟨factor_Q_Digits, factor_Q_Digitss⟩))),.k (.agg #[iv 0, iv 0, iv 0, iv 0, iv 0, iv 0, iv factor_P_Sign, factor_P_Digitss.v, iv factor_Q_Sign, factor_Q_Digitss.v]),.nb 2 2 (fun b => pp b 0) 32 (fun _ => #[iv 0, iv 0, iv 0, iv 0, iv 0, iv 0, iv 0, .slice none 0 0, iv 0, .slice none 0 0]),.st 2 (fun G => .blk ((G 2).b) #[iv 0, iv 0, iv 0, iv 0, iv 0, iv 0, iv factor_P_Sign, factor_P_Digitss.v, iv factor_Q_Sign, factor_Q_Digitss.v] 32)] fun _ _ G2 => ?_
  intro S_ s_
  refine V.g [.k (iv 5),.k (iv exp),.k (pp ((G2 2).b) 0),.k (pp ((G2 2).b) 5),.st 2 (fun _ => .blk ((G2 2).b) #[iv 0, iv 0, iv 0, iv 0, iv 0, iv exp, iv factor_P_Sign, factor_P_Digitss.v, iv factor_Q_Sign, factor_Q_Digitss.v] 32)] fun _ _ G3 => ?_
  intro S_ s_
  refine V.g [.ld 2 0 true (fun _ => [iv 0, iv 0, iv 0, iv 0, iv 0, iv exp, iv factor_P_Sign, factor_P_Digitss.v, iv factor_Q_Sign, factor_Q_Digitss.v]),.st 1 (fun _ => .blk ((G1 1).b) #[iv 0, iv 0, iv 0, iv 0, iv 0, iv exp, iv factor_P_Sign, factor_P_Digitss.v, iv factor_Q_Sign, factor_Q_Digitss.v] 32)] fun _ _ G4 => ?_
  intro S_ s_
  exact V.ret [1] [factor_P_Digitss, factor_Q_Digitss] [fun _ => {}, fun _ => {}] [] [0, 1] [] (.agg #[iv 0, iv 0, iv 0, iv 0, iv 0, iv exp, iv factor_P_Sign, factor_P_Digitss.v, iv factor_Q_Sign, factor_Q_Digitss.v]) (fun _ _ => by kernel_rfl) (fun _ _ => by kernel_rfl) (fun _ _ => trivial)
set_option maxRecDepth 10000 in
theorem sym9_ct (s : ByteArray) :
    Ct Try.prog 17 #[tv s] [] [] (fun g => .tuple #[.agg #[iv (Un.dv (Un.sym s) 0), iv (Un.dv (Un.sym s) 1), iv (Un.dv (Un.sym s) 2), iv (Un.dv (Un.sym s) 3), iv (Un.dv (Un.sym s) 4), iv (Un.dv (Un.sym s) 5), iv (Fr.rS ((Un.sym s).isSome = true) (Un.fv (Un.sym s))), ((g.ss 0)).v, iv (Fr.rT ((Un.sym s).isSome = true)), ((g.ss 1)).v], bv ((Un.sym s).isSome)]) (fun g => [fs true (Fr.rD ((Un.sym s).isSome = true) (Un.fv (Un.sym s))) (g.ss 0), fs true (Fr.rE ((Un.sym s).isSome = true) (Un.fv (Un.sym s))) (g.ss 1)]) (fun g => []) (fun g => []) := by
  refine V.fn mo Try.func17 56 2 (by kernel_rfl) fun w H ε k0 => ?_
  clear k0
  refine V.g [.nb 0 0 (fun b => pp b 0) 32 (fun _ => #[iv 0, iv 0, iv 0, iv 0, iv 0, iv 0, iv 0, .slice none 0 0, iv 0, .slice none 0 0]),.kb false] fun _ _ G1 => ?_
  intro S_ s_
  refine nm (Bg.sgn (1 : Int) : Int) fun n1 hn1 => ?_
  refine nm (Bg.dig (1 : Int).natAbs : List Int) fun l1 hl1 => ?_
  have hl1n := congrArg List.length hl1
  refine nm (Bg.dig 1 : List Int) fun l2 hl2 => ?_
  have hl2n := congrArg List.length hl2
  refine V.r [.ct g0 0 16 false [] [] [] (fun _ G => r5int_ctv (1 : Int) (by omega) n1 hn1 l1 hl1 l2 hl2),.nb 1 1 (fun b => pp b 0) 30 (fun _ => ca (DFrac.mk (DBig.mk 0 ⟨[], {}⟩) (DBig.mk 0 ⟨[], {}⟩))),.st 1 (fun G => .blk ((G 1).b) (ca (DFrac.mk (DBig.mk n1 ⟨l1, (G 0).ss 0⟩) (DBig.mk 1 ⟨l2, (G 0).ss 1⟩))) 30)] fun _ _ G2 kw2 => ?_
  intro S_ s_
  obtain ⟨⟨kl1, -⟩, ⟨kl2, -⟩, -⟩ : Lq l1 (((G2 0).ss 0).v) ∧ Lq l2 (((G2 0).ss 1).v) ∧ True := kn kw2 (by kernel_rfl)
  clear kw2
  refine V.g [.k (tv s)] fun _ _ G3 => ?_
  intro S_ s_
  refine V.g [.seq s ⟨#[103]⟩,.k (bv (decide (s = ⟨#[103]⟩)))] fun _ _ G4 => ?_
  intro S_ s_
  refine V.cond (b := decide (s = ⟨#[103]⟩)) iDT iDF (by kernel_rfl) (fun q1 => ?_) (fun q2 => ?_)
  · have hsy : Un.sym s = some ([1, 0, 0, 0, 0, 0], Rat.divInt 1 1) := by rw [q1]; kernel_rfl
    refine V.r [.ld 1 0 true (fun _ => Dat.cells (DFrac.mk (DBig.mk n1 ⟨l1, (G2 0).ss 0⟩) (DBig.mk 1 ⟨l2, (G2 0).ss 1⟩))),.ctT g0 1 53 [(kf true (.f 0) l1 (fun _ => (G2 0).ss 0)).a, (kf true (.f 1) l2 (fun _ => (G2 0).ss 1)).a] (fun _ G => base0_ct (1 : Int) n1 l1 ((G2 0).ss 0) (1 : Int) l2 ((G2 0).ss 1)),.st 0 (fun G => .blk ((G1 0).b) #[iv (1 : Int), iv 0, iv 0, iv 0, iv 0, iv 0, iv n1, ((G 1).ss 0).v, iv (1 : Int), ((G 1).ss 1).v] 32),.kb true] fun _ _ G5 kw5 => ?_
    intro S_ s_
    obtain ⟨⟨kl3, -⟩, ⟨kl4, -⟩, -⟩ : Lq l1 (((G5 1).ss 0).v) ∧ Lq l2 (((G5 1).ss 1).v) ∧ True := kn kw5 (by kernel_rfl)
    clear kw5
    have z9 : Fr.Fz n1 l1 1 l2 (((1 : Int)) : Rat) := by subst_vars; exact Un.intz _
    rw [← Fr.divInt1] at z9
    have e7 : l1 = Fr.rD ((Un.sym s).isSome = true) (Un.fv (Un.sym s)) := (Fr.Fz.ret z9 (Un.is_s hsy) (Un.fv_s hsy).symm).2.1
    subst e7
    have e9 : l2 = Fr.rE ((Un.sym s).isSome = true) (Un.fv (Un.sym s)) := (Fr.Fz.ret z9 (Un.is_s hsy) (Un.fv_s hsy).symm).2.2.2
    subst e9
    have e0 : (1 : Int) = Un.dv (Un.sym s) 0 := (Un.dv_s hsy 0).symm
    have e1 : (0 : Int) = Un.dv (Un.sym s) 1 := (Un.dv_s hsy 1).symm
    have e2 : (0 : Int) = Un.dv (Un.sym s) 2 := (Un.dv_s hsy 2).symm
    have e3 : (0 : Int) = Un.dv (Un.sym s) 3 := (Un.dv_s hsy 3).symm
    have e4 : (0 : Int) = Un.dv (Un.sym s) 4 := (Un.dv_s hsy 4).symm
    have e5 : (0 : Int) = Un.dv (Un.sym s) 5 := (Un.dv_s hsy 5).symm
    have e6 : n1 = Fr.rS ((Un.sym s).isSome = true) (Un.fv (Un.sym s)) := (Fr.Fz.ret z9 (Un.is_s hsy) (Un.fv_s hsy).symm).1
    have e8 : (1 : Int) = Fr.rT ((Un.sym s).isSome = true) := (Fr.Fz.ret z9 (Un.is_s hsy) (Un.fv_s hsy).symm).2.2.1
    have e10 : true = (Un.sym s).isSome := by rw [hsy]; rfl
    exact V.ret [0, 0] [(G5 1).ss 0, (G5 1).ss 1] [fun _ => {}, fun _ => {}] [] [2, 3] [] (.tuple #[.agg #[iv (1 : Int), iv 0, iv 0, iv 0, iv 0, iv 0, iv n1, ((G5 1).ss 0).v, iv (1 : Int), ((G5 1).ss 1).v], bv true]) (fun _ _ => by kernel_rfl) (fun _ _ => (Eq.trans (by kernel_rfl) (cong9 (fun (x0 : Int) (x1 : Int) (x2 : Int) (x3 : Int) (x4 : Int) (x5 : Int) (x6 : Int) (x8 : Int) (x10 : Bool) => (.tuple #[.agg #[iv x0, iv x1, iv x2, iv x3, iv x4, iv x5, iv x6, ((G5 1).ss 0).v, iv x8, ((G5 1).ss 1).v], bv x10] : Value)) e0 e1 e2 e3 e4 e5 e6 e8 e10)).trans (by kernel_rfl)) (fun _ _ => trivial)
  have hsn0 : ¬ s = ⟨#[103]⟩ := q2
  refine V.g [.seq s ⟨#[116]⟩,.k (bv (decide (s = ⟨#[116]⟩)))] fun _ _ G6 => ?_
  intro S_ s_
  refine V.cond (b := decide (s = ⟨#[116]⟩)) iDT iDF (by kernel_rfl) (fun q3 => ?_) (fun q4 => ?_)
  · have hsy : Un.sym s = some ([1, 0, 0, 0, 0, 0], Rat.divInt 1000000 1) := by rw [q3]; kernel_rfl
    refine nm (Bg.sgn (1000000 : Int) : Int) fun n2 hn2 => ?_
    refine nm (Bg.dig (1000000 : Int).natAbs : List Int) fun l3 hl3 => ?_
    have hl3n := congrArg List.length hl3
    refine V.r [.ct g0 0 16 false [] [] [] (fun _ G => r5int_ctv (1000000 : Int) (by omega) n2 hn2 l3 hl3 l2 hl2),.ctT g0 1 53 [(kf true (.g 0 0) l3 (fun G => (G 0).ss 0)).a, (kf true (.g 0 1) l2 (fun G => (G 0).ss 1)).a] (fun _ G => base0_ct (1 : Int) n2 l3 ((G 0).ss 0) (1 : Int) l2 ((G 0).ss 1)),.st 0 (fun G => .blk ((G1 0).b) #[iv (1 : Int), iv 0, iv 0, iv 0, iv 0, iv 0, iv n2, ((G 1).ss 0).v, iv (1 : Int), ((G 1).ss 1).v] 32),.kb true] fun _ _ G7 kw7 => ?_
    intro S_ s_
    obtain ⟨⟨kl5, -⟩, ⟨kl6, -⟩, ⟨kl7, -⟩, ⟨kl8, -⟩, -⟩ : Lq l3 (((G7 0).ss 0).v) ∧ Lq l2 (((G7 0).ss 1).v) ∧ Lq l3 (((G7 1).ss 0).v) ∧ Lq l2 (((G7 1).ss 1).v) ∧ True := kn kw7 (by kernel_rfl)
    clear kw7
    have z9 : Fr.Fz n2 l3 1 l2 (((1000000 : Int)) : Rat) := by subst_vars; exact Un.intz _
    rw [← Fr.divInt1] at z9
    have e7 : l3 = Fr.rD ((Un.sym s).isSome = true) (Un.fv (Un.sym s)) := (Fr.Fz.ret z9 (Un.is_s hsy) (Un.fv_s hsy).symm).2.1
    subst e7
    have e9 : l2 = Fr.rE ((Un.sym s).isSome = true) (Un.fv (Un.sym s)) := (Fr.Fz.ret z9 (Un.is_s hsy) (Un.fv_s hsy).symm).2.2.2
    subst e9
    have e0 : (1 : Int) = Un.dv (Un.sym s) 0 := (Un.dv_s hsy 0).symm
    have e1 : (0 : Int) = Un.dv (Un.sym s) 1 := (Un.dv_s hsy 1).symm
    have e2 : (0 : Int) = Un.dv (Un.sym s) 2 := (Un.dv_s hsy 2).symm
    have e3 : (0 : Int) = Un.dv (Un.sym s) 3 := (Un.dv_s hsy 3).symm
    have e4 : (0 : Int) = Un.dv (Un.sym s) 4 := (Un.dv_s hsy 4).symm
    have e5 : (0 : Int) = Un.dv (Un.sym s) 5 := (Un.dv_s hsy 5).symm
    have e6 : n2 = Fr.rS ((Un.sym s).isSome = true) (Un.fv (Un.sym s)) := (Fr.Fz.ret z9 (Un.is_s hsy) (Un.fv_s hsy).symm).1
    have e8 : (1 : Int) = Fr.rT ((Un.sym s).isSome = true) := (Fr.Fz.ret z9 (Un.is_s hsy) (Un.fv_s hsy).symm).2.2.1
    have e10 : true = (Un.sym s).isSome := by rw [hsy]; rfl
    exact V.ret [0, 0] [(G7 1).ss 0, (G7 1).ss 1] [fun _ => {}, fun _ => {}] [] [4, 5] [] (.tuple #[.agg #[iv (1 : Int), iv 0, iv 0, iv 0, iv 0, iv 0, iv n2, ((G7 1).ss 0).v, iv (1 : Int), ((G7 1).ss 1).v], bv true]) (fun _ _ => by kernel_rfl) (fun _ _ => (Eq.trans (by kernel_rfl) (cong9 (fun (x0 : Int) (x1 : Int) (x2 : Int) (x3 : Int) (x4 : Int) (x5 : Int) (x6 : Int) (x8 : Int) (x10 : Bool) => (.tuple #[.agg #[iv x0, iv x1, iv x2, iv x3, iv x4, iv x5, iv x6, ((G7 1).ss 0).v, iv x8, ((G7 1).ss 1).v], bv x10] : Value)) e0 e1 e2 e3 e4 e5 e6 e8 e10)).trans (by kernel_rfl)) (fun _ _ => trivial)
  have hsn1 : ¬ s = ⟨#[116]⟩ := q4
  refine V.g [.seq s ⟨#[109]⟩,.k (bv (decide (s = ⟨#[109]⟩)))] fun _ _ G8 => ?_
  intro S_ s_
  refine V.cond (b := decide (s = ⟨#[109]⟩)) iDT iDF (by kernel_rfl) (fun q5 => ?_) (fun q6 => ?_)
  · have hsy : Un.sym s = some ([0, 1, 0, 0, 0, 0], Rat.divInt 1 1) := by rw [q5]; kernel_rfl
    refine V.r [.ld 1 0 true (fun _ => Dat.cells (DFrac.mk (DBig.mk n1 ⟨l1, (G2 0).ss 0⟩) (DBig.mk 1 ⟨l2, (G2 0).ss 1⟩))),.ctT g0 1 53 [(kf true (.f 0) l1 (fun _ => (G2 0).ss 0)).a, (kf true (.f 1) l2 (fun _ => (G2 0).ss 1)).a] (fun _ G => base1_ct (1 : Int) n1 l1 ((G2 0).ss 0) (1 : Int) l2 ((G2 0).ss 1)),.st 0 (fun G => .blk ((G1 0).b) #[iv 0, iv (1 : Int), iv 0, iv 0, iv 0, iv 0, iv n1, ((G 1).ss 0).v, iv (1 : Int), ((G 1).ss 1).v] 32),.kb true] fun _ _ G9 kw9 => ?_
    intro S_ s_
    obtain ⟨⟨kl9, -⟩, ⟨kl10, -⟩, -⟩ : Lq l1 (((G9 1).ss 0).v) ∧ Lq l2 (((G9 1).ss 1).v) ∧ True := kn kw9 (by kernel_rfl)
    clear kw9
    have z9 : Fr.Fz n1 l1 1 l2 (((1 : Int)) : Rat) := by subst_vars; exact Un.intz _
    rw [← Fr.divInt1] at z9
    have e7 : l1 = Fr.rD ((Un.sym s).isSome = true) (Un.fv (Un.sym s)) := (Fr.Fz.ret z9 (Un.is_s hsy) (Un.fv_s hsy).symm).2.1
    subst e7
    have e9 : l2 = Fr.rE ((Un.sym s).isSome = true) (Un.fv (Un.sym s)) := (Fr.Fz.ret z9 (Un.is_s hsy) (Un.fv_s hsy).symm).2.2.2
    subst e9
    have e0 : (0 : Int) = Un.dv (Un.sym s) 0 := (Un.dv_s hsy 0).symm
    have e1 : (1 : Int) = Un.dv (Un.sym s) 1 := (Un.dv_s hsy 1).symm
    have e2 : (0 : Int) = Un.dv (Un.sym s) 2 := (Un.dv_s hsy 2).symm
    have e3 : (0 : Int) = Un.dv (Un.sym s) 3 := (Un.dv_s hsy 3).symm
    have e4 : (0 : Int) = Un.dv (Un.sym s) 4 := (Un.dv_s hsy 4).symm
    have e5 : (0 : Int) = Un.dv (Un.sym s) 5 := (Un.dv_s hsy 5).symm
    have e6 : n1 = Fr.rS ((Un.sym s).isSome = true) (Un.fv (Un.sym s)) := (Fr.Fz.ret z9 (Un.is_s hsy) (Un.fv_s hsy).symm).1
    have e8 : (1 : Int) = Fr.rT ((Un.sym s).isSome = true) := (Fr.Fz.ret z9 (Un.is_s hsy) (Un.fv_s hsy).symm).2.2.1
    have e10 : true = (Un.sym s).isSome := by rw [hsy]; rfl
    exact V.ret [0, 0] [(G9 1).ss 0, (G9 1).ss 1] [fun _ => {}, fun _ => {}] [] [2, 3] [] (.tuple #[.agg #[iv 0, iv (1 : Int), iv 0, iv 0, iv 0, iv 0, iv n1, ((G9 1).ss 0).v, iv (1 : Int), ((G9 1).ss 1).v], bv true]) (fun _ _ => by kernel_rfl) (fun _ _ => (Eq.trans (by kernel_rfl) (cong9 (fun (x0 : Int) (x1 : Int) (x2 : Int) (x3 : Int) (x4 : Int) (x5 : Int) (x6 : Int) (x8 : Int) (x10 : Bool) => (.tuple #[.agg #[iv x0, iv x1, iv x2, iv x3, iv x4, iv x5, iv x6, ((G9 1).ss 0).v, iv x8, ((G9 1).ss 1).v], bv x10] : Value)) e0 e1 e2 e3 e4 e5 e6 e8 e10)).trans (by kernel_rfl)) (fun _ _ => trivial)
  have hsn2 : ¬ s = ⟨#[109]⟩ := q6
  refine V.g [.seq s ⟨#[108]⟩,.k (bv (decide (s = ⟨#[108]⟩)))] fun _ _ G10 => ?_
  intro S_ s_
  refine V.cond (b := decide (s = ⟨#[108]⟩)) iDT iDF (by kernel_rfl) (fun q7 => ?_) (fun q8 => ?_)
  · have hsy : Un.sym s = some ([0, 3, 0, 0, 0, 0], Rat.divInt 1 1000) := by rw [q7]; kernel_rfl
    refine nm (Fr.rS ((1000 : Int) ≠ 0) (Rat.divInt (1 : Int) (1000 : Int)) : Int) fun n3 hn3 => ?_
    refine nm (Fr.rD ((1000 : Int) ≠ 0) (Rat.divInt (1 : Int) (1000 : Int)) : List Int) fun l4 hl4 => ?_
    have hl4n := congrArg List.length hl4
    refine nm (Fr.rT ((1000 : Int) ≠ 0) : Int) fun n4 hn4 => ?_
    refine nm (Fr.rE ((1000 : Int) ≠ 0) (Rat.divInt (1 : Int) (1000 : Int)) : List Int) fun l5 hl5 => ?_
    have hl5n := congrArg List.length hl5
    refine V.r [.ct g0 0 54 false [] [] [] (fun _ G => frac9_ctv (1 : Int) (1000 : Int) (by omega) (by omega) n3 hn3 l4 hl4 n4 hn4 l5 hl5),.ctT g0 1 53 [(kf true (.g 0 0) l4 (fun G => (G 0).ss 0)).a, (kf true (.g 0 1) l5 (fun G => (G 0).ss 1)).a] (fun _ G => base1_ct (3 : Int) n3 l4 ((G 0).ss 0) n4 l5 ((G 0).ss 1)),.st 0 (fun G => .blk ((G1 0).b) #[iv 0, iv (3 : Int), iv 0, iv 0, iv 0, iv 0, iv n3, ((G 1).ss 0).v, iv n4, ((G 1).ss 1).v] 32),.kb true] fun _ _ G11 kw11 => ?_
    intro S_ s_
    obtain ⟨⟨kl11, -⟩, ⟨kl12, -⟩, ⟨kl13, -⟩, ⟨kl14, -⟩, -⟩ : Lq l4 (((G11 0).ss 0).v) ∧ Lq l5 (((G11 0).ss 1).v) ∧ Lq l4 (((G11 1).ss 0).v) ∧ Lq l5 (((G11 1).ss 1).v) ∧ True := kn kw11 (by kernel_rfl)
    clear kw11
    have e7 : l4 = Fr.rD ((Un.sym s).isSome = true) (Un.fv (Un.sym s)) := (Fr.Fz.ret (Fr.Fz.of (show (1000 : Int) ≠ 0 by decide) hn3 hl4 hn4 hl5) (Un.is_s hsy) (Un.fv_s hsy).symm).2.1
    subst e7
    have e9 : l5 = Fr.rE ((Un.sym s).isSome = true) (Un.fv (Un.sym s)) := (Fr.Fz.ret (Fr.Fz.of (show (1000 : Int) ≠ 0 by decide) hn3 hl4 hn4 hl5) (Un.is_s hsy) (Un.fv_s hsy).symm).2.2.2
    subst e9
    have e0 : (0 : Int) = Un.dv (Un.sym s) 0 := (Un.dv_s hsy 0).symm
    have e1 : (3 : Int) = Un.dv (Un.sym s) 1 := (Un.dv_s hsy 1).symm
    have e2 : (0 : Int) = Un.dv (Un.sym s) 2 := (Un.dv_s hsy 2).symm
    have e3 : (0 : Int) = Un.dv (Un.sym s) 3 := (Un.dv_s hsy 3).symm
    have e4 : (0 : Int) = Un.dv (Un.sym s) 4 := (Un.dv_s hsy 4).symm
    have e5 : (0 : Int) = Un.dv (Un.sym s) 5 := (Un.dv_s hsy 5).symm
    have e6 : n3 = Fr.rS ((Un.sym s).isSome = true) (Un.fv (Un.sym s)) := (Fr.Fz.ret (Fr.Fz.of (show (1000 : Int) ≠ 0 by decide) hn3 hl4 hn4 hl5) (Un.is_s hsy) (Un.fv_s hsy).symm).1
    have e8 : n4 = Fr.rT ((Un.sym s).isSome = true) := (Fr.Fz.ret (Fr.Fz.of (show (1000 : Int) ≠ 0 by decide) hn3 hl4 hn4 hl5) (Un.is_s hsy) (Un.fv_s hsy).symm).2.2.1
    have e10 : true = (Un.sym s).isSome := by rw [hsy]; rfl
    exact V.ret [0, 0] [(G11 1).ss 0, (G11 1).ss 1] [fun _ => {}, fun _ => {}] [] [4, 5] [] (.tuple #[.agg #[iv 0, iv (3 : Int), iv 0, iv 0, iv 0, iv 0, iv n3, ((G11 1).ss 0).v, iv n4, ((G11 1).ss 1).v], bv true]) (fun _ _ => by kernel_rfl) (fun _ _ => (Eq.trans (by kernel_rfl) (cong9 (fun (x0 : Int) (x1 : Int) (x2 : Int) (x3 : Int) (x4 : Int) (x5 : Int) (x6 : Int) (x8 : Int) (x10 : Bool) => (.tuple #[.agg #[iv x0, iv x1, iv x2, iv x3, iv x4, iv x5, iv x6, ((G11 1).ss 0).v, iv x8, ((G11 1).ss 1).v], bv x10] : Value)) e0 e1 e2 e3 e4 e5 e6 e8 e10)).trans (by kernel_rfl)) (fun _ _ => trivial)
  have hsn3 : ¬ s = ⟨#[108]⟩ := q8
  refine V.g [.seq s ⟨#[115]⟩,.k (bv (decide (s = ⟨#[115]⟩)))] fun _ _ G12 => ?_
  intro S_ s_
  refine V.cond (b := decide (s = ⟨#[115]⟩)) iDT iDF (by kernel_rfl) (fun q9 => ?_) (fun q10 => ?_)
  · have hsy : Un.sym s = some ([0, 0, 1, 0, 0, 0], Rat.divInt 1 1) := by rw [q9]; kernel_rfl
    refine V.r [.ld 1 0 true (fun _ => Dat.cells (DFrac.mk (DBig.mk n1 ⟨l1, (G2 0).ss 0⟩) (DBig.mk 1 ⟨l2, (G2 0).ss 1⟩))),.ctT g0 1 53 [(kf true (.f 0) l1 (fun _ => (G2 0).ss 0)).a, (kf true (.f 1) l2 (fun _ => (G2 0).ss 1)).a] (fun _ G => base2_ct (1 : Int) n1 l1 ((G2 0).ss 0) (1 : Int) l2 ((G2 0).ss 1)),.st 0 (fun G => .blk ((G1 0).b) #[iv 0, iv 0, iv (1 : Int), iv 0, iv 0, iv 0, iv n1, ((G 1).ss 0).v, iv (1 : Int), ((G 1).ss 1).v] 32),.kb true] fun _ _ G13 kw13 => ?_
    intro S_ s_
    obtain ⟨⟨kl15, -⟩, ⟨kl16, -⟩, -⟩ : Lq l1 (((G13 1).ss 0).v) ∧ Lq l2 (((G13 1).ss 1).v) ∧ True := kn kw13 (by kernel_rfl)
    clear kw13
    have z9 : Fr.Fz n1 l1 1 l2 (((1 : Int)) : Rat) := by subst_vars; exact Un.intz _
    rw [← Fr.divInt1] at z9
    have e7 : l1 = Fr.rD ((Un.sym s).isSome = true) (Un.fv (Un.sym s)) := (Fr.Fz.ret z9 (Un.is_s hsy) (Un.fv_s hsy).symm).2.1
    subst e7
    have e9 : l2 = Fr.rE ((Un.sym s).isSome = true) (Un.fv (Un.sym s)) := (Fr.Fz.ret z9 (Un.is_s hsy) (Un.fv_s hsy).symm).2.2.2
    subst e9
    have e0 : (0 : Int) = Un.dv (Un.sym s) 0 := (Un.dv_s hsy 0).symm
    have e1 : (0 : Int) = Un.dv (Un.sym s) 1 := (Un.dv_s hsy 1).symm
    have e2 : (1 : Int) = Un.dv (Un.sym s) 2 := (Un.dv_s hsy 2).symm
    have e3 : (0 : Int) = Un.dv (Un.sym s) 3 := (Un.dv_s hsy 3).symm
    have e4 : (0 : Int) = Un.dv (Un.sym s) 4 := (Un.dv_s hsy 4).symm
    have e5 : (0 : Int) = Un.dv (Un.sym s) 5 := (Un.dv_s hsy 5).symm
    have e6 : n1 = Fr.rS ((Un.sym s).isSome = true) (Un.fv (Un.sym s)) := (Fr.Fz.ret z9 (Un.is_s hsy) (Un.fv_s hsy).symm).1
    have e8 : (1 : Int) = Fr.rT ((Un.sym s).isSome = true) := (Fr.Fz.ret z9 (Un.is_s hsy) (Un.fv_s hsy).symm).2.2.1
    have e10 : true = (Un.sym s).isSome := by rw [hsy]; rfl
    exact V.ret [0, 0] [(G13 1).ss 0, (G13 1).ss 1] [fun _ => {}, fun _ => {}] [] [2, 3] [] (.tuple #[.agg #[iv 0, iv 0, iv (1 : Int), iv 0, iv 0, iv 0, iv n1, ((G13 1).ss 0).v, iv (1 : Int), ((G13 1).ss 1).v], bv true]) (fun _ _ => by kernel_rfl) (fun _ _ => (Eq.trans (by kernel_rfl) (cong9 (fun (x0 : Int) (x1 : Int) (x2 : Int) (x3 : Int) (x4 : Int) (x5 : Int) (x6 : Int) (x8 : Int) (x10 : Bool) => (.tuple #[.agg #[iv x0, iv x1, iv x2, iv x3, iv x4, iv x5, iv x6, ((G13 1).ss 0).v, iv x8, ((G13 1).ss 1).v], bv x10] : Value)) e0 e1 e2 e3 e4 e5 e6 e8 e10)).trans (by kernel_rfl)) (fun _ _ => trivial)
  have hsn4 : ¬ s = ⟨#[115]⟩ := q10
  refine V.g [.seq s ⟨#[104]⟩,.k (bv (decide (s = ⟨#[104]⟩)))] fun _ _ G14 => ?_
  intro S_ s_
  refine V.cond (b := decide (s = ⟨#[104]⟩)) iDT iDF (by kernel_rfl) (fun q11 => ?_) (fun q12 => ?_)
  · have hsy : Un.sym s = some ([0, 0, 1, 0, 0, 0], Rat.divInt 3600 1) := by rw [q11]; kernel_rfl
    refine nm (Bg.sgn (3600 : Int) : Int) fun n5 hn5 => ?_
    refine nm (Bg.dig (3600 : Int).natAbs : List Int) fun l6 hl6 => ?_
    have hl6n := congrArg List.length hl6
    refine V.r [.ct g0 0 16 false [] [] [] (fun _ G => r5int_ctv (3600 : Int) (by omega) n5 hn5 l6 hl6 l2 hl2),.ctT g0 1 53 [(kf true (.g 0 0) l6 (fun G => (G 0).ss 0)).a, (kf true (.g 0 1) l2 (fun G => (G 0).ss 1)).a] (fun _ G => base2_ct (1 : Int) n5 l6 ((G 0).ss 0) (1 : Int) l2 ((G 0).ss 1)),.st 0 (fun G => .blk ((G1 0).b) #[iv 0, iv 0, iv (1 : Int), iv 0, iv 0, iv 0, iv n5, ((G 1).ss 0).v, iv (1 : Int), ((G 1).ss 1).v] 32),.kb true] fun _ _ G15 kw15 => ?_
    intro S_ s_
    obtain ⟨⟨kl17, -⟩, ⟨kl18, -⟩, ⟨kl19, -⟩, ⟨kl20, -⟩, -⟩ : Lq l6 (((G15 0).ss 0).v) ∧ Lq l2 (((G15 0).ss 1).v) ∧ Lq l6 (((G15 1).ss 0).v) ∧ Lq l2 (((G15 1).ss 1).v) ∧ True := kn kw15 (by kernel_rfl)
    clear kw15
    have z9 : Fr.Fz n5 l6 1 l2 (((3600 : Int)) : Rat) := by subst_vars; exact Un.intz _
    rw [← Fr.divInt1] at z9
    have e7 : l6 = Fr.rD ((Un.sym s).isSome = true) (Un.fv (Un.sym s)) := (Fr.Fz.ret z9 (Un.is_s hsy) (Un.fv_s hsy).symm).2.1
    subst e7
    have e9 : l2 = Fr.rE ((Un.sym s).isSome = true) (Un.fv (Un.sym s)) := (Fr.Fz.ret z9 (Un.is_s hsy) (Un.fv_s hsy).symm).2.2.2
    subst e9
    have e0 : (0 : Int) = Un.dv (Un.sym s) 0 := (Un.dv_s hsy 0).symm
    have e1 : (0 : Int) = Un.dv (Un.sym s) 1 := (Un.dv_s hsy 1).symm
    have e2 : (1 : Int) = Un.dv (Un.sym s) 2 := (Un.dv_s hsy 2).symm
    have e3 : (0 : Int) = Un.dv (Un.sym s) 3 := (Un.dv_s hsy 3).symm
    have e4 : (0 : Int) = Un.dv (Un.sym s) 4 := (Un.dv_s hsy 4).symm
    have e5 : (0 : Int) = Un.dv (Un.sym s) 5 := (Un.dv_s hsy 5).symm
    have e6 : n5 = Fr.rS ((Un.sym s).isSome = true) (Un.fv (Un.sym s)) := (Fr.Fz.ret z9 (Un.is_s hsy) (Un.fv_s hsy).symm).1
    have e8 : (1 : Int) = Fr.rT ((Un.sym s).isSome = true) := (Fr.Fz.ret z9 (Un.is_s hsy) (Un.fv_s hsy).symm).2.2.1
    have e10 : true = (Un.sym s).isSome := by rw [hsy]; rfl
    exact V.ret [0, 0] [(G15 1).ss 0, (G15 1).ss 1] [fun _ => {}, fun _ => {}] [] [4, 5] [] (.tuple #[.agg #[iv 0, iv 0, iv (1 : Int), iv 0, iv 0, iv 0, iv n5, ((G15 1).ss 0).v, iv (1 : Int), ((G15 1).ss 1).v], bv true]) (fun _ _ => by kernel_rfl) (fun _ _ => (Eq.trans (by kernel_rfl) (cong9 (fun (x0 : Int) (x1 : Int) (x2 : Int) (x3 : Int) (x4 : Int) (x5 : Int) (x6 : Int) (x8 : Int) (x10 : Bool) => (.tuple #[.agg #[iv x0, iv x1, iv x2, iv x3, iv x4, iv x5, iv x6, ((G15 1).ss 0).v, iv x8, ((G15 1).ss 1).v], bv x10] : Value)) e0 e1 e2 e3 e4 e5 e6 e8 e10)).trans (by kernel_rfl)) (fun _ _ => trivial)
  have hsn5 : ¬ s = ⟨#[104]⟩ := q12
  refine V.g [.seq s ⟨#[100]⟩,.k (bv (decide (s = ⟨#[100]⟩)))] fun _ _ G16 => ?_
  intro S_ s_
  refine V.cond (b := decide (s = ⟨#[100]⟩)) iDT iDF (by kernel_rfl) (fun q13 => ?_) (fun q14 => ?_)
  · have hsy : Un.sym s = some ([0, 0, 1, 0, 0, 0], Rat.divInt 86400 1) := by rw [q13]; kernel_rfl
    refine nm (Bg.sgn (86400 : Int) : Int) fun n6 hn6 => ?_
    refine nm (Bg.dig (86400 : Int).natAbs : List Int) fun l7 hl7 => ?_
    have hl7n := congrArg List.length hl7
    refine V.r [.ct g0 0 16 false [] [] [] (fun _ G => r5int_ctv (86400 : Int) (by omega) n6 hn6 l7 hl7 l2 hl2),.ctT g0 1 53 [(kf true (.g 0 0) l7 (fun G => (G 0).ss 0)).a, (kf true (.g 0 1) l2 (fun G => (G 0).ss 1)).a] (fun _ G => base2_ct (1 : Int) n6 l7 ((G 0).ss 0) (1 : Int) l2 ((G 0).ss 1)),.st 0 (fun G => .blk ((G1 0).b) #[iv 0, iv 0, iv (1 : Int), iv 0, iv 0, iv 0, iv n6, ((G 1).ss 0).v, iv (1 : Int), ((G 1).ss 1).v] 32),.kb true] fun _ _ G17 kw17 => ?_
    intro S_ s_
    obtain ⟨⟨kl21, -⟩, ⟨kl22, -⟩, ⟨kl23, -⟩, ⟨kl24, -⟩, -⟩ : Lq l7 (((G17 0).ss 0).v) ∧ Lq l2 (((G17 0).ss 1).v) ∧ Lq l7 (((G17 1).ss 0).v) ∧ Lq l2 (((G17 1).ss 1).v) ∧ True := kn kw17 (by kernel_rfl)
    clear kw17
    have z9 : Fr.Fz n6 l7 1 l2 (((86400 : Int)) : Rat) := by subst_vars; exact Un.intz _
    rw [← Fr.divInt1] at z9
    have e7 : l7 = Fr.rD ((Un.sym s).isSome = true) (Un.fv (Un.sym s)) := (Fr.Fz.ret z9 (Un.is_s hsy) (Un.fv_s hsy).symm).2.1
    subst e7
    have e9 : l2 = Fr.rE ((Un.sym s).isSome = true) (Un.fv (Un.sym s)) := (Fr.Fz.ret z9 (Un.is_s hsy) (Un.fv_s hsy).symm).2.2.2
    subst e9
    have e0 : (0 : Int) = Un.dv (Un.sym s) 0 := (Un.dv_s hsy 0).symm
    have e1 : (0 : Int) = Un.dv (Un.sym s) 1 := (Un.dv_s hsy 1).symm
    have e2 : (1 : Int) = Un.dv (Un.sym s) 2 := (Un.dv_s hsy 2).symm
    have e3 : (0 : Int) = Un.dv (Un.sym s) 3 := (Un.dv_s hsy 3).symm
    have e4 : (0 : Int) = Un.dv (Un.sym s) 4 := (Un.dv_s hsy 4).symm
    have e5 : (0 : Int) = Un.dv (Un.sym s) 5 := (Un.dv_s hsy 5).symm
    have e6 : n6 = Fr.rS ((Un.sym s).isSome = true) (Un.fv (Un.sym s)) := (Fr.Fz.ret z9 (Un.is_s hsy) (Un.fv_s hsy).symm).1
    have e8 : (1 : Int) = Fr.rT ((Un.sym s).isSome = true) := (Fr.Fz.ret z9 (Un.is_s hsy) (Un.fv_s hsy).symm).2.2.1
    have e10 : true = (Un.sym s).isSome := by rw [hsy]; rfl
    exact V.ret [0, 0] [(G17 1).ss 0, (G17 1).ss 1] [fun _ => {}, fun _ => {}] [] [4, 5] [] (.tuple #[.agg #[iv 0, iv 0, iv (1 : Int), iv 0, iv 0, iv 0, iv n6, ((G17 1).ss 0).v, iv (1 : Int), ((G17 1).ss 1).v], bv true]) (fun _ _ => by kernel_rfl) (fun _ _ => (Eq.trans (by kernel_rfl) (cong9 (fun (x0 : Int) (x1 : Int) (x2 : Int) (x3 : Int) (x4 : Int) (x5 : Int) (x6 : Int) (x8 : Int) (x10 : Bool) => (.tuple #[.agg #[iv x0, iv x1, iv x2, iv x3, iv x4, iv x5, iv x6, ((G17 1).ss 0).v, iv x8, ((G17 1).ss 1).v], bv x10] : Value)) e0 e1 e2 e3 e4 e5 e6 e8 e10)).trans (by kernel_rfl)) (fun _ _ => trivial)
  have hsn6 : ¬ s = ⟨#[100]⟩ := q14
  refine V.g [.seq s ⟨#[74]⟩,.k (bv (decide (s = ⟨#[74]⟩)))] fun _ _ G18 => ?_
  intro S_ s_
  refine V.cond (b := decide (s = ⟨#[74]⟩)) iDT iDF (by kernel_rfl) (fun q15 => ?_) (fun q16 => ?_)
  · have hsy : Un.sym s = some ([0, 0, 0, 1, 0, 0], Rat.divInt 1 1) := by rw [q15]; kernel_rfl
    refine V.r [.ld 1 0 true (fun _ => Dat.cells (DFrac.mk (DBig.mk n1 ⟨l1, (G2 0).ss 0⟩) (DBig.mk 1 ⟨l2, (G2 0).ss 1⟩))),.ctT g0 1 53 [(kf true (.f 0) l1 (fun _ => (G2 0).ss 0)).a, (kf true (.f 1) l2 (fun _ => (G2 0).ss 1)).a] (fun _ G => base3_ct (1 : Int) n1 l1 ((G2 0).ss 0) (1 : Int) l2 ((G2 0).ss 1)),.st 0 (fun G => .blk ((G1 0).b) #[iv 0, iv 0, iv 0, iv (1 : Int), iv 0, iv 0, iv n1, ((G 1).ss 0).v, iv (1 : Int), ((G 1).ss 1).v] 32),.kb true] fun _ _ G19 kw19 => ?_
    intro S_ s_
    obtain ⟨⟨kl25, -⟩, ⟨kl26, -⟩, -⟩ : Lq l1 (((G19 1).ss 0).v) ∧ Lq l2 (((G19 1).ss 1).v) ∧ True := kn kw19 (by kernel_rfl)
    clear kw19
    have z9 : Fr.Fz n1 l1 1 l2 (((1 : Int)) : Rat) := by subst_vars; exact Un.intz _
    rw [← Fr.divInt1] at z9
    have e7 : l1 = Fr.rD ((Un.sym s).isSome = true) (Un.fv (Un.sym s)) := (Fr.Fz.ret z9 (Un.is_s hsy) (Un.fv_s hsy).symm).2.1
    subst e7
    have e9 : l2 = Fr.rE ((Un.sym s).isSome = true) (Un.fv (Un.sym s)) := (Fr.Fz.ret z9 (Un.is_s hsy) (Un.fv_s hsy).symm).2.2.2
    subst e9
    have e0 : (0 : Int) = Un.dv (Un.sym s) 0 := (Un.dv_s hsy 0).symm
    have e1 : (0 : Int) = Un.dv (Un.sym s) 1 := (Un.dv_s hsy 1).symm
    have e2 : (0 : Int) = Un.dv (Un.sym s) 2 := (Un.dv_s hsy 2).symm
    have e3 : (1 : Int) = Un.dv (Un.sym s) 3 := (Un.dv_s hsy 3).symm
    have e4 : (0 : Int) = Un.dv (Un.sym s) 4 := (Un.dv_s hsy 4).symm
    have e5 : (0 : Int) = Un.dv (Un.sym s) 5 := (Un.dv_s hsy 5).symm
    have e6 : n1 = Fr.rS ((Un.sym s).isSome = true) (Un.fv (Un.sym s)) := (Fr.Fz.ret z9 (Un.is_s hsy) (Un.fv_s hsy).symm).1
    have e8 : (1 : Int) = Fr.rT ((Un.sym s).isSome = true) := (Fr.Fz.ret z9 (Un.is_s hsy) (Un.fv_s hsy).symm).2.2.1
    have e10 : true = (Un.sym s).isSome := by rw [hsy]; rfl
    exact V.ret [0, 0] [(G19 1).ss 0, (G19 1).ss 1] [fun _ => {}, fun _ => {}] [] [2, 3] [] (.tuple #[.agg #[iv 0, iv 0, iv 0, iv (1 : Int), iv 0, iv 0, iv n1, ((G19 1).ss 0).v, iv (1 : Int), ((G19 1).ss 1).v], bv true]) (fun _ _ => by kernel_rfl) (fun _ _ => (Eq.trans (by kernel_rfl) (cong9 (fun (x0 : Int) (x1 : Int) (x2 : Int) (x3 : Int) (x4 : Int) (x5 : Int) (x6 : Int) (x8 : Int) (x10 : Bool) => (.tuple #[.agg #[iv x0, iv x1, iv x2, iv x3, iv x4, iv x5, iv x6, ((G19 1).ss 0).v, iv x8, ((G19 1).ss 1).v], bv x10] : Value)) e0 e1 e2 e3 e4 e5 e6 e8 e10)).trans (by kernel_rfl)) (fun _ _ => trivial)
  have hsn7 : ¬ s = ⟨#[74]⟩ := q16
  refine V.g [.seq s ⟨#[87, 104]⟩,.k (bv (decide (s = ⟨#[87, 104]⟩)))] fun _ _ G20 => ?_
  intro S_ s_
  refine V.cond (b := decide (s = ⟨#[87, 104]⟩)) iDT iDF (by kernel_rfl) (fun q17 => ?_) (fun q18 => ?_)
  · have hsy : Un.sym s = some ([0, 0, 0, 1, 0, 0], Rat.divInt 3600 1) := by rw [q17]; kernel_rfl
    refine nm (Bg.sgn (3600 : Int) : Int) fun n7 hn7 => ?_
    refine nm (Bg.dig (3600 : Int).natAbs : List Int) fun l8 hl8 => ?_
    have hl8n := congrArg List.length hl8
    refine V.r [.ct g0 0 16 false [] [] [] (fun _ G => r5int_ctv (3600 : Int) (by omega) n7 hn7 l8 hl8 l2 hl2),.ctT g0 1 53 [(kf true (.g 0 0) l8 (fun G => (G 0).ss 0)).a, (kf true (.g 0 1) l2 (fun G => (G 0).ss 1)).a] (fun _ G => base3_ct (1 : Int) n7 l8 ((G 0).ss 0) (1 : Int) l2 ((G 0).ss 1)),.st 0 (fun G => .blk ((G1 0).b) #[iv 0, iv 0, iv 0, iv (1 : Int), iv 0, iv 0, iv n7, ((G 1).ss 0).v, iv (1 : Int), ((G 1).ss 1).v] 32),.kb true] fun _ _ G21 kw21 => ?_
    intro S_ s_
    obtain ⟨⟨kl27, -⟩, ⟨kl28, -⟩, ⟨kl29, -⟩, ⟨kl30, -⟩, -⟩ : Lq l8 (((G21 0).ss 0).v) ∧ Lq l2 (((G21 0).ss 1).v) ∧ Lq l8 (((G21 1).ss 0).v) ∧ Lq l2 (((G21 1).ss 1).v) ∧ True := kn kw21 (by kernel_rfl)
    clear kw21
    have z9 : Fr.Fz n7 l8 1 l2 (((3600 : Int)) : Rat) := by subst_vars; exact Un.intz _
    rw [← Fr.divInt1] at z9
    have e7 : l8 = Fr.rD ((Un.sym s).isSome = true) (Un.fv (Un.sym s)) := (Fr.Fz.ret z9 (Un.is_s hsy) (Un.fv_s hsy).symm).2.1
    subst e7
    have e9 : l2 = Fr.rE ((Un.sym s).isSome = true) (Un.fv (Un.sym s)) := (Fr.Fz.ret z9 (Un.is_s hsy) (Un.fv_s hsy).symm).2.2.2
    subst e9
    have e0 : (0 : Int) = Un.dv (Un.sym s) 0 := (Un.dv_s hsy 0).symm
    have e1 : (0 : Int) = Un.dv (Un.sym s) 1 := (Un.dv_s hsy 1).symm
    have e2 : (0 : Int) = Un.dv (Un.sym s) 2 := (Un.dv_s hsy 2).symm
    have e3 : (1 : Int) = Un.dv (Un.sym s) 3 := (Un.dv_s hsy 3).symm
    have e4 : (0 : Int) = Un.dv (Un.sym s) 4 := (Un.dv_s hsy 4).symm
    have e5 : (0 : Int) = Un.dv (Un.sym s) 5 := (Un.dv_s hsy 5).symm
    have e6 : n7 = Fr.rS ((Un.sym s).isSome = true) (Un.fv (Un.sym s)) := (Fr.Fz.ret z9 (Un.is_s hsy) (Un.fv_s hsy).symm).1
    have e8 : (1 : Int) = Fr.rT ((Un.sym s).isSome = true) := (Fr.Fz.ret z9 (Un.is_s hsy) (Un.fv_s hsy).symm).2.2.1
    have e10 : true = (Un.sym s).isSome := by rw [hsy]; rfl
    exact V.ret [0, 0] [(G21 1).ss 0, (G21 1).ss 1] [fun _ => {}, fun _ => {}] [] [4, 5] [] (.tuple #[.agg #[iv 0, iv 0, iv 0, iv (1 : Int), iv 0, iv 0, iv n7, ((G21 1).ss 0).v, iv (1 : Int), ((G21 1).ss 1).v], bv true]) (fun _ _ => by kernel_rfl) (fun _ _ => (Eq.trans (by kernel_rfl) (cong9 (fun (x0 : Int) (x1 : Int) (x2 : Int) (x3 : Int) (x4 : Int) (x5 : Int) (x6 : Int) (x8 : Int) (x10 : Bool) => (.tuple #[.agg #[iv x0, iv x1, iv x2, iv x3, iv x4, iv x5, iv x6, ((G21 1).ss 0).v, iv x8, ((G21 1).ss 1).v], bv x10] : Value)) e0 e1 e2 e3 e4 e5 e6 e8 e10)).trans (by kernel_rfl)) (fun _ _ => trivial)
  have hsn8 : ¬ s = ⟨#[87, 104]⟩ := q18
  refine V.g [.seq s ⟨#[99, 101, 110, 116]⟩,.k (bv (decide (s = ⟨#[99, 101, 110, 116]⟩)))] fun _ _ G22 => ?_
  intro S_ s_
  refine V.cond (b := decide (s = ⟨#[99, 101, 110, 116]⟩)) iDT iDF (by kernel_rfl) (fun q19 => ?_) (fun q20 => ?_)
  · have hsy : Un.sym s = some ([0, 0, 0, 0, 1, 0], Rat.divInt 1 1) := by rw [q19]; kernel_rfl
    refine V.r [.ld 1 0 true (fun _ => Dat.cells (DFrac.mk (DBig.mk n1 ⟨l1, (G2 0).ss 0⟩) (DBig.mk 1 ⟨l2, (G2 0).ss 1⟩))),.ctT g0 1 53 [(kf true (.f 0) l1 (fun _ => (G2 0).ss 0)).a, (kf true (.f 1) l2 (fun _ => (G2 0).ss 1)).a] (fun _ G => base4_ct (1 : Int) n1 l1 ((G2 0).ss 0) (1 : Int) l2 ((G2 0).ss 1)),.st 0 (fun G => .blk ((G1 0).b) #[iv 0, iv 0, iv 0, iv 0, iv (1 : Int), iv 0, iv n1, ((G 1).ss 0).v, iv (1 : Int), ((G 1).ss 1).v] 32),.kb true] fun _ _ G23 kw23 => ?_
    intro S_ s_
    obtain ⟨⟨kl31, -⟩, ⟨kl32, -⟩, -⟩ : Lq l1 (((G23 1).ss 0).v) ∧ Lq l2 (((G23 1).ss 1).v) ∧ True := kn kw23 (by kernel_rfl)
    clear kw23
    have z9 : Fr.Fz n1 l1 1 l2 (((1 : Int)) : Rat) := by subst_vars; exact Un.intz _
    rw [← Fr.divInt1] at z9
    have e7 : l1 = Fr.rD ((Un.sym s).isSome = true) (Un.fv (Un.sym s)) := (Fr.Fz.ret z9 (Un.is_s hsy) (Un.fv_s hsy).symm).2.1
    subst e7
    have e9 : l2 = Fr.rE ((Un.sym s).isSome = true) (Un.fv (Un.sym s)) := (Fr.Fz.ret z9 (Un.is_s hsy) (Un.fv_s hsy).symm).2.2.2
    subst e9
    have e0 : (0 : Int) = Un.dv (Un.sym s) 0 := (Un.dv_s hsy 0).symm
    have e1 : (0 : Int) = Un.dv (Un.sym s) 1 := (Un.dv_s hsy 1).symm
    have e2 : (0 : Int) = Un.dv (Un.sym s) 2 := (Un.dv_s hsy 2).symm
    have e3 : (0 : Int) = Un.dv (Un.sym s) 3 := (Un.dv_s hsy 3).symm
    have e4 : (1 : Int) = Un.dv (Un.sym s) 4 := (Un.dv_s hsy 4).symm
    have e5 : (0 : Int) = Un.dv (Un.sym s) 5 := (Un.dv_s hsy 5).symm
    have e6 : n1 = Fr.rS ((Un.sym s).isSome = true) (Un.fv (Un.sym s)) := (Fr.Fz.ret z9 (Un.is_s hsy) (Un.fv_s hsy).symm).1
    have e8 : (1 : Int) = Fr.rT ((Un.sym s).isSome = true) := (Fr.Fz.ret z9 (Un.is_s hsy) (Un.fv_s hsy).symm).2.2.1
    have e10 : true = (Un.sym s).isSome := by rw [hsy]; rfl
    exact V.ret [0, 0] [(G23 1).ss 0, (G23 1).ss 1] [fun _ => {}, fun _ => {}] [] [2, 3] [] (.tuple #[.agg #[iv 0, iv 0, iv 0, iv 0, iv (1 : Int), iv 0, iv n1, ((G23 1).ss 0).v, iv (1 : Int), ((G23 1).ss 1).v], bv true]) (fun _ _ => by kernel_rfl) (fun _ _ => (Eq.trans (by kernel_rfl) (cong9 (fun (x0 : Int) (x1 : Int) (x2 : Int) (x3 : Int) (x4 : Int) (x5 : Int) (x6 : Int) (x8 : Int) (x10 : Bool) => (.tuple #[.agg #[iv x0, iv x1, iv x2, iv x3, iv x4, iv x5, iv x6, ((G23 1).ss 0).v, iv x8, ((G23 1).ss 1).v], bv x10] : Value)) e0 e1 e2 e3 e4 e5 e6 e8 e10)).trans (by kernel_rfl)) (fun _ _ => trivial)
  have hsn9 : ¬ s = ⟨#[99, 101, 110, 116]⟩ := q20
  refine V.g [.seq s ⟨#[101, 117, 114]⟩,.k (bv (decide (s = ⟨#[101, 117, 114]⟩)))] fun _ _ G24 => ?_
  intro S_ s_
  refine V.cond (b := decide (s = ⟨#[101, 117, 114]⟩)) iDT iDF (by kernel_rfl) (fun q21 => ?_) (fun q22 => ?_)
  · have hsy : Un.sym s = some ([0, 0, 0, 0, 1, 0], Rat.divInt 100 1) := by rw [q21]; kernel_rfl
    refine nm (Bg.sgn (100 : Int) : Int) fun n8 hn8 => ?_
    refine nm (Bg.dig (100 : Int).natAbs : List Int) fun l9 hl9 => ?_
    have hl9n := congrArg List.length hl9
    refine V.r [.ct g0 0 16 false [] [] [] (fun _ G => r5int_ctv (100 : Int) (by omega) n8 hn8 l9 hl9 l2 hl2),.ctT g0 1 53 [(kf true (.g 0 0) l9 (fun G => (G 0).ss 0)).a, (kf true (.g 0 1) l2 (fun G => (G 0).ss 1)).a] (fun _ G => base4_ct (1 : Int) n8 l9 ((G 0).ss 0) (1 : Int) l2 ((G 0).ss 1)),.st 0 (fun G => .blk ((G1 0).b) #[iv 0, iv 0, iv 0, iv 0, iv (1 : Int), iv 0, iv n8, ((G 1).ss 0).v, iv (1 : Int), ((G 1).ss 1).v] 32),.kb true] fun _ _ G25 kw25 => ?_
    intro S_ s_
    obtain ⟨⟨kl33, -⟩, ⟨kl34, -⟩, ⟨kl35, -⟩, ⟨kl36, -⟩, -⟩ : Lq l9 (((G25 0).ss 0).v) ∧ Lq l2 (((G25 0).ss 1).v) ∧ Lq l9 (((G25 1).ss 0).v) ∧ Lq l2 (((G25 1).ss 1).v) ∧ True := kn kw25 (by kernel_rfl)
    clear kw25
    have z9 : Fr.Fz n8 l9 1 l2 (((100 : Int)) : Rat) := by subst_vars; exact Un.intz _
    rw [← Fr.divInt1] at z9
    have e7 : l9 = Fr.rD ((Un.sym s).isSome = true) (Un.fv (Un.sym s)) := (Fr.Fz.ret z9 (Un.is_s hsy) (Un.fv_s hsy).symm).2.1
    subst e7
    have e9 : l2 = Fr.rE ((Un.sym s).isSome = true) (Un.fv (Un.sym s)) := (Fr.Fz.ret z9 (Un.is_s hsy) (Un.fv_s hsy).symm).2.2.2
    subst e9
    have e0 : (0 : Int) = Un.dv (Un.sym s) 0 := (Un.dv_s hsy 0).symm
    have e1 : (0 : Int) = Un.dv (Un.sym s) 1 := (Un.dv_s hsy 1).symm
    have e2 : (0 : Int) = Un.dv (Un.sym s) 2 := (Un.dv_s hsy 2).symm
    have e3 : (0 : Int) = Un.dv (Un.sym s) 3 := (Un.dv_s hsy 3).symm
    have e4 : (1 : Int) = Un.dv (Un.sym s) 4 := (Un.dv_s hsy 4).symm
    have e5 : (0 : Int) = Un.dv (Un.sym s) 5 := (Un.dv_s hsy 5).symm
    have e6 : n8 = Fr.rS ((Un.sym s).isSome = true) (Un.fv (Un.sym s)) := (Fr.Fz.ret z9 (Un.is_s hsy) (Un.fv_s hsy).symm).1
    have e8 : (1 : Int) = Fr.rT ((Un.sym s).isSome = true) := (Fr.Fz.ret z9 (Un.is_s hsy) (Un.fv_s hsy).symm).2.2.1
    have e10 : true = (Un.sym s).isSome := by rw [hsy]; rfl
    exact V.ret [0, 0] [(G25 1).ss 0, (G25 1).ss 1] [fun _ => {}, fun _ => {}] [] [4, 5] [] (.tuple #[.agg #[iv 0, iv 0, iv 0, iv 0, iv (1 : Int), iv 0, iv n8, ((G25 1).ss 0).v, iv (1 : Int), ((G25 1).ss 1).v], bv true]) (fun _ _ => by kernel_rfl) (fun _ _ => (Eq.trans (by kernel_rfl) (cong9 (fun (x0 : Int) (x1 : Int) (x2 : Int) (x3 : Int) (x4 : Int) (x5 : Int) (x6 : Int) (x8 : Int) (x10 : Bool) => (.tuple #[.agg #[iv x0, iv x1, iv x2, iv x3, iv x4, iv x5, iv x6, ((G25 1).ss 0).v, iv x8, ((G25 1).ss 1).v], bv x10] : Value)) e0 e1 e2 e3 e4 e5 e6 e8 e10)).trans (by kernel_rfl)) (fun _ _ => trivial)
  have hsn10 : ¬ s = ⟨#[101, 117, 114]⟩ := q22
  refine V.g [.seq s ⟨#[112, 99]⟩,.k (bv (decide (s = ⟨#[112, 99]⟩)))] fun _ _ G26 => ?_
  intro S_ s_
  refine V.cond (b := decide (s = ⟨#[112, 99]⟩)) iDT iDF (by kernel_rfl) (fun q23 => ?_) (fun q24 => ?_)
  · have hsy : Un.sym s = some ([0, 0, 0, 0, 0, 1], Rat.divInt 1 1) := by rw [q23]; kernel_rfl
    refine V.r [.ld 1 0 true (fun _ => Dat.cells (DFrac.mk (DBig.mk n1 ⟨l1, (G2 0).ss 0⟩) (DBig.mk 1 ⟨l2, (G2 0).ss 1⟩))),.ctT g0 1 53 [(kf true (.f 0) l1 (fun _ => (G2 0).ss 0)).a, (kf true (.f 1) l2 (fun _ => (G2 0).ss 1)).a] (fun _ G => base5_ct (1 : Int) n1 l1 ((G2 0).ss 0) (1 : Int) l2 ((G2 0).ss 1)),.st 0 (fun G => .blk ((G1 0).b) #[iv 0, iv 0, iv 0, iv 0, iv 0, iv (1 : Int), iv n1, ((G 1).ss 0).v, iv (1 : Int), ((G 1).ss 1).v] 32),.kb true] fun _ _ G27 kw27 => ?_
    intro S_ s_
    obtain ⟨⟨kl37, -⟩, ⟨kl38, -⟩, -⟩ : Lq l1 (((G27 1).ss 0).v) ∧ Lq l2 (((G27 1).ss 1).v) ∧ True := kn kw27 (by kernel_rfl)
    clear kw27
    have z9 : Fr.Fz n1 l1 1 l2 (((1 : Int)) : Rat) := by subst_vars; exact Un.intz _
    rw [← Fr.divInt1] at z9
    have e7 : l1 = Fr.rD ((Un.sym s).isSome = true) (Un.fv (Un.sym s)) := (Fr.Fz.ret z9 (Un.is_s hsy) (Un.fv_s hsy).symm).2.1
    subst e7
    have e9 : l2 = Fr.rE ((Un.sym s).isSome = true) (Un.fv (Un.sym s)) := (Fr.Fz.ret z9 (Un.is_s hsy) (Un.fv_s hsy).symm).2.2.2
    subst e9
    have e0 : (0 : Int) = Un.dv (Un.sym s) 0 := (Un.dv_s hsy 0).symm
    have e1 : (0 : Int) = Un.dv (Un.sym s) 1 := (Un.dv_s hsy 1).symm
    have e2 : (0 : Int) = Un.dv (Un.sym s) 2 := (Un.dv_s hsy 2).symm
    have e3 : (0 : Int) = Un.dv (Un.sym s) 3 := (Un.dv_s hsy 3).symm
    have e4 : (0 : Int) = Un.dv (Un.sym s) 4 := (Un.dv_s hsy 4).symm
    have e5 : (1 : Int) = Un.dv (Un.sym s) 5 := (Un.dv_s hsy 5).symm
    have e6 : n1 = Fr.rS ((Un.sym s).isSome = true) (Un.fv (Un.sym s)) := (Fr.Fz.ret z9 (Un.is_s hsy) (Un.fv_s hsy).symm).1
    have e8 : (1 : Int) = Fr.rT ((Un.sym s).isSome = true) := (Fr.Fz.ret z9 (Un.is_s hsy) (Un.fv_s hsy).symm).2.2.1
    have e10 : true = (Un.sym s).isSome := by rw [hsy]; rfl
    exact V.ret [0, 0] [(G27 1).ss 0, (G27 1).ss 1] [fun _ => {}, fun _ => {}] [] [2, 3] [] (.tuple #[.agg #[iv 0, iv 0, iv 0, iv 0, iv 0, iv (1 : Int), iv n1, ((G27 1).ss 0).v, iv (1 : Int), ((G27 1).ss 1).v], bv true]) (fun _ _ => by kernel_rfl) (fun _ _ => (Eq.trans (by kernel_rfl) (cong9 (fun (x0 : Int) (x1 : Int) (x2 : Int) (x3 : Int) (x4 : Int) (x5 : Int) (x6 : Int) (x8 : Int) (x10 : Bool) => (.tuple #[.agg #[iv x0, iv x1, iv x2, iv x3, iv x4, iv x5, iv x6, ((G27 1).ss 0).v, iv x8, ((G27 1).ss 1).v], bv x10] : Value)) e0 e1 e2 e3 e4 e5 e6 e8 e10)).trans (by kernel_rfl)) (fun _ _ => trivial)
  have hsn11 : ¬ s = ⟨#[112, 99]⟩ := q24
  have hsy : Un.sym s = none := Un.sym_no hsn0 hsn1 hsn2 hsn3 hsn4 hsn5 hsn6 hsn7 hsn8 hsn9 hsn10 hsn11
  refine V.g [.k (.agg #[iv 0, iv 0, iv 0, iv 0, iv 0, iv 0, iv 0, .slice none 0 0, iv 0, .slice none 0 0]),.st 0 (fun _ => .blk ((G1 0).b) #[iv 0, iv 0, iv 0, iv 0, iv 0, iv 0, iv 0, .slice none 0 0, iv 0, .slice none 0 0] 32),.kb false] fun _ _ G28 => ?_
  intro S_ s_
  refine V.nilF (α := Int) ?_
  refine V.nilF (α := Int) ?_
  have e7 : ([] : List Int) = Fr.rD ((Un.sym s).isSome = true) (Un.fv (Un.sym s)) := (Fr.Fz.no (Un.is_n hsy) (Un.fv (Un.sym s))).2.1
  rw [← e7]
  have e9 : ([] : List Int) = Fr.rE ((Un.sym s).isSome = true) (Un.fv (Un.sym s)) := (Fr.Fz.no (Un.is_n hsy) (Un.fv (Un.sym s))).2.2.2
  rw [← e9]
  have e0 : (0 : Int) = Un.dv (Un.sym s) 0 := (Un.dv_n hsy 0).symm
  have e1 : (0 : Int) = Un.dv (Un.sym s) 1 := (Un.dv_n hsy 1).symm
  have e2 : (0 : Int) = Un.dv (Un.sym s) 2 := (Un.dv_n hsy 2).symm
  have e3 : (0 : Int) = Un.dv (Un.sym s) 3 := (Un.dv_n hsy 3).symm
  have e4 : (0 : Int) = Un.dv (Un.sym s) 4 := (Un.dv_n hsy 4).symm
  have e5 : (0 : Int) = Un.dv (Un.sym s) 5 := (Un.dv_n hsy 5).symm
  have e6 : (0 : Int) = Fr.rS ((Un.sym s).isSome = true) (Un.fv (Un.sym s)) := (Fr.Fz.no (Un.is_n hsy) (Un.fv (Un.sym s))).1
  have e8 : (0 : Int) = Fr.rT ((Un.sym s).isSome = true) := (Fr.Fz.no (Un.is_n hsy) (Un.fv (Un.sym s))).2.2.1
  have e10 : false = (Un.sym s).isSome := by rw [hsy]; rfl
  exact V.ret [0, 0] [{}, {}] [fun _ => {}, fun _ => {}] [] [2, 3] [] (.tuple #[.agg #[iv 0, iv 0, iv 0, iv 0, iv 0, iv 0, iv 0, SV.v ({}), iv 0, SV.v ({})], bv false]) (fun _ _ => by kernel_rfl) (fun _ _ => (Eq.trans (by kernel_rfl) (cong9 (fun (x0 : Int) (x1 : Int) (x2 : Int) (x3 : Int) (x4 : Int) (x5 : Int) (x6 : Int) (x8 : Int) (x10 : Bool) => (.tuple #[.agg #[iv x0, iv x1, iv x2, iv x3, iv x4, iv x5, iv x6, SV.v ({}), iv x8, SV.v ({})], bv x10] : Value)) e0 e1 e2 e3 e4 e5 e6 e8 e10)).trans (by kernel_rfl)) (fun _ _ => trivial)
theorem sym9_ctv (s : ByteArray) (rv0 : Int) (erv0 : rv0 = Un.dv (Un.sym s) 0) (rv1 : Int) (erv1 : rv1 = Un.dv (Un.sym s) 1) (rv2 : Int) (erv2 : rv2 = Un.dv (Un.sym s) 2) (rv3 : Int) (erv3 : rv3 = Un.dv (Un.sym s) 3) (rv4 : Int) (erv4 : rv4 = Un.dv (Un.sym s) 4) (rv5 : Int) (erv5 : rv5 = Un.dv (Un.sym s) 5) (rv6 : Int) (erv6 : rv6 = Fr.rS ((Un.sym s).isSome = true) (Un.fv (Un.sym s))) (rv7 : List Int) (erv7 : rv7 = Fr.rD ((Un.sym s).isSome = true) (Un.fv (Un.sym s))) (rv8 : Int) (erv8 : rv8 = Fr.rT ((Un.sym s).isSome = true)) (rv9 : List Int) (erv9 : rv9 = Fr.rE ((Un.sym s).isSome = true) (Un.fv (Un.sym s))) :
    Ct Try.prog 17 #[tv s] [] [] (fun g => .tuple #[.agg #[iv rv0, iv rv1, iv rv2, iv rv3, iv rv4, iv rv5, iv rv6, ((g.ss 0)).v, iv rv8, ((g.ss 1)).v], bv ((Un.sym s).isSome)]) (fun g => [fs true rv7 (g.ss 0), fs true rv9 (g.ss 1)]) (fun g => []) (fun g => []) := by
  subst erv0 erv1 erv2 erv3 erv4 erv5 erv6 erv7 erv8 erv9; exact sym9_ct s 
end Kb
