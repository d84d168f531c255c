/- Words for bits, shifts, numbers of other kinds, strings. No program in sight. -/
import Derived.Test.YtmoekalfmahljaaHl
import Derived.Laws.Strings
import Derived.Laws.Slices
set_option linter.unusedVariables false
set_option linter.unusedSimpArgs false
set_option linter.unusedSectionVars false
namespace Kb
open Go
/-! ### bits -/
theorem wrapU64 (n : Int) : IntKind.u64.wrap n = n % 18446744073709551616 := by simp [IntKind.wrap, IntKind.bits, IntKind.signed]
theorem wrapU8 (n : Int) : IntKind.u8.wrap n = n % 256 := by simp [IntKind.wrap, IntKind.bits, IntKind.signed]
theorem ofInt64 (x : Int) : (BitVec.ofInt 64 x).toNat = (x % 18446744073709551616).toNat := by simp [BitVec.toNat_ofInt]
theorem and64 (x : Int) {b : Nat} {m : Int} (hb : b ≤ 62) (hm : m = 2 ^ b - 1) : ((BitVec.ofInt 64 x &&& BitVec.ofInt 64 m).toNat : Int) = x % (2 ^ b : Nat) := by
  have hm2 : (BitVec.ofInt 64 m).toNat = 2 ^ b - 1 := by
    rw [ofInt64]
    have h1 : (2 : Int) ^ b = ((2 ^ b : Nat) : Int) := by simp
    have h2 : 2 ^ b ≤ 2 ^ 62 := Nat.pow_le_pow_right (by omega) hb
    have h3 : 0 < 2 ^ b := Nat.pow_pos (by omega)
    rw [hm, h1]
    omega
  rw [BitVec.toNat_and, hm2, ofInt64, Nat.and_two_pow_sub_one_eq_mod]
  have h4 : (2 ^ b : Nat) ∣ 18446744073709551616 := ⟨2 ^ (64 - b), by rw [← Nat.pow_add, show b + (64 - b) = 64 by omega]⟩
  have h5 : ((2 ^ b : Nat) : Int) ∣ (18446744073709551616 : Int) := Int.natCast_dvd_natCast.2 h4
  rw [Int.natCast_emod, Int.toNat_of_nonneg (Int.emod_nonneg _ (by omega)), Int.emod_emod_of_dvd _ h5]
theorem or64 {r a : Int} {b : Nat} (hr : 0 ≤ r) (ha : 0 ≤ a ∧ a < (2 ^ b : Nat)) (hs : r * (2 ^ b : Nat) < 18446744073709551616) (hb : b ≤ 63) : ((BitVec.ofInt 64 (r * (2 ^ b : Nat)) ||| BitVec.ofInt 64 a).toNat : Int) = r * (2 ^ b : Nat) + a := by
  rw [BitVec.toNat_or, ofInt64, ofInt64]
  have h2 : 2 ^ b ≤ 2 ^ 63 := Nat.pow_le_pow_right (by omega) hb
  have h0 : 0 ≤ r * (2 ^ b : Nat) := Int.mul_nonneg hr (by omega)
  have e1 : (r * (2 ^ b : Nat) % 18446744073709551616).toNat = 2 ^ b * r.toNat := by
    rw [Int.emod_eq_of_lt h0 hs, Int.toNat_mul hr (by omega), Nat.mul_comm, Int.toNat_natCast]
  have e2 : (a % 18446744073709551616).toNat = a.toNat := by
    rw [Int.emod_eq_of_lt ha.1 (by omega)]
  rw [e1, e2, ← Nat.two_pow_add_eq_or_of_lt (by omega)]
  have e3 : ((r.toNat : Nat) : Int) = r := by omega
  rw [Int.natCast_add, Int.natCast_mul, e3, Int.mul_comm r]; omega
section
variable {P : Program} {T : TypeId} {w : World}
theorem and_run {x n m : Int} {b : Nat} (hb : b ≤ 62) (hm : m = 2 ^ b - 1) (hn : n = x % (2 ^ b : Nat)) : (binOp .and T (.int .i64 x) (.int .i64 m)).run P w = .ok (.int .i64 n) w := by
  have h := and64 x hb hm
  have h3 : 0 < 2 ^ b := Nat.pow_pos (by omega)
  have h2 : 2 ^ b ≤ 2 ^ 62 := Nat.pow_le_pow_right (by omega) hb
  have hn0 : 0 ≤ n ∧ n < 2 ^ 62 := by rw [hn]; exact ⟨Int.emod_nonneg _ (by omega), by have := Int.emod_lt_of_pos x (show (0 : Int) < ((2 ^ b : Nat) : Int) by omega); omega⟩
  have e : (binOp .and T (.int .i64 x) (.int .i64 m)).run P w = .ok (.int .i64 (IntKind.i64.wrap ((BitVec.ofInt 64 x &&& BitVec.ofInt 64 m).toNat : Int))) w := rfl
  rw [e, h, ← hn, IntKind.wrap_i64]
  congr 2; omega
theorem andu_run {x n m : Int} {b : Nat} (hb : b ≤ 62) (hm : m = 2 ^ b - 1) (hn : n = x % (2 ^ b : Nat)) : (binOp .and T (.int .u64 x) (.int .u64 m)).run P w = .ok (.int .u64 n) w := by
  have h := and64 x hb hm
  have h3 : 0 < 2 ^ b := Nat.pow_pos (by omega)
  have h2 : 2 ^ b ≤ 2 ^ 62 := Nat.pow_le_pow_right (by omega) hb
  have hn0 : 0 ≤ n ∧ n < 2 ^ 62 := by rw [hn]; exact ⟨Int.emod_nonneg _ (by omega), by have := Int.emod_lt_of_pos x (show (0 : Int) < ((2 ^ b : Nat) : Int) by omega); omega⟩
  have e : (binOp .and T (.int .u64 x) (.int .u64 m)).run P w = .ok (.int .u64 (IntKind.u64.wrap ((BitVec.ofInt 64 x &&& BitVec.ofInt 64 m).toNat : Int))) w := rfl
  rw [e, h, ← hn, wrapU64]
  congr 2; omega
theorem or_run {r a n : Int} {b : Nat} (hb : b ≤ 62) (hr : 0 ≤ r) (ha : 0 ≤ a ∧ a < (2 ^ b : Nat)) (hn : n = r * (2 ^ b : Nat) + a) (hs : n ≤ 9223372036854775807) : (binOp .or T (.int .i64 (r * (2 ^ b : Nat))) (.int .i64 a)).run P w = .ok (.int .i64 n) w := by
  have h0 : 0 ≤ r * (2 ^ b : Nat) := Int.mul_nonneg hr (by omega)
  have h := or64 hr ha (by omega) (by omega)
  have e : (binOp .or T (.int .i64 (r * (2 ^ b : Nat))) (.int .i64 a)).run P w = .ok (.int .i64 (IntKind.i64.wrap ((BitVec.ofInt 64 (r * (2 ^ b : Nat)) ||| BitVec.ofInt 64 a).toNat : Int))) w := rfl
  rw [e, h, ← hn, IntKind.wrap_i64]
  congr 2; omega
theorem oru_run {r a n : Int} {b : Nat} (hb : b ≤ 63) (hr : 0 ≤ r) (ha : 0 ≤ a ∧ a < (2 ^ b : Nat)) (hn : n = r * (2 ^ b : Nat) + a) (hs : n < 18446744073709551616) : (binOp .or T (.int .u64 a) (.int .u64 (r * (2 ^ b : Nat)))).run P w = .ok (.int .u64 n) w := by
  have h0 : 0 ≤ r * (2 ^ b : Nat) := Int.mul_nonneg hr (by omega)
  have h := or64 hr ha (by omega) hb
  have e : (binOp .or T (.int .u64 a) (.int .u64 (r * (2 ^ b : Nat)))).run P w = .ok (.int .u64 (IntKind.u64.wrap ((BitVec.ofInt 64 a ||| BitVec.ofInt 64 (r * (2 ^ b : Nat))).toNat : Int))) w := rfl
  rw [e, BitVec.or_comm, h, ← hn, wrapU64]
  congr 2; omega
theorem shr_run {k yk : IntKind} {x n : Int} (s : Nat) (hs : s ≤ k.bits) (hn : n = x / (2 ^ s : Nat)) : (binOp .shr T (.int k x) (.int yk s)).run P w = .ok (.int k n) w := by
  have e : (binOp .shr T (.int k x) (.int yk s)).run P w = .ok (.int k (x.fdiv (2 ^ s))) w := by
    simp [binOp, Op.shift, Nat.min_eq_left hs, show ¬ (s : Int) < 0 by omega]
  have h1 : (2 : Int) ^ s = ((2 ^ s : Nat) : Int) := by simp
  rw [e, h1, Int.fdiv_eq_ediv_of_nonneg _ (Int.natCast_nonneg _), ← hn]
theorem shl_run {k yk : IntKind} {x n y : Int} (s : Nat) (hy : y = s) (hs : s ≤ k.bits) (hn : n = k.wrap (x * (2 ^ s : Nat))) : (binOp .shl T (.int k x) (.int yk y)).run P w = .ok (.int k n) w := by
  subst hy
  have h1 : (2 : Int) ^ s = ((2 ^ s : Nat) : Int) := by simp
  have e : (binOp .shl T (.int k x) (.int yk s)).run P w = .ok (.int k (k.wrap (x * 2 ^ s))) w := by
    simp [binOp, Op.shift, Nat.min_eq_left hs, show ¬ (s : Int) < 0 by omega]
  rw [e, h1, ← hn]
theorem sadd_run {a b : ByteArray} (h : (a.size : Int) + b.size ≤ 9223372036854775807) : (binOp .add T (.string a) (.string b)).run P w = .ok (.string (a ++ b)) w := by
  have h2 : ¬ (IntKind.i64.max < ((a.size + b.size : Nat) : Int)) := by
    have : IntKind.i64.max = 9223372036854775807 := by decide
    rw [this]; omega
  simp [binOp, Op.stringOp, h2]
  omega
end
/-! ### strings as lists of bytes -/
def bl (s : ByteArray) : List UInt8 := s.data.toList
@[simp] theorem bl_len (s : ByteArray) : (bl s).length = s.size := by unfold bl; rw [Array.length_toList]; rfl
theorem bl_inj {a b : ByteArray} (h : bl a = bl b) : a = b := by
  cases a; cases b
  simp only [bl] at h
  congr 1
  exact Array.toList_inj.1 h
@[simp] theorem bl_append (a b : ByteArray) : bl (a ++ b) = bl a ++ bl b := by simp [bl, ByteArray.data_append]
theorem bl_extract (s : ByteArray) (l h : Nat) : bl (s.extract l h) = ((bl s).take h).drop l := by
  simp [bl, ByteArray.data_extract, List.extract_eq_take_drop, List.drop_take]
theorem bl_mk (l : List UInt8) : bl ⟨l.toArray⟩ = l := by simp [bl]
@[simp] theorem bl_empty : bl ByteArray.empty = [] := rfl
theorem bl_get {s : ByteArray} {i : Nat} (h : i < s.size) : s[i] = (bl s).getD i default := by
  have h2 : i < (bl s).length := by simpa using h
  rw [List.getD_eq_getElem?_getD, List.getElem?_eq_getElem h2]
  simp [bl, ByteArray.getElem_eq_getElem_data]
theorem enc1 {n : Int} (h0 : 0 ≤ n) (h : n < 128) : Utf8.encode n = ⟨#[UInt8.ofNat n.toNat]⟩ := by
  have hv : Utf8.valid n = true := by simp [Utf8.valid]; omega
  unfold Utf8.encode
  simp only [hv, if_true]
  rw [if_pos (by omega)]
def isStr (P : Program) (t : TypeId) : Bool := match P.underlying t with
  | some .string => true
  | _ => false
theorem str_of {P : Program} {t : TypeId} (h : isStr P t = true) : P.underlying t = some .string := by
  unfold isStr at h
  split at h
  · assumption
  · cases h
def RC.idr (R : RC) (G : Gh) (i : Nat) : Option (TypeId × Value × Value) := match (R.ops[i]?).map (fun o : Oper => o.op) with
  | some (.index t x y) => some (t, R.evalAt G i x, R.evalAt G i y)
  | _ => none
def RC.idt (R : RC) (i : Nat) : TypeId := match (R.ops[i]?).map (fun o : Oper => o.op) with
  | some (.index t _ _) => t
  | _ => 0
namespace Hint
variable {P : Program}
/-- a number of another kind -/
def ek {g : Prop} (Γ : GdI g) (k : IntKind) (t n : Int) (h : g → k.wrap t = n) : Hint P := e Γ (.int k (k.wrap t)) (.int k n) fun hg => by rw [h hg]
def andm {g : Prop} (Γ : GdI g) (x m n : Int) (b : Nat) (hb : b ≤ 62) (hm : m = 2 ^ b - 1) (hn : n = x % (2 ^ b : Nat)) : Hint P := bin Γ .and (.int .i64 x) (.int .i64 m) (.int .i64 n) fun _ _ _ => and_run hb hm hn
def andu {g : Prop} (Γ : GdI g) (x m n : Int) (b : Nat) (hb : b ≤ 62) (hm : m = 2 ^ b - 1) (hn : n = x % (2 ^ b : Nat)) : Hint P := bin Γ .and (.int .u64 x) (.int .u64 m) (.int .u64 n) fun _ _ _ => andu_run hb hm hn
def orm {g : Prop} (Γ : GdI g) (z r a n : Int) (b : Nat) (hz : z = r * (2 ^ b : Nat)) (h : g → b ≤ 62 ∧ 0 ≤ r ∧ (0 ≤ a ∧ a < (2 ^ b : Nat)) ∧ n = r * (2 ^ b : Nat) + a ∧ n ≤ 9223372036854775807) : Hint P := bin Γ .or (.int .i64 z) (.int .i64 a) (.int .i64 n) fun hg _ _ => by
  obtain ⟨h1, h2, h3, h4, h5⟩ := h hg
  rw [hz]; exact or_run h1 h2 h3 h4 h5
def oru {g : Prop} (Γ : GdI g) (a z r n : Int) (b : Nat) (hz : z = r * (2 ^ b : Nat)) (h : g → b ≤ 63 ∧ 0 ≤ r ∧ (0 ≤ a ∧ a < (2 ^ b : Nat)) ∧ n = r * (2 ^ b : Nat) + a ∧ n < 18446744073709551616) : Hint P := bin Γ .or (.int .u64 a) (.int .u64 z) (.int .u64 n) fun hg _ _ => by
  obtain ⟨h1, h2, h3, h4, h5⟩ := h hg
  rw [hz]; exact oru_run h1 h2 h3 h4 h5
def shrm {g : Prop} (Γ : GdI g) (k yk : IntKind) (x n : Int) (s : Nat) (hs : s ≤ k.bits) (hn : n = x / (2 ^ s : Nat)) : Hint P := bin Γ .shr (.int k x) (.int yk s) (.int k n) fun _ _ _ => shr_run s hs hn
def shlm {g : Prop} (Γ : GdI g) (k yk : IntKind) (x y n : Int) (s : Nat) (h : g → y = s ∧ s ≤ k.bits ∧ n = k.wrap (x * (2 ^ s : Nat))) : Hint P := bin Γ .shl (.int k x) (.int yk y) (.int k n) fun hg _ _ => by
  obtain ⟨h1, h2, h3⟩ := h hg
  exact shl_run s h1 h2 h3
/-- texts joined -/
def sad {g : Prop} (Γ : GdI g) (a b c : ByteArray) (hc : c = a ++ b) (h : g → (a.size : Int) + b.size ≤ 9223372036854775807) : Hint P := bin Γ .add (.string a) (.string b) (.string c) fun hg _ _ => by
  rw [hc]; exact sadd_run (h hg)
/-- a byte of a text -/
def sid {g : Prop} (Γ : GdI g) (s : ByteArray) (i : Int) (x : UInt8) (hx : x = (bl s).getD i.toNat default) (h : g → 0 ≤ i ∧ i < s.size) : Hint P where
  d := { val := fun _ => .int .u8 x.toNat }
  τ := Option (TypeId × Value × Value) × Value × Option Bool × Bool
  lhs c i' G _ _ := (c.R.idr G i', c.R.val i' (RC.put G i' {}), Γ.B.map fun _ => c.R.gd G i', isStr P (c.R.idt i'))
  rhs c i' _ _ _ := (some (c.R.idt i', .string s, .int .i64 i), .int .u8 x.toNat, Γ.B, true)
  sound c i' _ _ hi h0 := fun o ho G w hs => by
    have h1 := h0 G {} w
    simp only [Prod.mk.injEq] at h1
    obtain ⟨e1, e2, e3, e4⟩ := h1
    refine Cx.still hi rfl (fun _ => ⟨rfl, rfl⟩) ho (x := .int .u8 x.toNat) ?_ e2
    obtain ⟨b0, b1⟩ := h (Cx.gdOk Γ hs e3)
    have hu := str_of e4
    generalize hT : c.R.idt i' = T at *
    unfold RC.idr at e1
    rw [ho] at e1
    obtain ⟨dst, op', type, pos, after, guard⟩ := o
    cases op' <;> simp only [Option.map_some] at e1 <;> first | (simp at e1; done) | skip
    case index t' x' y' =>
      simp only [Option.some.injEq, Prod.mk.injEq] at e1
      obtain ⟨rfl, h1, h2⟩ := e1
      have hr := run_index_string (P := P) w t' s .i64 i hu
      rw [dif_pos ⟨b0, b1⟩, bl_get (show i.toNat < s.size by omega), ← hx] at hr
      simp [execOp, h1, h2, hr]
/-- a part of a text -/
def ssl {g : Prop} (Γ : GdI g) (s : ByteArray) (lo hi : Option Int) (a b : Int) (ha : a = lo.getD 0) (hb : b = hi.getD s.size) (t : ByteArray) (ht : t = s.extract a.toNat b.toNat) (h : g → 0 ≤ a ∧ a ≤ b ∧ b ≤ s.size) : Hint P where
  d := { val := fun _ => .string t }
  τ := Option (TypeId × Value × Option Value × Option Value × Bool) × Value × Option Bool × Bool
  lhs c i' G _ _ := (c.R.slr G i', c.R.val i' (RC.put G i' {}), Γ.B.map fun _ => c.R.gd G i', isStr P (c.R.slt i'))
  rhs c i' _ _ _ := (some (c.R.slt i', .string s, lo.map (.int .i64 ·), hi.map (.int .i64 ·), true), .string t, Γ.B, true)
  sound c i' _ _ hi' h0 := fun o ho G w hs => by
    have h1 := h0 G {} w
    simp only [Prod.mk.injEq] at h1
    obtain ⟨e1, e2, e3, e4⟩ := h1
    refine Cx.still hi' rfl (fun _ => ⟨rfl, rfl⟩) ho (x := .string t) ?_ e2
    obtain ⟨b0, b1, b2⟩ := h (Cx.gdOk Γ hs e3)
    have hu := str_of e4
    generalize hT : c.R.slt i' = T at *
    unfold RC.slr at e1
    rw [ho] at e1
    obtain ⟨dst, op', type, pos, after, guard⟩ := o
    cases op' <;> simp only [Option.map_some] at e1 <;> first | (simp at e1; done) | skip
    case slice t' x lo' hi2 mx =>
      simp only [Option.some.injEq, Prod.mk.injEq] at e1
      obtain ⟨rfl, hx, hl, hh, hm⟩ := e1
      have hmx : mx = none := by simpa using hm
      subst hmx
      have hbd : (Instr.sliceBounds false s.size s.size (lo'.map (c.R.evalAt G i')) (hi2.map (c.R.evalAt G i')) none).run P w = .ok (a.toNat, b.toNat, s.size) w := by
        rw [hl, hh]
        have hlh : a ≤ (b.toNat : Int) := by omega
        have hb0 : 0 ≤ b := by omega
        have hlh2 : a ≤ max b 0 := by omega
        cases lo with
        | none =>
          simp only [Option.getD_none] at ha
          subst ha
          cases hi with
          | none =>
            simp only [Option.getD_none] at hb
            subst hb
            simp [Instr.sliceBounds]
          | some h' =>
            simp only [Option.getD_some] at hb
            subst hb
            simp [Instr.sliceBounds, Instr.sliceBound, asIntOf, b2, hb0]
        | some l' =>
          simp only [Option.getD_some] at ha
          subst ha
          cases hi with
          | none =>
            simp only [Option.getD_none] at hb
            subst hb
            simp [Instr.sliceBounds, Instr.sliceBound, asIntOf, b0, b1]
          | some h' =>
            simp only [Option.getD_some] at hb
            subst hb
            simp [Instr.sliceBounds, Instr.sliceBound, asIntOf, b2, hb0, b0, b1, hlh, hlh2]
      simp [execOp, Instr.sliceAt, underlying, hu, hx, Instr.slice, hbd, ht]
end Hint
end Kb
