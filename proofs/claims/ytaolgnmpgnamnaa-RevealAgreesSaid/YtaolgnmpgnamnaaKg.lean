/- This program's equality of things. -/
import Derived.Test.YtaolgnmpgnamnaaKf
import Derived.Test.YtaolgnmpgnamnaaProg
set_option linter.unusedVariables false
set_option linter.unusedSimpArgs false
namespace Kb
open Go Go.Proofs
theorem thing_equal (w : World) (a : ByteArray) (b c d e : Int) (a' : ByteArray) (b' c' d' e' : Int) :
  (Op.equal 44 (.agg #[.string a, .int .i64 b, .int .i64 c, .int .i64 d, .int .i64 e]) (.agg #[.string a', .int .i64 b', .int .i64 c', .int .i64 d', .int .i64 e'])).run Try.prog w =
   .ok (decide (a = a' ∧ b = b' ∧ c = c' ∧ d = d' ∧ e = e')) w := by
  have h44 : Try.prog.fieldsOf 44 = #[{ name := "Text", type := 9, offset := 0, embedded := false, tag := "", pkgPath := "", byteOffset := 0 },
          { name := "Value", type := 3, offset := 1, embedded := false, tag := "", pkgPath := "", byteOffset := 16 },
          { name := "Blind", type := 3, offset := 2, embedded := false, tag := "", pkgPath := "", byteOffset := 24 },
          { name := "Left", type := 3, offset := 3, embedded := false, tag := "", pkgPath := "", byteOffset := 32 },
          { name := "Right", type := 3, offset := 4, embedded := false, tag := "", pkgPath := "", byteOffset := 40 }] := by kernel_rfl
  have hu : Try.prog.underlying 44 = some (.struct (Try.prog.fieldsOf 44)) := by kernel_rfl
  have u9 : Try.prog.underlying 9 = some .string := by kernel_rfl
  have u3 : Try.prog.underlying 3 = some (.int .i64) := by kernel_rfl
  have p9 : ∀ (xs : Array Value) (o : Nat) (v : Value), xs[o]? = some v → (part 9 xs o).run Try.prog w = .ok v w := fun xs o v hv => by
    have h : (isAgg 9).run Try.prog w = .ok false w := by rw [run_isAgg (by kernel_rfl), show aggB Try.prog 9 = false from by kernel_rfl]
    simp [part, h, hv]
  have p3 : ∀ (xs : Array Value) (o : Nat) (v : Value), xs[o]? = some v → (part 3 xs o).run Try.prog w = .ok v w := fun xs o v hv => by
    have h : (isAgg 3).run Try.prog w = .ok false w := by rw [run_isAgg (by kernel_rfl), show aggB Try.prog 3 = false from by kernel_rfl]
    simp [part, h, hv]
  show (Op.equalIn (9999 + 1) 44 _ _).run Try.prog w = _
  rw [run_equalIn_struct w 9999 44 _ _ hu (by kernel_rfl), h44]
  have ei := fun a b => run_equalIn_int (P := Try.prog) w 9998 3 .i64 .i64 a b u3
  have es := fun a b => run_equalIn_string (P := Try.prog) w 9998 9 a b u9
  have q0 : ∀ c0 c1 c2 c3 c4 : Value, (part 9 #[c0, c1, c2, c3, c4] 0).run Try.prog w = .ok c0 w := fun _ _ _ _ _ => p9 _ 0 _ rfl
  have q1 : ∀ c0 c1 c2 c3 c4 : Value, (part 3 #[c0, c1, c2, c3, c4] 1).run Try.prog w = .ok c1 w := fun _ _ _ _ _ => p3 _ 1 _ rfl
  have q2 : ∀ c0 c1 c2 c3 c4 : Value, (part 3 #[c0, c1, c2, c3, c4] 2).run Try.prog w = .ok c2 w := fun _ _ _ _ _ => p3 _ 2 _ rfl
  have q3 : ∀ c0 c1 c2 c3 c4 : Value, (part 3 #[c0, c1, c2, c3, c4] 3).run Try.prog w = .ok c3 w := fun _ _ _ _ _ => p3 _ 3 _ rfl
  have q4 : ∀ c0 c1 c2 c3 c4 : Value, (part 3 #[c0, c1, c2, c3, c4] 4).run Try.prog w = .ok c4 w := fun _ _ _ _ _ => p3 _ 4 _ rfl
  simp only [Op.eqFields]
  rw [Sem.run_ite, if_pos (by decide)]
  simp [q0, q1, q2, q3, q4, ei, es, toList_bytes]
  by_cases h1 : a = a' <;> by_cases h2 : b = b' <;> by_cases h3 : c = c' <;> by_cases h4 : d = d' <;> by_cases h5 : e = e' <;> simp [h1, h2, h3, h4, h5]
end Kb
