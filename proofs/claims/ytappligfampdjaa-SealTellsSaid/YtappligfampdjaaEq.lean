/-
  Two pairs, or two signatures, held against each other. Conditions: none.
-/
import Derived.Test.YtappligfampdjaaWalkB
import Derived.ChangeKeysEq
namespace Go.Proofs.Ytappligfampdjaa
open Go.RowKit Go.WideMaps

theorem bytes_eq (s t : ByteArray) : (s.toList == t.toList) = decide (s = t) := by
  by_cases h : s = t
  · subst h
    simp
  · rw [decide_eq_false h, beq_eq_false_iff_ne]
    intro h2
    rw [ByteArray.toList_eq, ByteArray.toList_eq] at h2
    exact h (by cases s; cases t; simp_all)
theorem eq_sealed (w : World) (e f : SE) : (Op.equalIn 10000 32 (.agg #[.int .i64 e.a, .string e.s]) (.agg #[.int .i64 f.a, .string f.s])).run Try.prog w = .ok (decide (e = f)) w := by
  obtain ⟨a, s⟩ := e
  obtain ⟨b, t⟩ := f
  have hs : Try.prog.stoodInHeld 32 = false := by kernel_rfl
  have ht : Try.prog.underlying 32 = some (.struct (Try.prog.fieldsOf 32)) := by kernel_rfl
  have pi : ∀ (xs : Array Value) (off : Nat) (v : Value), xs[off]? = some v → (part 3 xs off).run Try.prog w = .ok v w := fun xs off v h => run_part_plain w (by kernel_rfl) h
  have ps : ∀ (xs : Array Value) (off : Nat) (v : Value), xs[off]? = some v → (part 9 xs off).run Try.prog w = .ok v w := fun xs off v h => run_part_plain w (by kernel_rfl) h
  rw [run_equalIn_agg w 9999 _ _ _ ht hs]
  simp only [Program.fieldsOf, Try.underlying32, Op.eqFields]
  simp [pi, ps, run_equalIn_int w 9998 3 .i64 .i64 _ _ Try.underlying3, run_equalIn_string w 9998 9 _ _ Try.underlying9, Result.andThen, bytes_eq]
  by_cases h1 : a = b <;> by_cases h2 : s = t <;> simp [h1, h2]
theorem eq_signed (w : World) (a b : Int) (s t : ByteArray) (m n : Int) : (Op.equalIn 10000 24 (.agg #[.int .i64 a, .string s, .int .i64 m]) (.agg #[.int .i64 b, .string t, .int .i64 n])).run Try.prog w = .ok (decide (a = b ∧ s = t ∧ m = n)) w := by
  have hs : Try.prog.stoodInHeld 24 = false := by kernel_rfl
  have ht : Try.prog.underlying 24 = some (.struct (Try.prog.fieldsOf 24)) := by kernel_rfl
  have pi : ∀ (xs : Array Value) (off : Nat) (v : Value), xs[off]? = some v → (part 3 xs off).run Try.prog w = .ok v w := fun xs off v h => run_part_plain w (by kernel_rfl) h
  have ps : ∀ (xs : Array Value) (off : Nat) (v : Value), xs[off]? = some v → (part 9 xs off).run Try.prog w = .ok v w := fun xs off v h => run_part_plain w (by kernel_rfl) h
  rw [run_equalIn_agg w 9999 _ _ _ ht hs]
  simp only [Program.fieldsOf, Try.underlying24, Op.eqFields]
  simp [pi, ps, run_equalIn_int w 9998 3 .i64 .i64 _ _ Try.underlying3, run_equalIn_string w 9998 9 _ _ Try.underlying9, Result.andThen, bytes_eq]
  by_cases h1 : a = b <;> by_cases h2 : s = t <;> by_cases h3 : m = n <;> simp [h1, h2, h3]
/-- As the walk asks them. -/
theorem neq_sealed (e f : SE) (w : World) : (binOp .neq 32 (.agg #[.int .i64 e.a, .string e.s]) (.agg #[.int .i64 f.a, .string f.s])).run Try.prog w = .ok (.bool (!decide (e = f))) w := by
  rw [run_neq_struct, eq_sealed]
  rfl
theorem eql_sealed (e f : SE) (w : World) : (binOp .eql 32 (.agg #[.int .i64 e.a, .string e.s]) (.agg #[.int .i64 f.a, .string f.s])).run Try.prog w = .ok (.bool (decide (e = f))) w := by
  rw [run_eql_struct, eq_sealed]
  rfl
theorem neq_signed (a b : Int) (s t : ByteArray) (m n : Int) (w : World) : (binOp .neq 24 (.agg #[.int .i64 a, .string s, .int .i64 m]) (.agg #[.int .i64 b, .string t, .int .i64 n])).run Try.prog w = .ok (.bool (!decide (a = b ∧ s = t ∧ m = n))) w := by
  rw [run_neq_struct, eq_signed]
  rfl
theorem eql_signed (a b : Int) (s t : ByteArray) (m n : Int) (w : World) : (binOp .eql 24 (.agg #[.int .i64 a, .string s, .int .i64 m]) (.agg #[.int .i64 b, .string t, .int .i64 n])).run Try.prog w = .ok (.bool (decide (a = b ∧ s = t ∧ m = n))) w := by
  rw [run_eql_struct, eq_signed]
  rfl
end Go.Proofs.Ytappligfampdjaa
