/-
  The element types of the slices, read off the program's tables.
-/
import Derived.Test.YthnonfmaamchkaaRows
import Derived.Test.YthnonfmaamchkaaMem
import Derived.Test.YthnonfmaamchkaaPlain
namespace Go.Proofs.Ythnonfmaamchkaa
theorem EU : ElT Try.prog 41 31 1 8 := ElT.mk' (z := .int .u64 0) Try.underlying41 (by kernel_rfl) rfl (by decide) (by decide)
theorem EI : ElT Try.prog 57 3 1 8 := ElT.mk' (z := .int .i64 0) Try.underlying57 (by kernel_rfl) rfl (by decide) (by decide)
theorem EE : ElT Try.prog 24 33 2 16 := ElT.mk' (z := .agg #[.int .i64 0, .int .u64 0]) Try.underlying24 (by kernel_rfl) rfl (by decide) (by decide)

theorem run_equalE (a b c d : Int) (w : World) : (Op.equalIn 10000 33 (.agg #[.int .i64 a, .int .u64 b]) (.agg #[.int .i64 c, .int .u64 d])).run Try.prog w = .ok (a == c && b == d) w := by
  go_simp
  by_cases h : a = c <;> by_cases h' : b = d <;> simp [h, h']
theorem run_eqlE (a b c d : Int) (w : World) : (binOp .eql 33 (.agg #[.int .i64 a, .int .u64 b]) (.agg #[.int .i64 c, .int .u64 d])).run Try.prog w = .ok (.bool (eqE a b c d)) w := by
  simp only [run_eql_struct, run_equalE, Result.andThen_ok, eqE]
theorem run_neqE (a b c d : Int) (w : World) : (binOp .neq 33 (.agg #[.int .i64 a, .int .u64 b]) (.agg #[.int .i64 c, .int .u64 d])).run Try.prog w = .ok (.bool (neE a b c d)) w := by
  simp only [run_neq_struct, run_equalE, Result.andThen_ok, neE]
theorem run_equalP (a b c d e f : Int) (w : World) : (Op.equalIn 10000 23 (.agg #[.int .i64 a, .int .i64 b, .int .i64 c]) (.agg #[.int .i64 d, .int .i64 e, .int .i64 f])).run Try.prog w = .ok (a == d && b == e && c == f) w := by
  go_simp
  by_cases h : a = d <;> by_cases h' : b = e <;> by_cases h'' : c = f <;> simp [h, h', h'']
theorem run_eqlP (a b c d e f : Int) (w : World) : (binOp .eql 23 (.agg #[.int .i64 a, .int .i64 b, .int .i64 c]) (.agg #[.int .i64 d, .int .i64 e, .int .i64 f])).run Try.prog w = .ok (.bool (eqP a b c d e f)) w := by
  simp only [run_eql_struct, run_equalP, Result.andThen_ok, eqP]
theorem run_neqP (a b c d e f : Int) (w : World) : (binOp .neq 23 (.agg #[.int .i64 a, .int .i64 b, .int .i64 c]) (.agg #[.int .i64 d, .int .i64 e, .int .i64 f])).run Try.prog w = .ok (.bool (neP a b c d e f)) w := by
  simp only [run_neq_struct, run_equalP, Result.andThen_ok, neP]
end Go.Proofs.Ythnonfmaamchkaa
