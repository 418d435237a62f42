/-
  The element types of the slices, read off the program's tables.
-/
import Derived.Test.YtmmcbleoglgamaaRows
import Derived.Test.YtmmcbleoglgamaaMem
import Derived.Test.YtmmcbleoglgamaaPlain
namespace Go.Proofs.Ytmmcbleoglgamaa
theorem EU : ElT Try.prog 22 26 1 8 := ElT.mk' (z := .int .u64 0) Try.underlying22 (by kernel_rfl) rfl (by decide) (by decide)
theorem EI : ElT Try.prog 39 3 1 8 := ElT.mk' (z := .int .i64 0) Try.underlying39 (by kernel_rfl) rfl (by decide) (by decide)
theorem EE : ElT Try.prog 71 73 2 16 := ElT.mk' (z := .agg #[.int .i64 0, .int .u64 0]) Try.underlying71 (by kernel_rfl) rfl (by decide) (by decide)
theorem ED : ElT Try.prog 23 44 3 24 := ElT.mk' (z := .agg #[.int .i64 0, .int .u64 0, .bool false]) Try.underlying23 (by kernel_rfl) rfl (by decide) (by decide)

theorem run_equalE (a b c d : Int) (w : World) : (Op.equalIn 10000 73 (.agg #[.int .i64 a, .int .u64 b]) (.agg #[.int .i64 c, .int .u64 d])).run Try.prog w = .ok (a == c && b == d) w := by
  go_simp
  by_cases h : a = c <;> by_cases h' : b = d <;> simp [h, h']
theorem run_eqlE (a b c d : Int) (w : World) : (binOp .eql 73 (.agg #[.int .i64 a, .int .u64 b]) (.agg #[.int .i64 c, .int .u64 d])).run Try.prog w = .ok (.bool (eqE a b c d)) w := by
  simp only [run_eql_struct, run_equalE, Result.andThen_ok, eqE]
theorem run_neqE (a b c d : Int) (w : World) : (binOp .neq 73 (.agg #[.int .i64 a, .int .u64 b]) (.agg #[.int .i64 c, .int .u64 d])).run Try.prog w = .ok (.bool (neE a b c d)) w := by
  simp only [run_neq_struct, run_equalE, Result.andThen_ok, neE]
theorem run_equalD (a b d e : Int) (c f : Bool) (w : World) : (Op.equalIn 10000 44 (.agg #[.int .i64 a, .int .u64 b, .bool c]) (.agg #[.int .i64 d, .int .u64 e, .bool f])).run Try.prog w = .ok (a == d && b == e && c == f) w := by
  go_simp
  by_cases h : a = d <;> by_cases h' : b = e <;> by_cases h'' : c = f <;> simp [h, h', h'']
theorem run_eqlD (a b : Int) (c : Bool) (d e : Int) (f : Bool) (w : World) : (binOp .eql 44 (.agg #[.int .i64 a, .int .u64 b, .bool c]) (.agg #[.int .i64 d, .int .u64 e, .bool f])).run Try.prog w = .ok (.bool (eqD a b c d e f)) w := by
  simp only [run_eql_struct, run_equalD, Result.andThen_ok, eqD]
theorem run_neqD (a b : Int) (c : Bool) (d e : Int) (f : Bool) (w : World) : (binOp .neq 44 (.agg #[.int .i64 a, .int .u64 b, .bool c]) (.agg #[.int .i64 d, .int .u64 e, .bool f])).run Try.prog w = .ok (.bool (neD a b c d e f)) w := by
  simp only [run_neq_struct, run_equalD, Result.andThen_ok, neD]
end Go.Proofs.Ytmmcbleoglgamaa
