/-
  The element types of the slices, read off the program's tables.
-/
import Derived.Test.YtibeolemelmpcaaRows
import Derived.Test.YtibeolemelmpcaaMem
import Derived.Test.YtibeolemelmpcaaPlain
namespace Go.Proofs.Ytibeolemelmpcaa
theorem EU : ElT Try.prog 35 23 1 8 := ElT.mk' (z := .int .u64 0) Try.underlying35 (by kernel_rfl) rfl (by decide) (by decide)
theorem EI : ElT Try.prog 61 3 1 8 := ElT.mk' (z := .int .i64 0) Try.underlying61 (by kernel_rfl) rfl (by decide) (by decide)
theorem EE : ElT Try.prog 22 56 2 16 := ElT.mk' (z := .agg #[.int .i64 0, .int .u64 0]) Try.underlying22 (by kernel_rfl) rfl (by decide) (by decide)

theorem run_equalE (a b c d : Int) (w : World) : (Op.equalIn 10000 56 (.agg #[.int .i64 a, .int .u64 b]) (.agg #[.int .i64 c, .int .u64 d])).run Try.prog w = .ok (a == c && b == d) w := by
  go_simp
  by_cases h : a = c <;> by_cases h' : b = d <;> simp [h, h']
theorem run_eqlE (a b c d : Int) (w : World) : (binOp .eql 56 (.agg #[.int .i64 a, .int .u64 b]) (.agg #[.int .i64 c, .int .u64 d])).run Try.prog w = .ok (.bool (eqE a b c d)) w := by
  simp only [run_eql_struct, run_equalE, Result.andThen_ok, eqE]
theorem run_neqE (a b c d : Int) (w : World) : (binOp .neq 56 (.agg #[.int .i64 a, .int .u64 b]) (.agg #[.int .i64 c, .int .u64 d])).run Try.prog w = .ok (.bool (neE a b c d)) w := by
  simp only [run_neq_struct, run_equalE, Result.andThen_ok, neE]
end Go.Proofs.Ytibeolemelmpcaa
