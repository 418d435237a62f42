/-
  The contract of setting the upper field of a commit word.
-/
import Derived.Test.YtlhlnenpgcndkaaSum
namespace Go.Proofs.Ytlhlnenpgcndkaa
open Go.RowKit
theorem andNot58 (n : Nat) (h : n < 64) : bits BinOp.andNot IntKind.u64 (n : Int) 18446744073709551552 = (n : Int) := by
  have : ∀ n : Fin 64, bits BinOp.andNot IntKind.u64 (n.val : Int) 18446744073709551552 = (n.val : Int) := by decide
  exact this ⟨n, h⟩
theorem or58 (n : Nat) (v : Int) (h : n < 64) (hv : 0 ≤ v ∧ v < 288230376151711744) : bits BinOp.or IntKind.u64 (n : Int) (v * 64) = v * 64 + n := by
  obtain ⟨k, rfl⟩ := Int.eq_ofNat_of_zero_le hv.1
  show IntKind.u64.wrap ((BitVec.ofInt 64 (n : Int) ||| BitVec.ofInt 64 ((k : Int) * 64)).toNat : Int) = _
  have h1 : BitVec.ofInt 64 (n : Int) = BitVec.ofNat 64 n := by simp
  have h2 : BitVec.ofInt 64 ((k : Int) * 64) = BitVec.ofNat 64 (64 * k) := by
    rw [show (k : Int) * 64 = ((64 * k : Nat) : Int) from by omega]; exact BitVec.ofInt_natCast ..
  have h3 : n ||| 64 * k = 64 * k + n := by
    rw [Nat.or_comm]; exact (Nat.two_pow_add_eq_or_of_lt (i := 6) h k).symm
  rw [h1, h2, BitVec.toNat_or, BitVec.toNat_ofNat, BitVec.toNat_ofNat, Nat.mod_eq_of_lt (a := n) (by omega), Nat.mod_eq_of_lt (a := 64 * k) (by omega), h3]
  simp [IntKind.wrap, IntKind.bits, IntKind.signed]
  omega
set_option maxHeartbeats 800000 in
theorem set658 (n : Nat) (v : Int) (w : World) (h : n < 64) (hv : 0 ≤ v ∧ v < 288230376151711744) :
    Calls Try.prog 41 #[.int .u64 n, .int .i64 6, .int .i64 58, .int .u64 v] w fun e w' => e = .returned (.tuple #[.int .u64 (v * 64 + n), .int .i64 0]) ∧ w = w' := by
  have ha := andNot58 n h
  have ho := or58 n v h hv
  have hw : IntKind.u64.wrap (v * 64) = v * 64 := by simp [IntKind.wrap, IntKind.bits, IntKind.signed]; omega
  have hg : ¬ (288230376151711743 : Int) < v := by omega
  go_enter Try.func41, Try.ntmps41
  go_wp2_with fail
  refine (mask658 _).mono ?_
  rintro e w1 ⟨rfl, rfl⟩
  go_wp2_with fail
  go_ret2
  simp
end Go.Proofs.Ytlhlnenpgcndkaa
