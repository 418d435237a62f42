/-
  The contracts of the low part of a sum, and of the fields of a word that it needs.
-/
import Derived.Test.YtlhlnenpgcndkaaNext
namespace Go.Proofs.Ytlhlnenpgcndkaa
open Go.RowKit
theorem mask058 (w : World) : Calls Try.prog 52 #[.int .i64 0, .int .i64 58] w fun e w' => e = .returned (.int .u64 288230376151711743) ∧ w = w' := by
  go_enter Try.func52, Try.ntmps52
  go_wp2
  go_ret
  exact ⟨rfl, rfl⟩
theorem mask658 (w : World) : Calls Try.prog 52 #[.int .i64 6, .int .i64 58] w fun e w' => e = .returned (.int .u64 18446744073709551552) ∧ w = w' := by
  go_enter Try.func52, Try.ntmps52
  go_wp2
  go_ret
  exact ⟨rfl, rfl⟩
theorem sumOf_any (l : List Int) (A : Option Addr) (c : Nat) (w : World) (hA : Sl w A l.length c (fU l)) (hl : l.length ≤ 2048) :
    Calls Try.prog 47 #[.slice A l.length c] w fun e w' => e = .returned (.tuple #[.int .u64 (sumOf l), .int .i64 0]) ∧ Ext w w' := by
  go_enter Try.func47, Try.ntmps47
  go_wp2_with fail
  refine (next_any 14695981039346656037 l A c w hA (by decide) hl).mono ?_
  rintro e w1 ⟨rfl, hx⟩
  go_wp2_with fail
  go_ret2
  exact ⟨rfl, hx⟩
theorem and58 (x : Int) (h : 0 ≤ x ∧ x < 18446744073709551616) : bits BinOp.and IntKind.u64 x 288230376151711743 = x % 288230376151711744 := by
  obtain ⟨n, rfl⟩ := Int.eq_ofNat_of_zero_le h.1
  show IntKind.u64.wrap ((BitVec.ofInt 64 (n : Int) &&& BitVec.ofInt 64 (288230376151711743 : Int)).toNat : Int) = _
  have h1 : BitVec.ofInt 64 (n : Int) = BitVec.ofNat 64 n := by simp
  have h2 : n &&& 288230376151711743 = n % 288230376151711744 := Nat.and_two_pow_sub_one_eq_mod n 58
  rw [h1, show BitVec.ofInt 64 (288230376151711743 : Int) = BitVec.ofNat 64 288230376151711743 from by decide, BitVec.toNat_and, BitVec.toNat_ofNat, BitVec.toNat_ofNat, Nat.mod_eq_of_lt (a := n) (by omega), Nat.mod_eq_of_lt (a := 288230376151711743) (by decide), h2]
  simp [IntKind.wrap, IntKind.bits, IntKind.signed]
  omega
theorem get058 (x : Int) (w : World) (h : 0 ≤ x ∧ x < 18446744073709551616) : Calls Try.prog 48 #[.int .u64 x, .int .i64 0, .int .i64 58] w fun e w' => e = .returned (.tuple #[.int .u64 (x % 288230376151711744), .int .i64 0]) ∧ w = w' := by
  have ha := and58 x h
  go_enter Try.func48, Try.ntmps48
  go_wp2_with fail
  refine (mask058 _).mono ?_
  rintro e w1 ⟨rfl, rfl⟩
  go_wp2_with fail
  go_ret2
  simp
theorem low58 (l : List Int) (A : Option Addr) (c : Nat) (w : World) (hA : Sl w A l.length c (fU l)) (hl : l.length ≤ 2048) :
    Calls Try.prog 34 #[.slice A l.length c, .int .i64 58] w fun e w' => e = .returned (.tuple #[.int .u64 (sumOf l % 288230376151711744), .int .i64 0]) ∧ Ext w w' := by
  go_enter Try.func34, Try.ntmps34
  go_wp2_with fail
  refine (sumOf_any l A c w hA hl).mono ?_
  rintro e w1 ⟨rfl, hx⟩
  go_wp2_with fail
  refine (get058 _ _ (sumOf_in l)).mono ?_
  rintro e w2 ⟨rfl, rfl⟩
  go_wp2_with fail
  go_ret2
  exact ⟨rfl, hx⟩
end Go.Proofs.Ytlhlnenpgcndkaa
