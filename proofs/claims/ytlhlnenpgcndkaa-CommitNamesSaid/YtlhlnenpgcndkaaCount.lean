/-
  The contracts of what a commit word says.
-/
import Derived.Test.YtlhlnenpgcndkaaSum
import Derived.Test.YtlhlnenpgcndkaaSame
namespace Go.Proofs.Ytlhlnenpgcndkaa
open Go.RowKit
/-- Is there a number of entries in a commit word? -/
def cntB (x : Int) : Bool := decide (1 ≤ x % 64) && decide (x % 64 ≤ 32)
def cntE (x : Int) : Int := if x = 0 then 6 else if cntB x then 0 else 50
def cntN (x : Int) : Int := if cntB x then x % 64 else 0
def cntL (x : Int) : Int := if cntB x then x / 64 else 0
theorem cntB_zero : cntB 0 = false := rfl
theorem cntB_bd {x : Int} (h : cntB x = true) : 1 ≤ x % 64 ∧ x % 64 ≤ 32 := by simpa [cntB] using h
theorem and63 (x : Int) (h : 0 ≤ x ∧ x < 18446744073709551616) : bits BinOp.and IntKind.u64 x 63 = x % 64 := by
  obtain ⟨n, rfl⟩ := Int.eq_ofNat_of_zero_le h.1
  show IntKind.u64.wrap ((BitVec.ofInt 64 (n : Int) &&& BitVec.ofInt 64 (63 : Int)).toNat : Int) = _
  have h1 : BitVec.ofInt 64 (n : Int) = BitVec.ofNat 64 n := by simp
  have h2 : n &&& 63 = n % 64 := Nat.and_two_pow_sub_one_eq_mod n 6
  rw [h1, show BitVec.ofInt 64 (63 : Int) = BitVec.ofNat 64 63 from by decide, BitVec.toNat_and, BitVec.toNat_ofNat, BitVec.toNat_ofNat, Nat.mod_eq_of_lt (a := n) (by omega), Nat.mod_eq_of_lt (a := 63) (by decide), h2]
  simp [IntKind.wrap, IntKind.bits, IntKind.signed]
  omega
set_option maxHeartbeats 400000 in
theorem count_any (x : Int) (w : World) (h : InU x) :
    Calls Try.prog 22 #[.int .u64 x] w fun e w' => e = .returned (.tuple #[.int .i64 (cntN x), .int .u64 (cntL x), .int .i64 (cntE x)]) ∧ w = w' := by
  obtain ⟨h0, h1⟩ := h
  have ha := and63 x ⟨h0, by omega⟩
  by_cases hz : x = 0
  · subst hz
    go_enter Try.func22, Try.ntmps22
    go_wp2_with fail
    go_ret3
    exact ⟨rfl, rfl⟩
  · have hw : IntKind.i64.wrap (x % 64) = x % 64 := by simp [IntKind.wrap, IntKind.bits, IntKind.signed]; omega
    have hb : (x == 0) = false := by simpa using hz
    cases hc : cntB x with
    | true =>
      obtain ⟨c1, c2⟩ := cntB_bd hc
      have HC := Lib.hid (show cntN x = x % 64 ∧ cntL x = x / 64 ∧ cntE x = 0 from ⟨by simp [cntN, hc], by simp [cntL, hc], by simp [cntE, hc, hz]⟩)
      clear hc
      go_enter Try.func22, Try.ntmps22
      go_wp2_with fail
      go_ret3
      rw [HC.out.1, HC.out.2.1, HC.out.2.2]
      exact ⟨rfl, rfl⟩
    | false =>
      have HC := Lib.hid (show cntN x = 0 ∧ cntL x = 0 ∧ cntE x = 50 from ⟨by simp [cntN, hc], by simp [cntL, hc], by simp [cntE, hc, hz]⟩)
      have hd : ¬ (1 ≤ x % 64 ∧ x % 64 ≤ 32) := by simpa [cntB] using hc
      clear hc
      by_cases c1 : x % 64 < 1
      · go_enter Try.func22, Try.ntmps22
        go_wp2_with fail
        go_ret3
        rw [HC.out.1, HC.out.2.1, HC.out.2.2]
        exact ⟨rfl, rfl⟩
      · have c2 : 32 < x % 64 := by omega
        go_enter Try.func22, Try.ntmps22
        go_wp2_with fail
        go_ret3
        rw [HC.out.1, HC.out.2.1, HC.out.2.2]
        exact ⟨rfl, rfl⟩
set_option maxHeartbeats 400000 in
theorem refCount_any (x : Int) (w : World) (h : InU x) :
    Calls Try.prog 23 #[.int .u64 x] w fun e w' => e = .returned (.tuple #[.int .i64 (cntN x), .int .u64 (cntL x), .int .i64 (cntE x)]) ∧ w = w' := by
  obtain ⟨h0, h1⟩ := h
  by_cases hz : x = 0
  · subst hz
    go_enter Try.func23, Try.ntmps23
    go_wp2_with fail
    go_ret3
    exact ⟨rfl, rfl⟩
  · have hw : IntKind.i64.wrap (x % 64) = x % 64 := by simp [IntKind.wrap, IntKind.bits, IntKind.signed]; omega
    have hb : (x == 0) = false := by simpa using hz
    cases hc : cntB x with
    | true =>
      obtain ⟨c1, c2⟩ := cntB_bd hc
      have HC := Lib.hid (show cntN x = x % 64 ∧ cntL x = x / 64 ∧ cntE x = 0 from ⟨by simp [cntN, hc], by simp [cntL, hc], by simp [cntE, hc, hz]⟩)
      clear hc
      go_enter Try.func23, Try.ntmps23
      go_wp2_with fail
      go_ret3
      rw [HC.out.1, HC.out.2.1, HC.out.2.2]
      exact ⟨rfl, rfl⟩
    | false =>
      have HC := Lib.hid (show cntN x = 0 ∧ cntL x = 0 ∧ cntE x = 50 from ⟨by simp [cntN, hc], by simp [cntL, hc], by simp [cntE, hc, hz]⟩)
      have hd : ¬ (1 ≤ x % 64 ∧ x % 64 ≤ 32) := by simpa [cntB] using hc
      clear hc
      by_cases c1 : x % 64 < 1
      · go_enter Try.func23, Try.ntmps23
        go_wp2_with fail
        go_ret3
        rw [HC.out.1, HC.out.2.1, HC.out.2.2]
        exact ⟨rfl, rfl⟩
      · have c2 : 32 < x % 64 := by omega
        go_enter Try.func23, Try.ntmps23
        go_wp2_with fail
        go_ret3
        rw [HC.out.1, HC.out.2.1, HC.out.2.2]
        exact ⟨rfl, rfl⟩
end Go.Proofs.Ytlhlnenpgcndkaa
