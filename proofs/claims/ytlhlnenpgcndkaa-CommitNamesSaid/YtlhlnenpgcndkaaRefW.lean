/-
  The contracts of the reference's fields of words, and of its sums.
-/
import Derived.Test.YtlhlnenpgcndkaaSum
import Derived.Test.YtlhlnenpgcndkaaSame
namespace Go.Proofs.Ytlhlnenpgcndkaa
open Go.RowKit
theorem half_pow (x : Int) (k : Nat) : x / 2 ^ k / 2 = x / 2 ^ (k + 1) := by
  rw [Int.pow_succ, Int.ediv_ediv_of_nonneg (Int.pow_nonneg (by decide))]
theorem pow_nat (k : Nat) : (2 : Int) ^ k = ((2 ^ k : Nat) : Int) := by simp
theorem pow_bd {k : Nat} (h : k < 64) : 1 ≤ (2 : Int) ^ k ∧ (2 : Int) ^ k ≤ 9223372036854775808 := by
  have h1 : 2 ^ k ≤ 2 ^ 63 := Nat.pow_le_pow_right (by decide) (by omega)
  have h2 : 0 < 2 ^ k := Nat.two_pow_pos k
  rw [pow_nat]
  omega
theorem mod_pow_succ {x : Int} (hx : 0 ≤ x) (k : Nat) : x % 2 ^ (k + 1) = x % 2 ^ k + x / 2 ^ k % 2 * 2 ^ k := by
  obtain ⟨n, rfl⟩ := Int.eq_ofNat_of_zero_le hx
  rw [pow_nat, pow_nat]
  have := Nat.mod_mul (x := n) (a := 2 ^ k) (b := 2)
  rw [← Nat.pow_succ] at this
  have h2 : n / 2 ^ k % 2 * 2 ^ k = 2 ^ k * (n / 2 ^ k % 2) := Nat.mul_comm _ _
  have h3 : ((n : Int) % ((2 ^ (k + 1) : Nat) : Int)) = ((n % 2 ^ (k + 1) : Nat) : Int) := by simp
  rw [h3, this, ← h2]
  simp
set_option maxHeartbeats 400000 in
theorem bit_any (x : Int) (i : Nat) (w : World) (hx : InU x) (hi : i ≤ 64) :
    Calls Try.prog 58 #[.int .u64 x, .int .i64 i] w fun e w' => e = .returned (.int .u64 (x / 2 ^ i % 2)) ∧ w = w' := by
  obtain ⟨x0, x1⟩ := hx
  go_enter Try.func58, Try.ntmps58
  go_wp2
  go_loop [0, 5] (fun v j => ∃ k : Nat, k ≤ i ∧ j = .int .i64 k ∧ v = .int .u64 (x / 2 ^ k)) (fun _ j => i - (intOf j).toNat)
  case atStart => exact ⟨0, Nat.zero_le _, rfl, by simp⟩
  case round =>
    obtain ⟨k, hk, rfl, rfl⟩ := hrel
    have hy0 : 0 ≤ x / 2 ^ k := Int.ediv_nonneg x0 (Int.pow_nonneg (by decide))
    have hy1 : x / 2 ^ k ≤ x := Int.ediv_le_self _ x0
    by_cases hlt : k < i
    · have hs := Lib.hid (half_pow x k)
      obtain ⟨y, hy⟩ : ∃ y, x / 2 ^ k = y := ⟨_, rfl⟩
      rw [hy] at hs hy0 hy1 ⊢
      clear hy
      go_wp2
      go_round
      case rel => exact ⟨k + 1, by omega, by go_num, by rw [← hs.out]⟩
      case measure => simp [intOf]; omega
    · obtain rfl : k = i := by omega
      obtain ⟨y, hy⟩ : ∃ y, x / 2 ^ k = y := ⟨_, rfl⟩
      rw [hy] at hy0 hy1 ⊢
      have HY := Lib.hid hy
      clear hy
      go_wp2
      go_ret
      exact ⟨ret_int (by rw [HY.out]), rfl⟩
set_option maxHeartbeats 400000 in
theorem power_any (i : Nat) (w : World) (hi : i < 64) :
    Calls Try.prog 59 #[.int .i64 i] w fun e w' => e = .returned (.int .u64 (2 ^ i)) ∧ w = w' := by
  go_enter Try.func59, Try.ntmps59
  go_wp2
  go_loop [3, 4] (fun v j => ∃ k : Nat, k ≤ i ∧ j = .int .i64 k ∧ v = .int .u64 (2 ^ k)) (fun _ j => i - (intOf j).toNat)
  case atStart => exact ⟨0, Nat.zero_le _, rfl, by simp⟩
  case round =>
    obtain ⟨k, hk, rfl, rfl⟩ := hrel
    by_cases hlt : k < i
    · obtain ⟨b0, b1⟩ := pow_bd (k := k + 1) (by omega)
      have hs : (2 : Int) ^ k * 2 = 2 ^ (k + 1) := (Int.pow_succ ..).symm
      obtain ⟨y, hy⟩ : ∃ y, (2 : Int) ^ k = y := ⟨_, rfl⟩
      have b2 := (pow_bd (k := k) (by omega)).1
      rw [hy] at hs b2 ⊢
      have hw : IntKind.u64.wrap (y * 2) = y * 2 := by simp [IntKind.wrap, IntKind.bits, IntKind.signed]; omega
      have HS := Lib.hid hs
      clear hs hy b0 b1
      go_wp2
      go_round
      case rel => exact ⟨k + 1, by omega, by go_num, by rw [HS.out]⟩
      case measure => simp [intOf]; omega
    · obtain rfl : k = i := by omega
      go_wp2
      go_ret
      exact ⟨rfl, rfl⟩
set_option maxHeartbeats 800000 in
theorem value_any (x : Int) (n : Nat) (w : World) (hx : InU x) (hn : n ≤ 63) :
    Calls Try.prog 55 #[.int .u64 x, .int .i64 0, .int .i64 n] w fun e w' => e = .returned (.int .u64 (x % 2 ^ n)) ∧ w = w' := by
  go_enter Try.func55, Try.ntmps55
  go_wp2_with fail
  go_loop [7, 8] (fun v j => ∃ k : Nat, k ≤ n ∧ j = .int .i64 k ∧ v = .int .u64 (x % 2 ^ k)) (fun _ j => n - (intOf j).toNat)
  case atStart => exact ⟨0, Nat.zero_le _, rfl, by simp [Int.emod_one]⟩
  case round =>
    obtain ⟨k, hk, rfl, rfl⟩ := hrel
    have hb := pow_bd (k := k) (by omega)
    have hm0 : 0 ≤ x % 2 ^ k := Int.emod_nonneg _ (by omega)
    have hm1 : x % 2 ^ k < 2 ^ k := Int.emod_lt_of_pos _ (by omega)
    by_cases hlt : k < n
    · have hs := mod_pow_succ hx.1 k
      have hs2 : (2 : Int) ^ (k + 1) = 2 ^ k * 2 := Int.pow_succ ..
      have hbit := fun W => bit_any x k W hx (by omega)
      have hpow := fun W => power_any k W (by omega)
      have hr0 : 0 ≤ x / 2 ^ k % 2 ∧ x / 2 ^ k % 2 < 2 := by omega
      obtain ⟨r, hr⟩ : ∃ r, x / 2 ^ k % 2 = r := ⟨_, rfl⟩
      obtain ⟨p, hp⟩ : ∃ p, (2 : Int) ^ k = p := ⟨_, rfl⟩
      obtain ⟨y, hy⟩ : ∃ y, x % 2 ^ k = y := ⟨_, rfl⟩
      rw [hy] at hs hm0 hm1 ⊢
      rw [hr] at hs hr0 hbit
      rw [hp] at hs hm1 hb hpow hs2
      obtain ⟨z, hz⟩ : ∃ z, r * p = z := ⟨_, rfl⟩
      have hzb : 0 ≤ z ∧ z ≤ p := by
        rcases (by omega : r = 0 ∨ r = 1) with h | h <;> subst h <;> omega
      have w1 : IntKind.u64.wrap (r * p) = z := by rw [hz]; simp [IntKind.wrap, IntKind.bits, IntKind.signed]; omega
      have w2 : IntKind.u64.wrap (y + z) = y + z := by simp [IntKind.wrap, IntKind.bits, IntKind.signed]; omega
      rw [hz] at hs
      have HH := Lib.hid (And.intro hs (And.intro hbit hpow))
      clear hs hr hp hy hbit hpow hz hs2 hb hzb hm0 hm1
      go_wp2_with (first | (go_at_call 58; refine (HH.out.2.1 _).mono ?_; rintro e w' ⟨rfl, rfl⟩) | (go_at_call 59; refine (HH.out.2.2 _).mono ?_; rintro e w' ⟨rfl, rfl⟩))
      go_round
      case rel => exact ⟨k + 1, by omega, by go_num, by rw [HH.out.1]⟩
      case measure => simp [intOf]; omega
    · obtain rfl : k = n := by omega
      obtain ⟨y, hy⟩ : ∃ y, x % 2 ^ k = y := ⟨_, rfl⟩
      rw [hy] at ⊢
      have HY := Lib.hid hy
      clear hy hm0 hm1 hb
      go_wp2_with fail
      go_ret
      exact ⟨ret_int (by rw [HY.out]), rfl⟩
end Go.Proofs.Ytlhlnenpgcndkaa
