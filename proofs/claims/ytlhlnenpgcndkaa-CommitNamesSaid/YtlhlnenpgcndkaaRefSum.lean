/-
  The contracts of the reference's sums of words.
-/
import Derived.Test.YtlhlnenpgcndkaaRefW
import Derived.Test.YtlhlnenpgcndkaaNext
namespace Go.Proofs.Ytlhlnenpgcndkaa
open Go.RowKit
theorem byte_div (x : Int) (k : Nat) : x / 256 ^ k / 256 = x / 256 ^ (k + 1) := by
  rw [Int.pow_succ, Int.ediv_ediv_of_nonneg (Int.pow_nonneg (by decide))]
set_option maxHeartbeats 1600000 in
theorem refBytes_any (x : Int) (w : World) (hx : InU x) :
    Calls Try.prog 61 #[.int .u64 x] w fun e w' => e = .returned (bytesV x) ∧ Ext w w' := by
  obtain ⟨x0, x1⟩ := hx
  go_enter Try.func61, Try.ntmps61
  go_wp2_with fail
  go_loopw [0, 4] (fun v i wr => ∃ k : Nat, k ≤ 8 ∧ i = .int .i64 k ∧ v = .int .u64 (x / 256 ^ k) ∧ wr = (w.alloc (Obj.cells #[.int .u8 0, .int .u8 0, .int .u8 0, .int .u8 0, .int .u8 0, .int .u8 0, .int .u8 0, .int .u8 0] 89)).alloc (Obj.cells #[.int .u8 (if 0 < k then byteAt x 0 else 0), .int .u8 (if 1 < k then byteAt x 1 else 0), .int .u8 (if 2 < k then byteAt x 2 else 0), .int .u8 (if 3 < k then byteAt x 3 else 0), .int .u8 (if 4 < k then byteAt x 4 else 0), .int .u8 (if 5 < k then byteAt x 5 else 0), .int .u8 (if 6 < k then byteAt x 6 else 0), .int .u8 (if 7 < k then byteAt x 7 else 0)] 89)) (fun _ i _ => 8 - (intOf i).toNat)
  case atStart => exact ⟨0, by omega, rfl, by simp, rfl⟩
  case round =>
    obtain ⟨k, hk, rfl, rfl, rfl⟩ := hrel
    have hy0 : 0 ≤ x / 256 ^ k := Int.ediv_nonneg x0 (Int.pow_nonneg (by decide))
    have hy1 : x / 256 ^ k ≤ x := Int.ediv_le_self _ x0
    have hdv := byte_div x k
    have hbt : byteAt x k = x / 256 ^ k % 256 := rfl
    obtain ⟨y, hy⟩ : ∃ y, x / 256 ^ k = y := ⟨_, rfl⟩
    rw [hy] at hy0 hy1 hdv hbt ⊢
    obtain ⟨b, hb⟩ : ∃ b, y % 256 = b := ⟨_, rfl⟩
    have hw : IntKind.u8.wrap b = b := by rw [← hb]; simp [IntKind.wrap, IntKind.bits, IntKind.signed]
    rw [hb] at hbt
    have HH := Lib.hid (And.intro hdv hbt)
    clear hdv hbt hy
    rcases (by omega : k = 0 ∨ k = 1 ∨ k = 2 ∨ k = 3 ∨ k = 4 ∨ k = 5 ∨ k = 6 ∨ k = 7 ∨ k = 8) with rfl | rfl | rfl | rfl | rfl | rfl | rfl | rfl | rfl
    · go_wp2_with fail
      go_roundw
      case rel => exact ⟨1, by omega, by go_num, by rw [HH.out.1], by simp [HH.out.2]⟩
      case measure => simp [intOf]
    · go_wp2_with fail
      go_roundw
      case rel => exact ⟨2, by omega, by go_num, by rw [HH.out.1], by simp [HH.out.2]⟩
      case measure => simp [intOf]
    · go_wp2_with fail
      go_roundw
      case rel => exact ⟨3, by omega, by go_num, by rw [HH.out.1], by simp [HH.out.2]⟩
      case measure => simp [intOf]
    · go_wp2_with fail
      go_roundw
      case rel => exact ⟨4, by omega, by go_num, by rw [HH.out.1], by simp [HH.out.2]⟩
      case measure => simp [intOf]
    · go_wp2_with fail
      go_roundw
      case rel => exact ⟨5, by omega, by go_num, by rw [HH.out.1], by simp [HH.out.2]⟩
      case measure => simp [intOf]
    · go_wp2_with fail
      go_roundw
      case rel => exact ⟨6, by omega, by go_num, by rw [HH.out.1], by simp [HH.out.2]⟩
      case measure => simp [intOf]
    · go_wp2_with fail
      go_roundw
      case rel => exact ⟨7, by omega, by go_num, by rw [HH.out.1], by simp [HH.out.2]⟩
      case measure => simp [intOf]
    · go_wp2_with fail
      go_roundw
      case rel => exact ⟨8, by omega, by go_num, by rw [HH.out.1], by simp [HH.out.2]⟩
      case measure => simp [intOf]
    · go_wp2_with fail
      exact bodyPost_ret (v := bytesV x) (by simp [results, Try.results61, go_sem, bytesV]) rfl ⟨rfl, ((Ext.refl w).alloc _).alloc _⟩
theorem xr_split (s b : Int) (hs : 0 ≤ s) (hb : 0 ≤ b ∧ b < 256) : s - s % 256 + xr (s % 256) b = xr s b := by
  obtain ⟨n, rfl⟩ := Int.eq_ofNat_of_zero_le hs
  obtain ⟨c, rfl⟩ := Int.eq_ofNat_of_zero_le hb.1
  have h1 : ((n : Int) % 256) = ((n % 256 : Nat) : Int) := by simp
  rw [h1]
  unfold xr
  simp only [Int.toNat_natCast]
  have h2 : (n ^^^ c) / 2 ^ 8 = n / 2 ^ 8 ^^^ c / 2 ^ 8 := Nat.xor_div_two_pow ..
  have h3 : (n ^^^ c) % 2 ^ 8 = n % 2 ^ 8 ^^^ c % 2 ^ 8 := Nat.xor_mod_two_pow ..
  have h4 : c / 2 ^ 8 = 0 := by omega
  have h5 : c % 2 ^ 8 = c := by omega
  rw [h4, Nat.xor_zero] at h2
  rw [h5] at h3
  have h6 : n % 256 ^^^ c = (n ^^^ c) % 256 := h3.symm
  rw [h6]
  omega
theorem xor_bits8 (s b : Int) (hs : 0 ≤ s ∧ s < 256) (hb : 0 ≤ b ∧ b < 256) : bits BinOp.xor IntKind.u8 s b = xr s b := by
  obtain ⟨n, rfl⟩ := Int.eq_ofNat_of_zero_le hs.1
  obtain ⟨k, rfl⟩ := Int.eq_ofNat_of_zero_le hb.1
  show IntKind.u8.wrap ((BitVec.ofInt 8 (n : Int) ^^^ BitVec.ofInt 8 (k : Int)).toNat : Int) = _
  have h1 : BitVec.ofInt 8 (n : Int) = BitVec.ofNat 8 n := by simp
  have h2 : BitVec.ofInt 8 (k : Int) = BitVec.ofNat 8 k := by simp
  have h3 : n ^^^ k < 2 ^ 8 := Nat.xor_lt_two_pow (by omega) (by omega)
  rw [h1, h2, BitVec.toNat_xor, BitVec.toNat_ofNat, BitVec.toNat_ofNat, Nat.mod_eq_of_lt (a := n) (by omega), Nat.mod_eq_of_lt (a := k) (by omega), xr, Int.toNat_natCast, Int.toNat_natCast]
  simp [IntKind.wrap, IntKind.bits, IntKind.signed]
  omega
theorem xr_in8 (s b : Int) (hs : 0 ≤ s ∧ s < 256) (hb : 0 ≤ b ∧ b < 256) : 0 ≤ xr s b ∧ xr s b < 256 := by
  have : s.toNat ^^^ b.toNat < 2 ^ 8 := Nat.xor_lt_two_pow (by omega) (by omega)
  unfold xr; omega
theorem xr_in64 (s b : Int) (hs : 0 ≤ s ∧ s < 18446744073709551616) (hb : 0 ≤ b ∧ b < 18446744073709551616) : 0 ≤ xr s b ∧ xr s b < 18446744073709551616 := by
  have : s.toNat ^^^ b.toNat < 2 ^ 64 := Nat.xor_lt_two_pow (by omega) (by omega)
  unfold xr; omega
set_option maxHeartbeats 800000 in
theorem refStep_any (s b : Int) (w : World) (hs : 0 ≤ s ∧ s < 18446744073709551616) (hb : 0 ≤ b ∧ b < 256) :
    Calls Try.prog 62 #[.int .u64 s, .int .u8 b] w fun e w' => e = .returned (.int .u64 (stp s b)) ∧ w = w' := by
  have hsp := xr_split s b hs.1 hb
  have hlo : 0 ≤ s % 256 ∧ s % 256 < 256 := by omega
  have hxb := xor_bits8 (s % 256) b hlo hb
  have hx8 := xr_in8 (s % 256) b hlo hb
  have hx64 := xr_in64 s b hs (by omega)
  have hst := stp_wrap s b
  obtain ⟨L, hL⟩ : ∃ L, s % 256 = L := ⟨_, rfl⟩
  rw [hL] at hsp hlo hxb hx8
  have hLs : L ≤ s := by omega
  obtain ⟨X, hX⟩ : ∃ X, xr L b = X := ⟨_, rfl⟩
  obtain ⟨Y, hY⟩ : ∃ Y, xr s b = Y := ⟨_, rfl⟩
  rw [hX] at hsp hxb hx8
  rw [hY] at hsp hx64 hst
  have w1 : IntKind.u8.wrap L = L := by simp [IntKind.wrap, IntKind.bits, IntKind.signed]; omega
  have w2 : IntKind.u64.wrap L = L := by simp [IntKind.wrap, IntKind.bits, IntKind.signed]; omega
  have w3 : IntKind.u64.wrap (s - L) = s - L := by simp [IntKind.wrap, IntKind.bits, IntKind.signed]; omega
  have w4 : IntKind.u64.wrap X = X := by simp [IntKind.wrap, IntKind.bits, IntKind.signed]; omega
  have w5 : IntKind.u64.wrap (s - L + X) = Y := by rw [hsp]; simp [IntKind.wrap, IntKind.bits, IntKind.signed]; omega
  have hL' := Lib.hid hL
  obtain ⟨h0, h1⟩ := hs
  clear hsp hX hY hL
  obtain ⟨R, hR⟩ : ∃ R, stp s b = R := ⟨_, rfl⟩
  rw [hR] at hst ⊢
  clear hR
  have hL := hL'.out
  go_enter Try.func62, Try.ntmps62
  go_wp2_with fail
  go_ret
  exact ⟨ret_int rfl, rfl⟩
end Go.Proofs.Ytlhlnenpgcndkaa
