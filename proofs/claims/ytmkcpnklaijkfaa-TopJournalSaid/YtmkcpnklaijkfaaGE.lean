/-
  Several texts in one: RefW, RefSum, RefBeh, RefC, Jour, LawC.
-/
import Derived.Test.YtmkcpnklaijkfaaGD
import Derived.Test.YtmkcpnklaijkfaaGA
import Derived.Test.YtmkcpnklaijkfaaGC
/-
  The contracts of the reference's fields of words, and of its sums.
-/
namespace Go.Proofs.Ytmkcpnklaijkfaa
open Go.RowKit
theorem half_pow (x : Int) (k : Nat) : x / 2 ^ k / 2 = x / 2 ^ (k + 1) := by
  rw [Int.pow_succ, Int.ediv_ediv_of_nonneg (Int.pow_nonneg (by decide))]
theorem pow_nat (k : Nat) : (2 : Int) ^ k = ((2 ^ k : Nat) : Int) := by simp
theorem pow_bd {k : Nat} (h : k < 64) : 1 ≤ (2 : Int) ^ k ∧ (2 : Int) ^ k ≤ 9223372036854775808 := by
  have h1 : 2 ^ k ≤ 2 ^ 63 := Nat.pow_le_pow_right (by decide) (by omega)
  have h2 : 0 < 2 ^ k := Nat.two_pow_pos k
  rw [pow_nat]
  omega
theorem mod_pow_succ {x : Int} (hx : 0 ≤ x) (k : Nat) : x % 2 ^ (k + 1) = x % 2 ^ k + x / 2 ^ k % 2 * 2 ^ k := by
  obtain ⟨n, rfl⟩ := Int.eq_ofNat_of_zero_le hx
  rw [pow_nat, pow_nat]
  have := Nat.mod_mul (x := n) (a := 2 ^ k) (b := 2)
  rw [← Nat.pow_succ] at this
  have h2 : n / 2 ^ k % 2 * 2 ^ k = 2 ^ k * (n / 2 ^ k % 2) := Nat.mul_comm _ _
  have h3 : ((n : Int) % ((2 ^ (k + 1) : Nat) : Int)) = ((n % 2 ^ (k + 1) : Nat) : Int) := by simp
  rw [h3, this, ← h2]
  simp
set_option maxHeartbeats 400000 in
theorem bit_any (x : Int) (i : Nat) (w : World) (hx : InU x) (hi : i ≤ 64) :
    Calls Try.prog 139 #[.int .u64 x, .int .i64 i] w fun e w' => e = .returned (.int .u64 (x / 2 ^ i % 2)) ∧ w = w' := by
  obtain ⟨x0, x1⟩ := hx
  go_enter Try.func139, Try.ntmps139
  go_wp2
  go_loop [0, 5] (fun v j => ∃ k : Nat, k ≤ i ∧ j = .int .i64 k ∧ v = .int .u64 (x / 2 ^ k)) (fun _ j => i - (intOf j).toNat)
  case atStart => exact ⟨0, Nat.zero_le _, rfl, by simp⟩
  case round =>
    obtain ⟨k, hk, rfl, rfl⟩ := hrel
    have hy0 : 0 ≤ x / 2 ^ k := Int.ediv_nonneg x0 (Int.pow_nonneg (by decide))
    have hy1 : x / 2 ^ k ≤ x := Int.ediv_le_self _ x0
    by_cases hlt : k < i
    · have hs := Lib.hid (half_pow x k)
      obtain ⟨y, hy⟩ : ∃ y, x / 2 ^ k = y := ⟨_, rfl⟩
      rw [hy] at hs hy0 hy1 ⊢
      clear hy
      go_wp2
      go_round
      case rel => exact ⟨k + 1, by omega, by go_num, by rw [← hs.out]⟩
      case measure => simp [intOf]; omega
    · obtain rfl : k = i := by omega
      obtain ⟨y, hy⟩ : ∃ y, x / 2 ^ k = y := ⟨_, rfl⟩
      rw [hy] at hy0 hy1 ⊢
      have HY := Lib.hid hy
      clear hy
      go_wp2
      go_ret
      exact ⟨ret_int (by rw [HY.out]), rfl⟩
set_option maxHeartbeats 400000 in
theorem power_any (i : Nat) (w : World) (hi : i < 64) :
    Calls Try.prog 140 #[.int .i64 i] w fun e w' => e = .returned (.int .u64 (2 ^ i)) ∧ w = w' := by
  go_enter Try.func140, Try.ntmps140
  go_wp2
  go_loop [3, 4] (fun v j => ∃ k : Nat, k ≤ i ∧ j = .int .i64 k ∧ v = .int .u64 (2 ^ k)) (fun _ j => i - (intOf j).toNat)
  case atStart => exact ⟨0, Nat.zero_le _, rfl, by simp⟩
  case round =>
    obtain ⟨k, hk, rfl, rfl⟩ := hrel
    by_cases hlt : k < i
    · obtain ⟨b0, b1⟩ := pow_bd (k := k + 1) (by omega)
      have hs : (2 : Int) ^ k * 2 = 2 ^ (k + 1) := (Int.pow_succ ..).symm
      obtain ⟨y, hy⟩ : ∃ y, (2 : Int) ^ k = y := ⟨_, rfl⟩
      have b2 := (pow_bd (k := k) (by omega)).1
      rw [hy] at hs b2 ⊢
      have hw : IntKind.u64.wrap (y * 2) = y * 2 := by simp [IntKind.wrap, IntKind.bits, IntKind.signed]; omega
      have HS := Lib.hid hs
      clear hs hy b0 b1
      go_wp2
      go_round
      case rel => exact ⟨k + 1, by omega, by go_num, by rw [HS.out]⟩
      case measure => simp [intOf]; omega
    · obtain rfl : k = i := by omega
      go_wp2
      go_ret
      exact ⟨rfl, rfl⟩
set_option maxHeartbeats 800000 in
theorem value_any (x : Int) (n : Nat) (w : World) (hx : InU x) (hn : n ≤ 63) :
    Calls Try.prog 128 #[.int .u64 x, .int .i64 0, .int .i64 n] w fun e w' => e = .returned (.int .u64 (x % 2 ^ n)) ∧ w = w' := by
  go_enter Try.func128, Try.ntmps128
  go_wp2_with fail
  go_loop [7, 8] (fun v j => ∃ k : Nat, k ≤ n ∧ j = .int .i64 k ∧ v = .int .u64 (x % 2 ^ k)) (fun _ j => n - (intOf j).toNat)
  case atStart => exact ⟨0, Nat.zero_le _, rfl, by simp [Int.emod_one]⟩
  case round =>
    obtain ⟨k, hk, rfl, rfl⟩ := hrel
    have hb := pow_bd (k := k) (by omega)
    have hm0 : 0 ≤ x % 2 ^ k := Int.emod_nonneg _ (by omega)
    have hm1 : x % 2 ^ k < 2 ^ k := Int.emod_lt_of_pos _ (by omega)
    by_cases hlt : k < n
    · have hs := mod_pow_succ hx.1 k
      have hs2 : (2 : Int) ^ (k + 1) = 2 ^ k * 2 := Int.pow_succ ..
      have hbit := fun W => bit_any x k W hx (by omega)
      have hpow := fun W => power_any k W (by omega)
      have hr0 : 0 ≤ x / 2 ^ k % 2 ∧ x / 2 ^ k % 2 < 2 := by omega
      obtain ⟨r, hr⟩ : ∃ r, x / 2 ^ k % 2 = r := ⟨_, rfl⟩
      obtain ⟨p, hp⟩ : ∃ p, (2 : Int) ^ k = p := ⟨_, rfl⟩
      obtain ⟨y, hy⟩ : ∃ y, x % 2 ^ k = y := ⟨_, rfl⟩
      rw [hy] at hs hm0 hm1 ⊢
      rw [hr] at hs hr0 hbit
      rw [hp] at hs hm1 hb hpow hs2
      obtain ⟨z, hz⟩ : ∃ z, r * p = z := ⟨_, rfl⟩
      have hzb : 0 ≤ z ∧ z ≤ p := by
        rcases (by omega : r = 0 ∨ r = 1) with h | h <;> subst h <;> omega
      have w1 : IntKind.u64.wrap (r * p) = z := by rw [hz]; simp [IntKind.wrap, IntKind.bits, IntKind.signed]; omega
      have w2 : IntKind.u64.wrap (y + z) = y + z := by simp [IntKind.wrap, IntKind.bits, IntKind.signed]; omega
      rw [hz] at hs
      have HH := Lib.hid (And.intro hs (And.intro hbit hpow))
      clear hs hr hp hy hbit hpow hz hs2 hb hzb hm0 hm1
      go_wp2_with (first | (go_at_call 139; refine (HH.out.2.1 _).mono ?_; rintro e w' ⟨rfl, rfl⟩) | (go_at_call 140; refine (HH.out.2.2 _).mono ?_; rintro e w' ⟨rfl, rfl⟩))
      go_round
      case rel => exact ⟨k + 1, by omega, by go_num, by rw [HH.out.1]⟩
      case measure => simp [intOf]; omega
    · obtain rfl : k = n := by omega
      obtain ⟨y, hy⟩ : ∃ y, x % 2 ^ k = y := ⟨_, rfl⟩
      rw [hy] at ⊢
      have HY := Lib.hid hy
      clear hy hm0 hm1 hb
      go_wp2_with fail
      go_ret
      exact ⟨ret_int (by rw [HY.out]), rfl⟩
end Go.Proofs.Ytmkcpnklaijkfaa
/-
  The contracts of the reference's sums of words.
-/
namespace Go.Proofs.Ytmkcpnklaijkfaa
open Go.RowKit
theorem byte_div (x : Int) (k : Nat) : x / 256 ^ k / 256 = x / 256 ^ (k + 1) := by
  rw [Int.pow_succ, Int.ediv_ediv_of_nonneg (Int.pow_nonneg (by decide))]
set_option maxHeartbeats 1600000 in
theorem refBytes_any (x : Int) (w : World) (hx : InU x) :
    Calls Try.prog 144 #[.int .u64 x] w fun e w' => e = .returned (bytesV x) ∧ Ext w w' := by
  obtain ⟨x0, x1⟩ := hx
  go_enter Try.func144, Try.ntmps144
  go_wp2_with fail
  go_loopw [0, 4] (fun v i wr => ∃ k : Nat, k ≤ 8 ∧ i = .int .i64 k ∧ v = .int .u64 (x / 256 ^ k) ∧ wr = (w.alloc (Obj.cells #[.int .u8 0, .int .u8 0, .int .u8 0, .int .u8 0, .int .u8 0, .int .u8 0, .int .u8 0, .int .u8 0] 172)).alloc (Obj.cells #[.int .u8 (if 0 < k then byteAt x 0 else 0), .int .u8 (if 1 < k then byteAt x 1 else 0), .int .u8 (if 2 < k then byteAt x 2 else 0), .int .u8 (if 3 < k then byteAt x 3 else 0), .int .u8 (if 4 < k then byteAt x 4 else 0), .int .u8 (if 5 < k then byteAt x 5 else 0), .int .u8 (if 6 < k then byteAt x 6 else 0), .int .u8 (if 7 < k then byteAt x 7 else 0)] 172)) (fun _ i _ => 8 - (intOf i).toNat)
  case atStart => exact ⟨0, by omega, rfl, by simp, rfl⟩
  case round =>
    obtain ⟨k, hk, rfl, rfl, rfl⟩ := hrel
    have hy0 : 0 ≤ x / 256 ^ k := Int.ediv_nonneg x0 (Int.pow_nonneg (by decide))
    have hy1 : x / 256 ^ k ≤ x := Int.ediv_le_self _ x0
    have hdv := byte_div x k
    have hbt : byteAt x k = x / 256 ^ k % 256 := rfl
    obtain ⟨y, hy⟩ : ∃ y, x / 256 ^ k = y := ⟨_, rfl⟩
    rw [hy] at hy0 hy1 hdv hbt ⊢
    obtain ⟨b, hb⟩ : ∃ b, y % 256 = b := ⟨_, rfl⟩
    have hw : IntKind.u8.wrap b = b := by rw [← hb]; simp [IntKind.wrap, IntKind.bits, IntKind.signed]
    rw [hb] at hbt
    have HH := Lib.hid (And.intro hdv hbt)
    clear hdv hbt hy
    rcases (by omega : k = 0 ∨ k = 1 ∨ k = 2 ∨ k = 3 ∨ k = 4 ∨ k = 5 ∨ k = 6 ∨ k = 7 ∨ k = 8) with rfl | rfl | rfl | rfl | rfl | rfl | rfl | rfl | rfl
    · go_wp2_with fail
      go_roundw
      case rel => exact ⟨1, by omega, by go_num, by rw [HH.out.1], by simp [HH.out.2]⟩
      case measure => simp [intOf]
    · go_wp2_with fail
      go_roundw
      case rel => exact ⟨2, by omega, by go_num, by rw [HH.out.1], by simp [HH.out.2]⟩
      case measure => simp [intOf]
    · go_wp2_with fail
      go_roundw
      case rel => exact ⟨3, by omega, by go_num, by rw [HH.out.1], by simp [HH.out.2]⟩
      case measure => simp [intOf]
    · go_wp2_with fail
      go_roundw
      case rel => exact ⟨4, by omega, by go_num, by rw [HH.out.1], by simp [HH.out.2]⟩
      case measure => simp [intOf]
    · go_wp2_with fail
      go_roundw
      case rel => exact ⟨5, by omega, by go_num, by rw [HH.out.1], by simp [HH.out.2]⟩
      case measure => simp [intOf]
    · go_wp2_with fail
      go_roundw
      case rel => exact ⟨6, by omega, by go_num, by rw [HH.out.1], by simp [HH.out.2]⟩
      case measure => simp [intOf]
    · go_wp2_with fail
      go_roundw
      case rel => exact ⟨7, by omega, by go_num, by rw [HH.out.1], by simp [HH.out.2]⟩
      case measure => simp [intOf]
    · go_wp2_with fail
      go_roundw
      case rel => exact ⟨8, by omega, by go_num, by rw [HH.out.1], by simp [HH.out.2]⟩
      case measure => simp [intOf]
    · go_wp2_with fail
      exact bodyPost_ret (v := bytesV x) (by simp [results, Try.results144, go_sem, bytesV]) rfl ⟨rfl, ((Ext.refl w).alloc _).alloc _⟩
theorem xr_split (s b : Int) (hs : 0 ≤ s) (hb : 0 ≤ b ∧ b < 256) : s - s % 256 + xr (s % 256) b = xr s b := by
  obtain ⟨n, rfl⟩ := Int.eq_ofNat_of_zero_le hs
  obtain ⟨c, rfl⟩ := Int.eq_ofNat_of_zero_le hb.1
  have h1 : ((n : Int) % 256) = ((n % 256 : Nat) : Int) := by simp
  rw [h1]
  unfold xr
  simp only [Int.toNat_natCast]
  have h2 : (n ^^^ c) / 2 ^ 8 = n / 2 ^ 8 ^^^ c / 2 ^ 8 := Nat.xor_div_two_pow ..
  have h3 : (n ^^^ c) % 2 ^ 8 = n % 2 ^ 8 ^^^ c % 2 ^ 8 := Nat.xor_mod_two_pow ..
  have h4 : c / 2 ^ 8 = 0 := by omega
  have h5 : c % 2 ^ 8 = c := by omega
  rw [h4, Nat.xor_zero] at h2
  rw [h5] at h3
  have h6 : n % 256 ^^^ c = (n ^^^ c) % 256 := h3.symm
  rw [h6]
  omega
theorem xor_bits8 (s b : Int) (hs : 0 ≤ s ∧ s < 256) (hb : 0 ≤ b ∧ b < 256) : bits BinOp.xor IntKind.u8 s b = xr s b := by
  obtain ⟨n, rfl⟩ := Int.eq_ofNat_of_zero_le hs.1
  obtain ⟨k, rfl⟩ := Int.eq_ofNat_of_zero_le hb.1
  show IntKind.u8.wrap ((BitVec.ofInt 8 (n : Int) ^^^ BitVec.ofInt 8 (k : Int)).toNat : Int) = _
  have h1 : BitVec.ofInt 8 (n : Int) = BitVec.ofNat 8 n := by simp
  have h2 : BitVec.ofInt 8 (k : Int) = BitVec.ofNat 8 k := by simp
  have h3 : n ^^^ k < 2 ^ 8 := Nat.xor_lt_two_pow (by omega) (by omega)
  rw [h1, h2, BitVec.toNat_xor, BitVec.toNat_ofNat, BitVec.toNat_ofNat, Nat.mod_eq_of_lt (a := n) (by omega), Nat.mod_eq_of_lt (a := k) (by omega), xr, Int.toNat_natCast, Int.toNat_natCast]
  simp [IntKind.wrap, IntKind.bits, IntKind.signed]
  omega
theorem xr_in8 (s b : Int) (hs : 0 ≤ s ∧ s < 256) (hb : 0 ≤ b ∧ b < 256) : 0 ≤ xr s b ∧ xr s b < 256 := by
  have : s.toNat ^^^ b.toNat < 2 ^ 8 := Nat.xor_lt_two_pow (by omega) (by omega)
  unfold xr; omega
theorem xr_in64 (s b : Int) (hs : 0 ≤ s ∧ s < 18446744073709551616) (hb : 0 ≤ b ∧ b < 18446744073709551616) : 0 ≤ xr s b ∧ xr s b < 18446744073709551616 := by
  have : s.toNat ^^^ b.toNat < 2 ^ 64 := Nat.xor_lt_two_pow (by omega) (by omega)
  unfold xr; omega
set_option maxHeartbeats 800000 in
theorem refStep_any (s b : Int) (w : World) (hs : 0 ≤ s ∧ s < 18446744073709551616) (hb : 0 ≤ b ∧ b < 256) :
    Calls Try.prog 145 #[.int .u64 s, .int .u8 b] w fun e w' => e = .returned (.int .u64 (stp s b)) ∧ w = w' := by
  have hsp := xr_split s b hs.1 hb
  have hlo : 0 ≤ s % 256 ∧ s % 256 < 256 := by omega
  have hxb := xor_bits8 (s % 256) b hlo hb
  have hx8 := xr_in8 (s % 256) b hlo hb
  have hx64 := xr_in64 s b hs (by omega)
  have hst := stp_wrap s b
  obtain ⟨L, hL⟩ : ∃ L, s % 256 = L := ⟨_, rfl⟩
  rw [hL] at hsp hlo hxb hx8
  have hLs : L ≤ s := by omega
  obtain ⟨X, hX⟩ : ∃ X, xr L b = X := ⟨_, rfl⟩
  obtain ⟨Y, hY⟩ : ∃ Y, xr s b = Y := ⟨_, rfl⟩
  rw [hX] at hsp hxb hx8
  rw [hY] at hsp hx64 hst
  have w1 : IntKind.u8.wrap L = L := by simp [IntKind.wrap, IntKind.bits, IntKind.signed]; omega
  have w2 : IntKind.u64.wrap L = L := by simp [IntKind.wrap, IntKind.bits, IntKind.signed]; omega
  have w3 : IntKind.u64.wrap (s - L) = s - L := by simp [IntKind.wrap, IntKind.bits, IntKind.signed]; omega
  have w4 : IntKind.u64.wrap X = X := by simp [IntKind.wrap, IntKind.bits, IntKind.signed]; omega
  have w5 : IntKind.u64.wrap (s - L + X) = Y := by rw [hsp]; simp [IntKind.wrap, IntKind.bits, IntKind.signed]; omega
  have hL' := Lib.hid hL
  obtain ⟨h0, h1⟩ := hs
  clear hsp hX hY hL
  obtain ⟨R, hR⟩ : ∃ R, stp s b = R := ⟨_, rfl⟩
  rw [hR] at hst ⊢
  clear hR
  have hL := hL'.out
  go_enter Try.func145, Try.ntmps145
  go_wp2_with fail
  go_ret
  exact ⟨ret_int rfl, rfl⟩
end Go.Proofs.Ytmkcpnklaijkfaa
/-
  The contracts of the reference's sums of lists of words.
-/
namespace Go.Proofs.Ytmkcpnklaijkfaa
open Go.RowKit
set_option maxHeartbeats 3200000 in
theorem refBehind_any (s : Int) (l : List Int) (A : Option Addr) (c : Nat) (w : World) (hA : Sl w A l.length c (fU l)) (hs : 0 ≤ s ∧ s < 18446744073709551616) (wf : WfU l) :
    Calls Try.prog 141 #[.int .u64 s, .slice A l.length c] w fun e w' => e = .returned (.int .u64 (hsh s l)) ∧ Ext w w' := by
  have hlm := hA.max
  unfold maxLen at hlm
  have hlc := hA.le
  go_enter Try.func141, Try.ntmps141
  go_wp2_with fail
  go_loopw [0, 5, 7] (fun v i _ wr => ∃ k : Nat, k ≤ l.length ∧ i = .int .i64 k ∧ v = .int .u64 (hsh s (l.take k)) ∧ Ext w wr) (fun _ i _ _ => l.length - (intOf i).toNat)
  case atStart => exact ⟨0, Nat.zero_le _, rfl, rfl, Ext.refl w⟩
  case round =>
    obtain ⟨k, hk, rfl, rfl, hx⟩ := hrel
    by_cases hlt : k < l.length
    · obtain ⟨ad, x, rfl, hat, g⟩ := (hA.ext hx).u_at hlt
      have hS := hsh_in (l := l.take k) hs
      have hnx : hsh s (l.take (k + 1)) = stpB (hsh s (l.take k)) x 8 := by rw [List.take_add_one, hat, Option.toList_some, hsh_snoc]
      have hxi := wf x (List.mem_of_getElem? hat)
      obtain ⟨S, hSe⟩ : ∃ S, hsh s (l.take k) = S := ⟨_, rfl⟩
      rw [hSe] at hS hnx ⊢
      have HX := Lib.hid hnx
      clear hnx hat hSe
      go_wp2_with fail
      refine (refBytes_any x _ hxi).mono ?_
      rintro e w1 ⟨rfl, hx1⟩
      have hX1 := hx.trans hx1
      unfold bytesV
      have hbb : ∀ i, 0 ≤ byteAt x i ∧ byteAt x i < 256 := byteAt_in x
      obtain ⟨b0, e0⟩ : ∃ b, byteAt x 0 = b := ⟨_, rfl⟩
      obtain ⟨b1, e1⟩ : ∃ b, byteAt x 1 = b := ⟨_, rfl⟩
      obtain ⟨b2, e2⟩ : ∃ b, byteAt x 2 = b := ⟨_, rfl⟩
      obtain ⟨b3, e3⟩ : ∃ b, byteAt x 3 = b := ⟨_, rfl⟩
      obtain ⟨b4, e4⟩ : ∃ b, byteAt x 4 = b := ⟨_, rfl⟩
      obtain ⟨b5, e5⟩ : ∃ b, byteAt x 5 = b := ⟨_, rfl⟩
      obtain ⟨b6, e6⟩ : ∃ b, byteAt x 6 = b := ⟨_, rfl⟩
      obtain ⟨b7, e7⟩ : ∃ b, byteAt x 7 = b := ⟨_, rfl⟩
      rw [e0, e1, e2, e3, e4, e5, e6, e7]
      have HB := Lib.hid hbb
      have HE := Lib.hid (And.intro e0 (And.intro e1 (And.intro e2 (And.intro e3 (And.intro e4 (And.intro e5 (And.intro e6 e7)))))))
      clear hbb e0 e1 e2 e3 e4 e5 e6 e7
      go_wp2_with fail
      go_loopw [0, 7] (fun v i wr => ∃ j : Nat, j ≤ 8 ∧ i = .int .i64 j ∧ v = .int .u64 (stpB S x j) ∧ wr = w1.alloc (Obj.cells #[.int .u8 b0, .int .u8 b1, .int .u8 b2, .int .u8 b3, .int .u8 b4, .int .u8 b5, .int .u8 b6, .int .u8 b7] 172)) (fun _ i _ => 8 - (intOf i).toNat)
      case atStart => exact ⟨0, by omega, rfl, rfl, rfl⟩
      case round =>
        obtain ⟨j, hj, rfl, rfl, rfl⟩ := hrel
        have hin := stpB_in (w := x) hS j
        have hst : stpB S x (j + 1) = stp (stpB S x j) (byteAt x j) := rfl
        have hbj := HB.out j
        obtain ⟨T, hT⟩ : ∃ T, stpB S x j = T := ⟨_, rfl⟩
        rw [hT] at hin hst ⊢
        have HST := Lib.hid hst
        have HTT := Lib.hid hT
        clear hst hT
        rcases (by omega : j = 0 ∨ j = 1 ∨ j = 2 ∨ j = 3 ∨ j = 4 ∨ j = 5 ∨ j = 6 ∨ j = 7 ∨ j = 8) with rfl | rfl | rfl | rfl | rfl | rfl | rfl | rfl | rfl
        · rw [HE.out.1] at hbj
          have HT := Lib.hid (HST.out.trans (by rw [HE.out.1]))
          have hc := fun W => refStep_any T b0 W hin hbj
          have HC := Lib.hid hc
          clear hc
          go_wp2_with fail
          refine (HC.out _).mono ?_
          rintro e w' ⟨rfl, rfl⟩
          go_wp2_with fail
          go_roundw
          case rel => exact ⟨1, by omega, by go_num, by rw [HT.out], trivial⟩
          case measure => simp [intOf]
        · rw [HE.out.2.1] at hbj
          have HT := Lib.hid (HST.out.trans (by rw [HE.out.2.1]))
          have hc := fun W => refStep_any T b1 W hin hbj
          have HC := Lib.hid hc
          clear hc
          go_wp2_with fail
          refine (HC.out _).mono ?_
          rintro e w' ⟨rfl, rfl⟩
          go_wp2_with fail
          go_roundw
          case rel => exact ⟨2, by omega, by go_num, by rw [HT.out], trivial⟩
          case measure => simp [intOf]
        · rw [HE.out.2.2.1] at hbj
          have HT := Lib.hid (HST.out.trans (by rw [HE.out.2.2.1]))
          have hc := fun W => refStep_any T b2 W hin hbj
          have HC := Lib.hid hc
          clear hc
          go_wp2_with fail
          refine (HC.out _).mono ?_
          rintro e w' ⟨rfl, rfl⟩
          go_wp2_with fail
          go_roundw
          case rel => exact ⟨3, by omega, by go_num, by rw [HT.out], trivial⟩
          case measure => simp [intOf]
        · rw [HE.out.2.2.2.1] at hbj
          have HT := Lib.hid (HST.out.trans (by rw [HE.out.2.2.2.1]))
          have hc := fun W => refStep_any T b3 W hin hbj
          have HC := Lib.hid hc
          clear hc
          go_wp2_with fail
          refine (HC.out _).mono ?_
          rintro e w' ⟨rfl, rfl⟩
          go_wp2_with fail
          go_roundw
          case rel => exact ⟨4, by omega, by go_num, by rw [HT.out], trivial⟩
          case measure => simp [intOf]
        · rw [HE.out.2.2.2.2.1] at hbj
          have HT := Lib.hid (HST.out.trans (by rw [HE.out.2.2.2.2.1]))
          have hc := fun W => refStep_any T b4 W hin hbj
          have HC := Lib.hid hc
          clear hc
          go_wp2_with fail
          refine (HC.out _).mono ?_
          rintro e w' ⟨rfl, rfl⟩
          go_wp2_with fail
          go_roundw
          case rel => exact ⟨5, by omega, by go_num, by rw [HT.out], trivial⟩
          case measure => simp [intOf]
        · rw [HE.out.2.2.2.2.2.1] at hbj
          have HT := Lib.hid (HST.out.trans (by rw [HE.out.2.2.2.2.2.1]))
          have hc := fun W => refStep_any T b5 W hin hbj
          have HC := Lib.hid hc
          clear hc
          go_wp2_with fail
          refine (HC.out _).mono ?_
          rintro e w' ⟨rfl, rfl⟩
          go_wp2_with fail
          go_roundw
          case rel => exact ⟨6, by omega, by go_num, by rw [HT.out], trivial⟩
          case measure => simp [intOf]
        · rw [HE.out.2.2.2.2.2.2.1] at hbj
          have HT := Lib.hid (HST.out.trans (by rw [HE.out.2.2.2.2.2.2.1]))
          have hc := fun W => refStep_any T b6 W hin hbj
          have HC := Lib.hid hc
          clear hc
          go_wp2_with fail
          refine (HC.out _).mono ?_
          rintro e w' ⟨rfl, rfl⟩
          go_wp2_with fail
          go_roundw
          case rel => exact ⟨7, by omega, by go_num, by rw [HT.out], trivial⟩
          case measure => simp [intOf]
        · rw [HE.out.2.2.2.2.2.2.2] at hbj
          have HT := Lib.hid (HST.out.trans (by rw [HE.out.2.2.2.2.2.2.2]))
          have hc := fun W => refStep_any T b7 W hin hbj
          have HC := Lib.hid hc
          clear hc
          go_wp2_with fail
          refine (HC.out _).mono ?_
          rintro e w' ⟨rfl, rfl⟩
          go_wp2_with fail
          go_roundw
          case rel => exact ⟨8, by omega, by go_num, by rw [HT.out], trivial⟩
          case measure => simp [intOf]
        · go_wp2_with fail
          go_roundw
          case rel => exact ⟨k + 1, by omega, by go_num, by rw [HX.out, HTT.out], hX1.alloc _⟩
          case measure => simp [intOf]; omega
    · obtain rfl : k = l.length := by omega
      rw [List.take_length]
      go_wp2_with fail
      go_ret
      exact ⟨rfl, hx⟩
theorem refSumOf_any (l : List Int) (A : Option Addr) (c : Nat) (w : World) (hA : Sl w A l.length c (fU l)) (wf : WfU l) :
    Calls Try.prog 129 #[.slice A l.length c] w fun e w' => e = .returned (.int .u64 (sumOf l)) ∧ Ext w w' := by
  go_enter Try.func129, Try.ntmps129
  go_wp2_with fail
  refine (refBehind_any 14695981039346656037 l A c w hA (by decide) wf).mono ?_
  rintro e w1 ⟨rfl, hx⟩
  go_wp2_with fail
  go_ret
  exact ⟨rfl, hx⟩
theorem refPart_any (l : List Int) (A : Option Addr) (c : Nat) (w : World) (hA : Sl w A l.length c (fU l)) (wf : WfU l) :
    Calls Try.prog 113 #[.slice A l.length c, .int .i64 58] w fun e w' => e = .returned (.int .u64 (sumOf l % 288230376151711744)) ∧ Ext w w' := by
  have hi := sumOf_in l
  go_enter Try.func113, Try.ntmps113
  go_wp2_with fail
  refine (refSumOf_any l A c w hA wf).mono ?_
  rintro e w1 ⟨rfl, hx⟩
  go_wp2_with fail
  refine (value_any (sumOf l) 58 w1 ⟨hi.1, by omega⟩ (by decide)).mono ?_
  rintro e w2 ⟨rfl, rfl⟩
  go_wp2_with fail
  go_ret
  exact ⟨rfl, hx⟩
end Go.Proofs.Ytmkcpnklaijkfaa
/-
  The contracts of the reference's commit words, and of reading what is committed.
-/
namespace Go.Proofs.Ytmkcpnklaijkfaa
open Go.RowKit
theorem wfU_listed {l : List (Int × Int)} (hs : Small l) (wf : WfE l) : WfU (listed l) := by
  induction l with
  | nil => intro x hx; cases hx
  | cons e l ih =>
    intro x hx
    simp only [listed, List.mem_cons] at hx
    have h1 := hs e (List.mem_cons_self ..)
    have h2 := wf e (List.mem_cons_self ..)
    rcases hx with rfl | rfl | hx
    · exact ⟨h1.1, by omega⟩
    · exact h2.2
    · exact ih (fun y hy => hs y (List.mem_cons_of_mem _ hy)) (fun y hy => wf y (List.mem_cons_of_mem _ hy)) x hx
theorem refPart_at (l : List Int) (n : Nat) (hn : l.length = n) (A : Option Addr) (c : Nat) (w : World) (hA : Sl w A n c (fU l)) (wf : WfU l) :
    Calls Try.prog 113 #[.slice A n c, .int .i64 58] w fun e w' => e = .returned (.int .u64 (sumOf l % 288230376151711744)) ∧ Ext w w' := by
  subst hn
  exact refPart_any l A c w hA wf
set_option maxHeartbeats 800000 in
theorem refOf_any (l : List (Int × Int)) (A : Option Addr) (c : Nat) (w : World) (hA : Sl w A l.length c (fE l)) (hs : Small l) (hl : l.length ≤ 32) (wf : WfE l) :
    Calls Try.prog 86 #[.slice A l.length c] w fun e w' => e = .returned (.int .u64 (cword l)) ∧ Ext w w' := by
  have hi := sumOf_in (listed l)
  have hwl := wfU_listed hs wf
  have hll := listed_length l
  obtain ⟨S, hS⟩ : ∃ S, sumOf (listed l) % 288230376151711744 = S := ⟨_, rfl⟩
  have hpa := fun A c W (h : Sl W A (2 * l.length) c (fU (listed l))) => refPart_at (listed l) _ hll A c W h hwl
  rw [hS] at hpa
  have hS0 : 0 ≤ S ∧ S < 288230376151711744 := by omega
  have w1 : IntKind.u64.wrap (S * 64) = S * 64 := by simp [IntKind.wrap, IntKind.bits, IntKind.signed]; omega
  have w2 : IntKind.u64.wrap (l.length : Int) = l.length := by simp [IntKind.wrap, IntKind.bits, IntKind.signed]; omega
  have w3 : IntKind.u64.wrap (S * 64 + l.length) = S * 64 + l.length := by simp [IntKind.wrap, IntKind.bits, IntKind.signed]; omega
  have hcw : cword l = S * 64 + l.length := by unfold cword; rw [hS]
  have HH := Lib.hid (And.intro hpa hcw)
  clear hpa hcw hS hwl hll hi
  go_enter Try.func86, Try.ntmps86
  go_wp2_with fail
  refine (refListed_any l A c w hA hs (by omega)).mono ?_
  rintro e w1 ⟨A1, c1, rfl, _, hA1, hx1⟩
  go_wp2_with fail
  refine (HH.out.1 A1 c1 w1 hA1).mono ?_
  rintro e w2 ⟨rfl, hx2⟩
  go_wp2_with fail
  go_ret
  exact ⟨ret_int HH.out.2.symm, hx1.trans hx2⟩
set_option maxHeartbeats 3200000 in
theorem refCRead_any (m : List Int) (A : Option Addr) (c : Nat) (w : World) (hA : Sl w A m.length c (fU m)) (wf : WfU m) :
    Calls Try.prog 81 #[.slice A m.length c] w (RetE w (crL m) (crE m)) := by
  cases hs : sizeB (m.length : Int) with
  | false =>
    have hi : imgE (m.length : Int) = 8 := by simp [imgE, hs]
    have hr : crE m = 8 := by simp [crE, hs]
    have hl : crL m = [] := by simp [crL, hs]
    rw [hr, hl]
    clear hr hl
    go_enter Try.func81, Try.ntmps81
    go_wp2_with fail
    refine (refCheck2_any _ _ _ _).mono ?_
    rintro e w' ⟨rfl, rfl⟩
    go_wp2_with fail
    go_ret2
    exact retE_nil (Ext.refl w)
  | true =>
    have hi : imgE (m.length : Int) = 0 := by simp [imgE, hs]
    have hsz := sizeB_bd hs
    obtain ⟨ad, x, rfl, hx, g⟩ := hA.u_at (k := 24) (by omega)
    have hj : jw m = x := jw_at hx
    rw [add_lit_ ad 23] at g
    have hin : InU x := wf x (List.mem_of_getElem? hx)
    by_cases hz : x = 0
    · subst hz
      have hr : crE m = 0 := by simp only [crE, hs, if_true]; rw [if_pos (.inl hj)]
      have hl : crL m = [] := by
        have : crB m = false := by simp [crB, hj, cntB_zero]
        simp [crL, this]
      rw [hr, hl]
      clear hr hl hj hx
      go_enter Try.func81, Try.ntmps81
      go_wp2_with fail
      refine (refCheck2_any _ _ _ _).mono ?_
      rintro e w' ⟨rfl, rfl⟩
      go_wp2_with fail
      refine (refCount_any _ _ hin).mono ?_
      rintro e w' ⟨rfl, rfl⟩
      go_wp2_with fail
      go_ret2
      exact retE_nil (Ext.refl w)
    · cases hc : cntB x with
      | false =>
        have hce : cntE x = 50 := by simp [cntE, hz, hc]
        have hb : crB m = false := by simp [crB, hj, hc]
        have hr : crE m = 50 := by simp [crE, hs, hb, hj, hz]
        have hl : crL m = [] := by simp [crL, hb]
        rw [hr, hl]
        clear hr hl hj hx hb
        go_enter Try.func81, Try.ntmps81
        go_wp2_with fail
        refine (refCheck2_any _ _ _ _).mono ?_
        rintro e w' ⟨rfl, rfl⟩
        go_wp2_with fail
        refine (refCount_any _ _ hin).mono ?_
        rintro e w' ⟨rfl, rfl⟩
        go_wp2_with fail
        go_ret2
        exact retE_nil (Ext.refl w)
      | true =>
        obtain ⟨c1, c2⟩ := cntB_bd hc
        have hce : cntE x = 0 := by simp [cntE, hz, hc]
        have hcn : cntN x = x % 64 := by simp [cntN, hc]
        obtain ⟨t, ht⟩ : ∃ t : Nat, x % 64 = (t : Int) := Int.eq_ofNat_of_zero_le (by omega)
        have htn : cn m = t := by unfold cn; rw [hj, ht]; rfl
        have hjl := jnl_length m t
        have hjw := jnl_wf wf (by omega) t
        have hRJ := fun W (h : Sl W (some ad) m.length c (fU m)) => refJournal_any m t (some ad) c W h wf hs (by omega)
        by_cases h0 : chkE (jnl m t) m.length = 0
        · obtain ⟨hsm, _⟩ := chk_small h0
          by_cases hw : cword (jnl m t) = x
          · have hb : crB m = true := by simp [crB, htn, hj, hc, h0, hw]
            have hr : crE m = 0 := by simp only [crE, hs, if_true]; rw [if_pos (.inr hb)]
            have hl : crL m = jnl m t := by simp only [crL, hs, hb, htn]; simp
            rw [hr, hl]
            have hw' : (cword (jnl m t) != x) = false := by simpa using hw
            have HH := Lib.hid (And.intro hRJ (And.intro h0 (And.intro hw hjl)))
            clear hr hl hj hx hb htn h0 hRJ hw hjl hc
            rw [ht] at hcn c1 c2
            clear ht
            go_enter Try.func81, Try.ntmps81
            go_wp2_with fail
            refine (refCheck2_any _ _ _ _).mono ?_
            rintro e w' ⟨rfl, rfl⟩
            go_wp2_with fail
            refine (refCount_any _ _ hin).mono ?_
            rintro e w' ⟨rfl, rfl⟩
            go_wp2_with fail
            refine (HH.out.1 w hA).mono ?_
            rintro e w1 (⟨_, A1, c1', rfl, _, hA1, hx1⟩ | ⟨hne, _⟩)
            case inr => exact absurd HH.out.2.1 hne
            have hOf := fun W (h : Sl W A1 (jnl m t).length c1' (fE (jnl m t))) => refOf_any (jnl m t) A1 c1' W h hsm (by omega) hjw
            rw [HH.out.2.2.2] at hOf
            have HO := Lib.hid hOf
            have g1 := hx1.cell g
            have i24 : (24 : Int) < m.length := by omega
            clear hOf
            go_wp2_with fail
            go_region_with (go_at_call 86; refine (HO.out _ (hA1.ext (by repeat (first | assumption | exact Ext.refl _ | refine Ext.drewN ?_ _ | refine Ext.drew ?_ | refine Ext.alloc ?_ _ | refine Ext.trans ?_ (by assumption))))).mono ?_; rintro e w2 ⟨rfl, hx2⟩; have g2 := hx2.cell (by assumption))
            all_goals
              go_wp2_with fail
              go_ret2
              exact retE_at HH.out.2.2.2 (hA1.ext (by repeat (first | assumption | exact Ext.refl _ | refine Ext.drewN ?_ _ | refine Ext.drew ?_ | refine Ext.alloc ?_ _ | refine Ext.trans ?_ (by assumption)))) (by repeat (first | assumption | exact Ext.refl _ | refine Ext.drewN ?_ _ | refine Ext.drew ?_ | refine Ext.alloc ?_ _ | refine Ext.trans ?_ (by assumption)))
          · have hb : crB m = false := by simp [crB, htn, hj, hw]
            have hr : crE m = 50 := by simp [crE, hs, hb, hj, hz]
            have hl : crL m = [] := by simp [crL, hb]
            rw [hr, hl]
            have hw' : (cword (jnl m t) != x) = true := by simpa using hw
            have HH := Lib.hid (And.intro hRJ (And.intro h0 hjl))
            clear hr hl hj hx hb htn h0 hRJ hw hjl hc
            rw [ht] at hcn c1 c2
            clear ht
            go_enter Try.func81, Try.ntmps81
            go_wp2_with fail
            refine (refCheck2_any _ _ _ _).mono ?_
            rintro e w' ⟨rfl, rfl⟩
            go_wp2_with fail
            refine (refCount_any _ _ hin).mono ?_
            rintro e w' ⟨rfl, rfl⟩
            go_wp2_with fail
            refine (HH.out.1 w hA).mono ?_
            rintro e w1 (⟨_, A1, c1', rfl, _, hA1, hx1⟩ | ⟨hne, _⟩)
            case inr => exact absurd HH.out.2.1 hne
            have hOf := fun W (h : Sl W A1 (jnl m t).length c1' (fE (jnl m t))) => refOf_any (jnl m t) A1 c1' W h hsm (by omega) hjw
            rw [HH.out.2.2] at hOf
            have HO := Lib.hid hOf
            have g1 := hx1.cell g
            have i24 : (24 : Int) < m.length := by omega
            clear hOf
            go_wp2_with fail
            go_region_with (go_at_call 86; refine (HO.out _ (hA1.ext (by repeat (first | assumption | exact Ext.refl _ | refine Ext.drewN ?_ _ | refine Ext.drew ?_ | refine Ext.alloc ?_ _ | refine Ext.trans ?_ (by assumption))))).mono ?_; rintro e w2 ⟨rfl, hx2⟩; have g2 := hx2.cell (by assumption))
            all_goals
              go_wp2_with fail
              go_ret2
              exact retE_nil (by repeat (first | assumption | exact Ext.refl _ | refine Ext.drewN ?_ _ | refine Ext.drew ?_ | refine Ext.alloc ?_ _ | refine Ext.trans ?_ (by assumption)))
        · have hb : crB m = false := by simp [crB, htn, hj, h0]
          have hr : crE m = 50 := by simp [crE, hs, hb, hj, hz]
          have hl : crL m = [] := by simp [crL, hb]
          rw [hr, hl]
          have HH := Lib.hid (And.intro hRJ h0)
          clear hr hl hj hx hb htn h0 hRJ hjl hc
          rw [ht] at hcn c1 c2
          clear ht
          go_enter Try.func81, Try.ntmps81
          go_wp2_with fail
          refine (refCheck2_any _ _ _ _).mono ?_
          rintro e w' ⟨rfl, rfl⟩
          go_wp2_with fail
          refine (refCount_any _ _ hin).mono ?_
          rintro e w' ⟨rfl, rfl⟩
          go_wp2_with fail
          refine (HH.out.1 w hA).mono ?_
          rintro e w1 (⟨heq, _⟩ | ⟨_, A1, k1, c1', rfl, hx1⟩)
          · exact absurd heq HH.out.2
          go_wp2_with fail
          go_quiet (fail)
          go_wp2_with fail
          go_ret2
          exact retE_nil (by repeat (first | assumption | exact Ext.refl _ | refine Ext.drewN ?_ _ | refine Ext.drew ?_ | refine Ext.alloc ?_ _ | refine Ext.trans ?_ (by assumption)))
end Go.Proofs.Ytmkcpnklaijkfaa
/-
  The contracts of the words of the journal.
-/
namespace Go.Proofs.Ytmkcpnklaijkfaa
open Go.RowKit
theorem jwords_length (l : List (Int × Int)) : (jwords l).length = 8 + 2 * l.length := by
  simp [jwords, listed_length]; omega
/-- What the journal's words are, and the error. -/
def jrL (l : List (Int × Int)) (words : Int) : List Int := if cwE l words = 0 then jwords l else []
theorem cwE_ok {l : List (Int × Int)} {words : Int} (h : cwE l words = 0) : chkE l words = 0 ∧ l.length ≠ 0 := by
  unfold cwE at h
  split at h
  · split at h
    · cases h
    · exact ⟨by assumption, by assumption⟩
  · rename_i h0; exact absurd h h0
set_option maxRecDepth 100000 in
set_option maxHeartbeats 1600000 in
theorem journal_any (l : List (Int × Int)) (words : Int) (A : Option Addr) (c : Nat) (w : World) (hA : Sl w A l.length c (fE l)) (wf : WfE l) :
    Calls Try.prog 26 #[.slice A l.length c, .int .i64 words] w (RetU w (jrL l words) (cwE l words)) := by
  by_cases h0 : cwE l words = 0
  · obtain ⟨hc, hn⟩ := cwE_ok h0
    have hl32 := (chk_iff.1 hc).2.1
    have hcw := fun W (h : Sl W A l.length c (fE l)) => commitWord_any l words A c W h wf
    rw [h0, if_pos rfl] at hcw
    have hr : jrL l words = jwords l := by simp [jrL, h0]
    rw [hr, h0]
    have hll := listed_length l
    obtain ⟨L, hL⟩ : ∃ L, jwords l = L := ⟨_, rfl⟩
    have hLl : L.length = 8 + 2 * l.length := by rw [← hL]; exact jwords_length l
    obtain ⟨C, hC⟩ : ∃ C, cword l = C := ⟨_, rfl⟩
    rw [hC] at hcw
    have HH := Lib.hid (And.intro hcw hc)
    have HL := Lib.hid (And.intro hL (And.intro hC (And.intro hLl hll)))
    rw [hL]
    clear hcw hr h0 hc hL hC hLl hll
    go_enter Try.func26, Try.ntmps26
    go_wp2_with fail
    refine (HH.out.1 _ hA).mono ?_
    rintro e w1 ⟨rfl, hx1⟩
    go_wp2_with (at_make; refine wpList_zeros rfl _ _ rfl 8 (by decide) _ _ _ _ rfl rfl rfl rfl ?_; intro w2 hown hx2 hz2; obtain ⟨y, hy, hcl, hfz⟩ := own_at_U hown (i := 0) (by decide); clear hy)
    have hown3 := own_set_U hown 0 C
    have hx3 : Ext w (w2.setCell ⟨w1.heap.size, 0, none⟩ (.int .u64 C)) := (hx1.trans hx2).setCell hx1.size _
    refine (entryWords_any l words A c _ (hA.ext hx3) wf).mono ?_
    rintro e w4 (⟨_, A4, c4, rfl, _, hA4, hx4⟩ | ⟨hne, _⟩)
    case inr => exact absurd HH.out.2 hne
    have hown4 := own_base (own_ext hown3 hx4) hx1.size
    have hX : Ext w w4 := hx3.trans hx4
    have hsz := hX.size
    clear hown hown3 hcl hfz
    go_wp2_with (at_builtin; refine wpList_app EU rfl (.tmp 29) (.tmp 30) rfl rfl hown4 rfl hA4 (by rw [fU_length]; have := HL.out.2.2.2; omega) (fU_one _) (by omega) hsz ?_; intro v' w5 hown5 hbel hat hgr)
    obtain ⟨A5, c5, rfl, hA5⟩ := Sl.of_own hown5
    go_ret2
    have hxs : fU ((zerosU 8).set 0 C) ++ fU (listed l) = fU L := by
      rw [← fU_append, ← HL.out.1, ← HL.out.2.1]; rfl
    rw [hxs] at hA5
    exact retU_at HL.out.2.2.1 hA5 (Below.trans hX hbel)
  · have hcw := commitWord_any l words A c w hA wf
    rw [if_neg h0] at hcw
    have hr : jrL l words = [] := by simp [jrL, h0]
    have hb : (cwE l words != 0) = true := by simpa using h0
    rw [hr]
    clear hr
    go_enter Try.func26, Try.ntmps26
    go_wp2_with fail
    refine hcw.mono ?_
    rintro e w1 ⟨rfl, hx1⟩
    go_wp2_with fail
    go_ret2
    exact retU_nil hx1
end Go.Proofs.Ytmkcpnklaijkfaa
/-
  What is committed in an image whose journal holds a change: the plain laws.
-/
namespace Go.Proofs.Ytmkcpnklaijkfaa
open Go.RowKit
/-- The journal of an image holds a change, with its commit word. -/
def JHas (x : List Int) (l : List (Int × Int)) : Prop :=
  jw x = cword l ∧ ∀ i e, l[i]? = some e → x.getD (32 + 2 * i) 0 = e.1 ∧ x.getD (33 + 2 * i) 0 = e.2
theorem jnl_has {x : List Int} {l : List (Int × Int)} (h : chkE l x.length = 0) (hj : ∀ i e, l[i]? = some e → x.getD (32 + 2 * i) 0 = e.1 ∧ x.getD (33 + 2 * i) 0 = e.2) : jnl x l.length = l := by
  obtain ⟨hs, hl, hm, _⟩ := chk_iff.1 h
  apply List.ext_getElem?
  intro i
  by_cases hi : i < l.length
  · have hx : l[i]? = some l[i] := List.getElem?_eq_getElem hi
    obtain ⟨h0, h1⟩ := hj i _ hx
    have hb := mayB_bd (hm _ (List.getElem_mem hi))
    rw [hx, jnl, List.getElem?_map, List.getElem?_range hi]
    simp only [Option.map_some]
    rw [jat_plain (by rw [h0]; omega), h0, h1]
  · rw [List.getElem?_eq_none (by rw [jnl_length]; omega), List.getElem?_eq_none (by omega)]
theorem cw_facts {l : List (Int × Int)} {n : Int} (h : chkE l n = 0) (hn : l.length ≠ 0) : 0 < cword l ∧ cword l % 64 = l.length ∧ cntB (cword l) = true ∧ cwE l n = 0 ∧ InU (cword l) := by
  have hl := (chk_iff.1 h).2.1
  obtain ⟨p0, p1, p2⟩ := cword_pos (l := l) (by omega) hl
  have hi := cword_in hl
  refine ⟨p0, p1, ?_, ?_, ?_⟩
  · simp [cntB, p1]; omega
  · simp [cwE, h, hn]
  · unfold InU; omega
theorem cr_has {x : List Int} {l : List (Int × Int)} (h : chkE l x.length = 0) (hn : l.length ≠ 0) (hj : JHas x l) : crB x = true ∧ crE x = 0 ∧ crL x = l := by
  obtain ⟨p0, p1, p2, _⟩ := cw_facts h hn
  have hs := (chk_iff.1 h).1
  have hc : cn x = l.length := by unfold cn; rw [hj.1, p1]; rfl
  have hjl := jnl_has h hj.2
  have hb : crB x = true := by
    unfold crB
    rw [hc, hjl, hj.1, p2, h]
    simp
  refine ⟨hb, ?_, ?_⟩
  · unfold crE; rw [if_pos hs, if_pos (.inr hb)]
  · unfold crL; rw [if_pos ⟨hs, hb⟩, hc, hjl]
theorem cr_zero {x : List Int} (hs : sizeB x.length = true) (h : jw x = 0) : crB x = false ∧ crE x = 0 ∧ crL x = [] := by
  have hb : crB x = false := by simp [crB, h, cntB_zero]
  refine ⟨hb, ?_, ?_⟩
  · unfold crE; rw [if_pos hs, if_pos (.inl h)]
  · simp [crL, hb]
theorem wf_splice' {m cs : List Int} {off : Nat} (hm : WfU m) (hc : WfU cs) : WfU (splice m off cs) := by
  intro y hy
  simp only [splice, List.mem_append] at hy
  rcases hy with h1 | h1 | h1
  · exact hm _ (List.mem_of_mem_take h1)
  · exact hc _ h1
  · exact hm _ (List.mem_of_mem_drop h1)
theorem wf_jwords {l : List (Int × Int)} {n : Int} (h : chkE l n = 0) (hn : l.length ≠ 0) (wf : WfE l) : WfU (jwords l) := by
  intro y hy
  simp only [jwords, List.cons_append, List.mem_cons, List.mem_append] at hy
  rcases hy with rfl | h1 | h1
  · exact (cw_facts h hn).2.2.2.2
  · have := List.eq_of_mem_replicate h1
    subst this
    unfold InU; decide
  · exact wfU_listed (chk_small h).1 wf y h1
theorem jwords_at {l : List (Int × Int)} {i : Nat} {e : Int × Int} (h : l[i]? = some e) : (jwords l)[8 + 2 * i]? = some e.1 ∧ (jwords l)[9 + 2 * i]? = some e.2 := by
  have := listed_at h
  have e1 : jwords l = (cword l :: List.replicate 7 0) ++ listed l := rfl
  rw [e1, List.getElem?_append_right (by simp <;> omega), List.getElem?_append_right (by simp <;> omega)]
  simp only [List.length_cons, List.length_replicate]
  rw [show 8 + 2 * i - (7 + 1) = 2 * i from by omega, show 9 + 2 * i - (7 + 1) = 2 * i + 1 from by omega]
  exact this
theorem splice_out {m cs : List Int} {off j : Nat} (h : off + cs.length ≤ m.length) (hj : j < off ∨ off + cs.length ≤ j) : (splice m off cs)[j]? = m[j]? := by
  rcases hj with hj | hj
  · rw [splice, List.getElem?_append_left (by simp; omega), List.getElem?_take, if_pos hj]
  · rw [splice, List.getElem?_append_right (by simp; omega), List.getElem?_append_right (by simp; omega), List.getElem?_drop]
    congr 1
    simp
    omega
theorem put_has {m : List Int} {l : List (Int × Int)} (h : chkE l m.length = 0) : (splice m 24 (jwords l)).length = m.length ∧ JHas (splice m 24 (jwords l)) l := by
  obtain ⟨hs, hl, _, _⟩ := chk_iff.1 h
  have hsz := sizeB_bd hs
  have hjl := jwords_length l
  refine ⟨splice_len (by omega), ?_, fun i e he => ?_⟩
  · exact splice_in (j := 0) (by omega) rfl
  · obtain ⟨h0, h1⟩ := jwords_at he
    exact ⟨by rw [show 32 + 2 * i = 24 + (8 + 2 * i) from by omega]; exact splice_in (by omega) h0, by rw [show 33 + 2 * i = 24 + (9 + 2 * i) from by omega]; exact splice_in (by omega) h1⟩
end Go.Proofs.Ytmkcpnklaijkfaa
