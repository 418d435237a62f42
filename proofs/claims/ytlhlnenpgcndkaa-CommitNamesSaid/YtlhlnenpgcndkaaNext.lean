/-
  The contract of the sum of words.
-/
import Derived.Test.YtlhlnenpgcndkaaBytes
namespace Go.Proofs.Ytlhlnenpgcndkaa
open Go.RowKit
theorem idx8 (y0 y1 y2 y3 y4 y5 y6 y7 : Value) : (∀ w, (Instr.index 89 (.agg #[y0, y1, y2, y3, y4, y5, y6, y7]) (.int .i64 0)).run Try.prog w = .ok y0 w) ∧ (∀ w, (Instr.index 89 (.agg #[y0, y1, y2, y3, y4, y5, y6, y7]) (.int .i64 1)).run Try.prog w = .ok y1 w) ∧ (∀ w, (Instr.index 89 (.agg #[y0, y1, y2, y3, y4, y5, y6, y7]) (.int .i64 2)).run Try.prog w = .ok y2 w) ∧ (∀ w, (Instr.index 89 (.agg #[y0, y1, y2, y3, y4, y5, y6, y7]) (.int .i64 3)).run Try.prog w = .ok y3 w) ∧ (∀ w, (Instr.index 89 (.agg #[y0, y1, y2, y3, y4, y5, y6, y7]) (.int .i64 4)).run Try.prog w = .ok y4 w) ∧ (∀ w, (Instr.index 89 (.agg #[y0, y1, y2, y3, y4, y5, y6, y7]) (.int .i64 5)).run Try.prog w = .ok y5 w) ∧ (∀ w, (Instr.index 89 (.agg #[y0, y1, y2, y3, y4, y5, y6, y7]) (.int .i64 6)).run Try.prog w = .ok y6 w) ∧ (∀ w, (Instr.index 89 (.agg #[y0, y1, y2, y3, y4, y5, y6, y7]) (.int .i64 7)).run Try.prog w = .ok y7 w) :=
  ⟨fun _ => by kernel_rfl, fun _ => by kernel_rfl, fun _ => by kernel_rfl, fun _ => by kernel_rfl, fun _ => by kernel_rfl, fun _ => by kernel_rfl, fun _ => by kernel_rfl, fun _ => by kernel_rfl⟩
theorem xor_bits (s b : Int) (hs : 0 ≤ s ∧ s < 18446744073709551616) (hb : 0 ≤ b ∧ b < 256) : bits BinOp.xor IntKind.u64 s b = xr s b := by
  obtain ⟨n, rfl⟩ := Int.eq_ofNat_of_zero_le hs.1
  obtain ⟨k, rfl⟩ := Int.eq_ofNat_of_zero_le hb.1
  show IntKind.u64.wrap ((BitVec.ofInt 64 (n : Int) ^^^ BitVec.ofInt 64 (k : Int)).toNat : Int) = _
  have h1 : BitVec.ofInt 64 (n : Int) = BitVec.ofNat 64 n := by simp
  have h2 : BitVec.ofInt 64 (k : Int) = BitVec.ofNat 64 k := by simp
  have h3 : n ^^^ k < 2 ^ 64 := Nat.xor_lt_two_pow (by omega) (by omega)
  rw [h1, h2, BitVec.toNat_xor, BitVec.toNat_ofNat, BitVec.toNat_ofNat, Nat.mod_eq_of_lt (a := n) (by omega), Nat.mod_eq_of_lt (a := k) (by omega), xr, Int.toNat_natCast, Int.toNat_natCast]
  simp [IntKind.wrap, IntKind.bits, IntKind.signed]
  omega
theorem stp_wrap (s b : Int) : IntKind.u64.wrap (xr s b * 1099511628211) = stp s b := by
  simp [IntKind.wrap, IntKind.bits, IntKind.signed, stp]
theorem byte_wrap (x : Int) (i : Nat) : IntKind.u64.wrap (byteAt x i) = byteAt x i := by
  have := byteAt_in x i
  simp [IntKind.wrap, IntKind.bits, IntKind.signed]
  omega
set_option maxHeartbeats 3200000 in
theorem next_any (s : Int) (l : List Int) (A : Option Addr) (c : Nat) (w : World) (hA : Sl w A l.length c (fU l)) (hs : 0 ≤ s ∧ s < 18446744073709551616) (hl : l.length ≤ 2048) :
    Calls Try.prog 54 #[.int .u64 s, .slice A l.length c] w fun e w' => e = .returned (.tuple #[.int .u64 (hsh s l), .int .i64 0]) ∧ Ext w w' := by
  go_enter Try.func54, Try.ntmps54
  go_wp2_with fail
  go_loopw [0, 7, 9, 15] (fun v _ _ i wr => ∃ k : Nat, k ≤ l.length ∧ i = .int .i64 k ∧ v = .int .u64 (hsh s (l.take k)) ∧ Ext w wr) (fun _ _ _ i _ => l.length - (intOf i).toNat)
  case atStart => exact ⟨0, Nat.zero_le _, rfl, rfl, Ext.refl w⟩
  case round =>
    obtain ⟨k, hk, rfl, rfl, hx⟩ := hrel
    by_cases hlt : k < l.length
    · obtain ⟨ad, x, rfl, hat, g⟩ := (hA.ext hx).u_at hlt
      have hS := hsh_in (l := l.take k) hs
      have hnx : hsh s (l.take (k + 1)) = stpB (hsh s (l.take k)) x 8 := by rw [List.take_add_one, hat, Option.toList_some, hsh_snoc]
      obtain ⟨S, hSe⟩ : ∃ S, hsh s (l.take k) = S := ⟨_, rfl⟩
      rw [hSe] at hS hnx ⊢
      have HX := Lib.hid hnx
      clear hnx hat hSe
      go_wp2_with fail
      refine (bytes_any x _).mono ?_
      rintro e w1 ⟨rfl, hx1⟩
      have hX1 := hx.trans hx1
      unfold bytesV
      obtain ⟨b0, e0⟩ : ∃ b, byteAt x 0 = b := ⟨_, rfl⟩
      obtain ⟨b1, e1⟩ : ∃ b, byteAt x 1 = b := ⟨_, rfl⟩
      obtain ⟨b2, e2⟩ : ∃ b, byteAt x 2 = b := ⟨_, rfl⟩
      obtain ⟨b3, e3⟩ : ∃ b, byteAt x 3 = b := ⟨_, rfl⟩
      obtain ⟨b4, e4⟩ : ∃ b, byteAt x 4 = b := ⟨_, rfl⟩
      obtain ⟨b5, e5⟩ : ∃ b, byteAt x 5 = b := ⟨_, rfl⟩
      obtain ⟨b6, e6⟩ : ∃ b, byteAt x 6 = b := ⟨_, rfl⟩
      obtain ⟨b7, e7⟩ : ∃ b, byteAt x 7 = b := ⟨_, rfl⟩
      obtain ⟨i0, i1, i2, i3, i4, i5, i6, i7⟩ := idx8 (.int .u8 b0) (.int .u8 b1) (.int .u8 b2) (.int .u8 b3) (.int .u8 b4) (.int .u8 b5) (.int .u8 b6) (.int .u8 b7)
      rw [e0, e1, e2, e3, e4, e5, e6, e7]
      go_wp2_with fail
      go_loopw [0, 9, 21] (fun v _ i wr => ∃ j : Nat, j ≤ 8 ∧ i = .int .i64 j ∧ v = .int .u64 (stpB S x j) ∧ wr = w1) (fun _ _ i _ => 8 - (intOf i).toNat)
      case atStart => exact ⟨0, by omega, rfl, rfl, rfl⟩
      case round =>
        obtain ⟨j, hj, rfl, rfl, rfl⟩ := hrel
        rcases (by omega : j = 0 ∨ j = 1 ∨ j = 2 ∨ j = 3 ∨ j = 4 ∨ j = 5 ∨ j = 6 ∨ j = 7 ∨ j = 8) with rfl | rfl | rfl | rfl | rfl | rfl | rfl | rfl | rfl
        · have hin := stpB_in (w := x) hS 0
          have hst : stpB S x 1 = stp (stpB S x 0) b0 := by rw [← e0]; rfl
          have hbb : 0 ≤ b0 ∧ b0 < 256 := by rw [← e0]; exact byteAt_in x 0
          have hbw : IntKind.u64.wrap b0 = b0 := by rw [← e0]; exact byte_wrap x 0
          obtain ⟨T, hT⟩ : ∃ T, stpB S x 0 = T := ⟨_, rfl⟩
          rw [hT] at hin hst ⊢
          have hxb := xor_bits T b0 hin hbb
          have hsw := stp_wrap T b0
          have HST := Lib.hid hst
          clear hst hT
          go_wp2_with fail
          go_roundw
          case rel => exact ⟨1, by omega, by go_num, by rw [HST.out], trivial⟩
          case measure => simp [intOf]
        · have hin := stpB_in (w := x) hS 1
          have hst : stpB S x 2 = stp (stpB S x 1) b1 := by rw [← e1]; rfl
          have hbb : 0 ≤ b1 ∧ b1 < 256 := by rw [← e1]; exact byteAt_in x 1
          have hbw : IntKind.u64.wrap b1 = b1 := by rw [← e1]; exact byte_wrap x 1
          obtain ⟨T, hT⟩ : ∃ T, stpB S x 1 = T := ⟨_, rfl⟩
          rw [hT] at hin hst ⊢
          have hxb := xor_bits T b1 hin hbb
          have hsw := stp_wrap T b1
          have HST := Lib.hid hst
          clear hst hT
          go_wp2_with fail
          go_roundw
          case rel => exact ⟨2, by omega, by go_num, by rw [HST.out], trivial⟩
          case measure => simp [intOf]
        · have hin := stpB_in (w := x) hS 2
          have hst : stpB S x 3 = stp (stpB S x 2) b2 := by rw [← e2]; rfl
          have hbb : 0 ≤ b2 ∧ b2 < 256 := by rw [← e2]; exact byteAt_in x 2
          have hbw : IntKind.u64.wrap b2 = b2 := by rw [← e2]; exact byte_wrap x 2
          obtain ⟨T, hT⟩ : ∃ T, stpB S x 2 = T := ⟨_, rfl⟩
          rw [hT] at hin hst ⊢
          have hxb := xor_bits T b2 hin hbb
          have hsw := stp_wrap T b2
          have HST := Lib.hid hst
          clear hst hT
          go_wp2_with fail
          go_roundw
          case rel => exact ⟨3, by omega, by go_num, by rw [HST.out], trivial⟩
          case measure => simp [intOf]
        · have hin := stpB_in (w := x) hS 3
          have hst : stpB S x 4 = stp (stpB S x 3) b3 := by rw [← e3]; rfl
          have hbb : 0 ≤ b3 ∧ b3 < 256 := by rw [← e3]; exact byteAt_in x 3
          have hbw : IntKind.u64.wrap b3 = b3 := by rw [← e3]; exact byte_wrap x 3
          obtain ⟨T, hT⟩ : ∃ T, stpB S x 3 = T := ⟨_, rfl⟩
          rw [hT] at hin hst ⊢
          have hxb := xor_bits T b3 hin hbb
          have hsw := stp_wrap T b3
          have HST := Lib.hid hst
          clear hst hT
          go_wp2_with fail
          go_roundw
          case rel => exact ⟨4, by omega, by go_num, by rw [HST.out], trivial⟩
          case measure => simp [intOf]
        · have hin := stpB_in (w := x) hS 4
          have hst : stpB S x 5 = stp (stpB S x 4) b4 := by rw [← e4]; rfl
          have hbb : 0 ≤ b4 ∧ b4 < 256 := by rw [← e4]; exact byteAt_in x 4
          have hbw : IntKind.u64.wrap b4 = b4 := by rw [← e4]; exact byte_wrap x 4
          obtain ⟨T, hT⟩ : ∃ T, stpB S x 4 = T := ⟨_, rfl⟩
          rw [hT] at hin hst ⊢
          have hxb := xor_bits T b4 hin hbb
          have hsw := stp_wrap T b4
          have HST := Lib.hid hst
          clear hst hT
          go_wp2_with fail
          go_roundw
          case rel => exact ⟨5, by omega, by go_num, by rw [HST.out], trivial⟩
          case measure => simp [intOf]
        · have hin := stpB_in (w := x) hS 5
          have hst : stpB S x 6 = stp (stpB S x 5) b5 := by rw [← e5]; rfl
          have hbb : 0 ≤ b5 ∧ b5 < 256 := by rw [← e5]; exact byteAt_in x 5
          have hbw : IntKind.u64.wrap b5 = b5 := by rw [← e5]; exact byte_wrap x 5
          obtain ⟨T, hT⟩ : ∃ T, stpB S x 5 = T := ⟨_, rfl⟩
          rw [hT] at hin hst ⊢
          have hxb := xor_bits T b5 hin hbb
          have hsw := stp_wrap T b5
          have HST := Lib.hid hst
          clear hst hT
          go_wp2_with fail
          go_roundw
          case rel => exact ⟨6, by omega, by go_num, by rw [HST.out], trivial⟩
          case measure => simp [intOf]
        · have hin := stpB_in (w := x) hS 6
          have hst : stpB S x 7 = stp (stpB S x 6) b6 := by rw [← e6]; rfl
          have hbb : 0 ≤ b6 ∧ b6 < 256 := by rw [← e6]; exact byteAt_in x 6
          have hbw : IntKind.u64.wrap b6 = b6 := by rw [← e6]; exact byte_wrap x 6
          obtain ⟨T, hT⟩ : ∃ T, stpB S x 6 = T := ⟨_, rfl⟩
          rw [hT] at hin hst ⊢
          have hxb := xor_bits T b6 hin hbb
          have hsw := stp_wrap T b6
          have HST := Lib.hid hst
          clear hst hT
          go_wp2_with fail
          go_roundw
          case rel => exact ⟨7, by omega, by go_num, by rw [HST.out], trivial⟩
          case measure => simp [intOf]
        · have hin := stpB_in (w := x) hS 7
          have hst : stpB S x 8 = stp (stpB S x 7) b7 := by rw [← e7]; rfl
          have hbb : 0 ≤ b7 ∧ b7 < 256 := by rw [← e7]; exact byteAt_in x 7
          have hbw : IntKind.u64.wrap b7 = b7 := by rw [← e7]; exact byte_wrap x 7
          obtain ⟨T, hT⟩ : ∃ T, stpB S x 7 = T := ⟨_, rfl⟩
          rw [hT] at hin hst ⊢
          have hxb := xor_bits T b7 hin hbb
          have hsw := stp_wrap T b7
          have HST := Lib.hid hst
          clear hst hT
          go_wp2_with fail
          go_roundw
          case rel => exact ⟨8, by omega, by go_num, by rw [HST.out], trivial⟩
          case measure => simp [intOf]
        · go_wp2_with fail
          go_roundw
          case rel => exact ⟨k + 1, by omega, by go_num, by rw [HX.out], hX1⟩
          case measure => simp [intOf]; omega
    · obtain rfl : k = l.length := by omega
      rw [List.take_length]
      go_wp2_with fail
      go_ret2
      exact ⟨rfl, hx⟩
end Go.Proofs.Ytlhlnenpgcndkaa
