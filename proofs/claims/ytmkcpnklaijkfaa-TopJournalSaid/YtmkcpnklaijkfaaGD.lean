/-
  Several texts in one: Fnv, Bytes, Next, Sum, WSet, Count, CWord, CJnl.
-/
import Derived.Test.YtmkcpnklaijkfaaGA
import Derived.Test.YtmkcpnklaijkfaaGB
import Derived.Test.YtmkcpnklaijkfaaGC
/-
  The sum of words, in plain terms.
-/
namespace Go.Proofs.Ytmkcpnklaijkfaa

/-- xor of two words. -/
def xr (a b : Int) : Int := ((a.toNat ^^^ b.toNat : Nat) : Int)
/-- The i-th byte of a word. -/
def byteAt (w : Int) (i : Nat) : Int := w / 256 ^ i % 256
/-- A step of the sum with a byte. -/
def stp (s b : Int) : Int := (xr s b * 1099511628211) % 18446744073709551616
/-- The state behind the first n bytes of a word. -/
def stpB (s w : Int) : Nat → Int
  | 0 => s
  | n + 1 => stp (stpB s w n) (byteAt w n)
/-- The state behind words. -/
def hsh (s : Int) (l : List Int) : Int := l.foldl (fun s w => stpB s w 8) s
/-- The sum of words. -/
def sumOf (l : List Int) : Int := hsh 14695981039346656037 l
/-- The commit word of entries. -/
def cword (l : List (Int × Int)) : Int := (sumOf (listed l) % 288230376151711744) * 64 + l.length

theorem stp_in (s b : Int) : 0 ≤ stp s b ∧ stp s b < 18446744073709551616 := by
  unfold stp; omega
theorem stpB_in {s w : Int} (h : 0 ≤ s ∧ s < 18446744073709551616) : ∀ n, 0 ≤ stpB s w n ∧ stpB s w n < 18446744073709551616
  | 0 => h
  | _ + 1 => stp_in _ _
theorem hsh_in : ∀ {l : List Int} {s : Int}, 0 ≤ s ∧ s < 18446744073709551616 → 0 ≤ hsh s l ∧ hsh s l < 18446744073709551616
  | [], _, h => h
  | _ :: l, _, h => hsh_in (l := l) (stpB_in h 8)
theorem sumOf_in (l : List Int) : 0 ≤ sumOf l ∧ sumOf l < 18446744073709551616 := hsh_in (by decide)
theorem hsh_snoc (s : Int) (l : List Int) (w : Int) : hsh s (l ++ [w]) = stpB (hsh s l) w 8 := by
  simp [hsh, List.foldl_append]
theorem byteAt_in (w : Int) (i : Nat) : 0 ≤ byteAt w i ∧ byteAt w i < 256 := by
  unfold byteAt; omega
theorem cword_pos {l : List (Int × Int)} (h : 0 < l.length) (h2 : l.length ≤ 32) : 0 < cword l ∧ cword l % 64 = l.length ∧ cword l / 64 = sumOf (listed l) % 288230376151711744 := by
  have := sumOf_in (listed l)
  unfold cword
  refine ⟨?_, ?_, ?_⟩ <;> omega
end Go.Proofs.Ytmkcpnklaijkfaa
/-
  The contract of word.Bytes.
-/
namespace Go.Proofs.Ytmkcpnklaijkfaa
open Go.RowKit
/-- The bytes of a word as a value. -/
def bytesV (x : Int) : Value := .agg #[.int .u8 (byteAt x 0), .int .u8 (byteAt x 1), .int .u8 (byteAt x 2), .int .u8 (byteAt x 3), .int .u8 (byteAt x 4), .int .u8 (byteAt x 5), .int .u8 (byteAt x 6), .int .u8 (byteAt x 7)]
set_option maxHeartbeats 1600000 in
theorem bytes_any (x : Int) (w : World) :
    Calls Try.prog 138 #[.int .u64 x] w fun e w' => e = .returned (bytesV x) ∧ Ext w w' := by
  go_enter Try.func138, Try.ntmps138
  go_wp2_with fail
  go_loopw [4, 5] (fun _ i wr => ∃ k : Nat, k ≤ 8 ∧ i = .int .i64 k ∧ wr = (w.alloc (Obj.cells #[.int .u8 0, .int .u8 0, .int .u8 0, .int .u8 0, .int .u8 0, .int .u8 0, .int .u8 0, .int .u8 0] 172)).alloc (Obj.cells #[.int .u8 (if 0 < k then byteAt x 0 else 0), .int .u8 (if 1 < k then byteAt x 1 else 0), .int .u8 (if 2 < k then byteAt x 2 else 0), .int .u8 (if 3 < k then byteAt x 3 else 0), .int .u8 (if 4 < k then byteAt x 4 else 0), .int .u8 (if 5 < k then byteAt x 5 else 0), .int .u8 (if 6 < k then byteAt x 6 else 0), .int .u8 (if 7 < k then byteAt x 7 else 0)] 172)) (fun _ i _ => 8 - (intOf i).toNat)
  case atStart => exact ⟨0, by omega, rfl, rfl⟩
  case round =>
    obtain ⟨k, hk, rfl, rfl⟩ := hrel
    rcases (by omega : k = 0 ∨ k = 1 ∨ k = 2 ∨ k = 3 ∨ k = 4 ∨ k = 5 ∨ k = 6 ∨ k = 7 ∨ k = 8) with rfl | rfl | rfl | rfl | rfl | rfl | rfl | rfl | rfl
    · go_wp2_with fail
      go_roundw
      case rel => exact ⟨1, by omega, by go_num, by simp [byteAt]⟩
      case measure => simp [intOf]
    · go_wp2_with fail
      go_roundw
      case rel => exact ⟨2, by omega, by go_num, by simp [byteAt]⟩
      case measure => simp [intOf]
    · go_wp2_with fail
      go_roundw
      case rel => exact ⟨3, by omega, by go_num, by simp [byteAt]⟩
      case measure => simp [intOf]
    · go_wp2_with fail
      go_roundw
      case rel => exact ⟨4, by omega, by go_num, by simp [byteAt]⟩
      case measure => simp [intOf]
    · go_wp2_with fail
      go_roundw
      case rel => exact ⟨5, by omega, by go_num, by simp [byteAt]⟩
      case measure => simp [intOf]
    · go_wp2_with fail
      go_roundw
      case rel => exact ⟨6, by omega, by go_num, by simp [byteAt]⟩
      case measure => simp [intOf]
    · go_wp2_with fail
      go_roundw
      case rel => exact ⟨7, by omega, by go_num, by simp [byteAt]⟩
      case measure => simp [intOf]
    · go_wp2_with fail
      go_roundw
      case rel => exact ⟨8, by omega, by go_num, by simp [byteAt]⟩
      case measure => simp [intOf]
    · go_wp2_with fail
      exact bodyPost_ret (v := bytesV x) (by simp [results, Try.results138, go_sem, bytesV]) rfl ⟨rfl, ((Ext.refl w).alloc _).alloc _⟩
end Go.Proofs.Ytmkcpnklaijkfaa
/-
  The contract of the sum of words.
-/
namespace Go.Proofs.Ytmkcpnklaijkfaa
open Go.RowKit
theorem idx8 (y0 y1 y2 y3 y4 y5 y6 y7 : Value) : (∀ w, (Instr.index 172 (.agg #[y0, y1, y2, y3, y4, y5, y6, y7]) (.int .i64 0)).run Try.prog w = .ok y0 w) ∧ (∀ w, (Instr.index 172 (.agg #[y0, y1, y2, y3, y4, y5, y6, y7]) (.int .i64 1)).run Try.prog w = .ok y1 w) ∧ (∀ w, (Instr.index 172 (.agg #[y0, y1, y2, y3, y4, y5, y6, y7]) (.int .i64 2)).run Try.prog w = .ok y2 w) ∧ (∀ w, (Instr.index 172 (.agg #[y0, y1, y2, y3, y4, y5, y6, y7]) (.int .i64 3)).run Try.prog w = .ok y3 w) ∧ (∀ w, (Instr.index 172 (.agg #[y0, y1, y2, y3, y4, y5, y6, y7]) (.int .i64 4)).run Try.prog w = .ok y4 w) ∧ (∀ w, (Instr.index 172 (.agg #[y0, y1, y2, y3, y4, y5, y6, y7]) (.int .i64 5)).run Try.prog w = .ok y5 w) ∧ (∀ w, (Instr.index 172 (.agg #[y0, y1, y2, y3, y4, y5, y6, y7]) (.int .i64 6)).run Try.prog w = .ok y6 w) ∧ (∀ w, (Instr.index 172 (.agg #[y0, y1, y2, y3, y4, y5, y6, y7]) (.int .i64 7)).run Try.prog w = .ok y7 w) :=
  ⟨fun _ => by kernel_rfl, fun _ => by kernel_rfl, fun _ => by kernel_rfl, fun _ => by kernel_rfl, fun _ => by kernel_rfl, fun _ => by kernel_rfl, fun _ => by kernel_rfl, fun _ => by kernel_rfl⟩
theorem xor_bits (s b : Int) (hs : 0 ≤ s ∧ s < 18446744073709551616) (hb : 0 ≤ b ∧ b < 256) : bits BinOp.xor IntKind.u64 s b = xr s b := by
  obtain ⟨n, rfl⟩ := Int.eq_ofNat_of_zero_le hs.1
  obtain ⟨k, rfl⟩ := Int.eq_ofNat_of_zero_le hb.1
  show IntKind.u64.wrap ((BitVec.ofInt 64 (n : Int) ^^^ BitVec.ofInt 64 (k : Int)).toNat : Int) = _
  have h1 : BitVec.ofInt 64 (n : Int) = BitVec.ofNat 64 n := by simp
  have h2 : BitVec.ofInt 64 (k : Int) = BitVec.ofNat 64 k := by simp
  have h3 : n ^^^ k < 2 ^ 64 := Nat.xor_lt_two_pow (by omega) (by omega)
  rw [h1, h2, BitVec.toNat_xor, BitVec.toNat_ofNat, BitVec.toNat_ofNat, Nat.mod_eq_of_lt (a := n) (by omega), Nat.mod_eq_of_lt (a := k) (by omega), xr, Int.toNat_natCast, Int.toNat_natCast]
  simp [IntKind.wrap, IntKind.bits, IntKind.signed]
  omega
theorem stp_wrap (s b : Int) : IntKind.u64.wrap (xr s b * 1099511628211) = stp s b := by
  simp [IntKind.wrap, IntKind.bits, IntKind.signed, stp]
theorem byte_wrap (x : Int) (i : Nat) : IntKind.u64.wrap (byteAt x i) = byteAt x i := by
  have := byteAt_in x i
  simp [IntKind.wrap, IntKind.bits, IntKind.signed]
  omega
set_option maxHeartbeats 3200000 in
theorem next_any (s : Int) (l : List Int) (A : Option Addr) (c : Nat) (w : World) (hA : Sl w A l.length c (fU l)) (hs : 0 ≤ s ∧ s < 18446744073709551616) (hl : l.length ≤ 2048) :
    Calls Try.prog 125 #[.int .u64 s, .slice A l.length c] w fun e w' => e = .returned (.tuple #[.int .u64 (hsh s l), .int .i64 0]) ∧ Ext w w' := by
  go_enter Try.func125, Try.ntmps125
  go_wp2_with fail
  go_loopw [0, 7, 9, 15] (fun v _ _ i wr => ∃ k : Nat, k ≤ l.length ∧ i = .int .i64 k ∧ v = .int .u64 (hsh s (l.take k)) ∧ Ext w wr) (fun _ _ _ i _ => l.length - (intOf i).toNat)
  case atStart => exact ⟨0, Nat.zero_le _, rfl, rfl, Ext.refl w⟩
  case round =>
    obtain ⟨k, hk, rfl, rfl, hx⟩ := hrel
    by_cases hlt : k < l.length
    · obtain ⟨ad, x, rfl, hat, g⟩ := (hA.ext hx).u_at hlt
      have hS := hsh_in (l := l.take k) hs
      have hnx : hsh s (l.take (k + 1)) = stpB (hsh s (l.take k)) x 8 := by rw [List.take_add_one, hat, Option.toList_some, hsh_snoc]
      obtain ⟨S, hSe⟩ : ∃ S, hsh s (l.take k) = S := ⟨_, rfl⟩
      rw [hSe] at hS hnx ⊢
      have HX := Lib.hid hnx
      clear hnx hat hSe
      go_wp2_with fail
      refine (bytes_any x _).mono ?_
      rintro e w1 ⟨rfl, hx1⟩
      have hX1 := hx.trans hx1
      unfold bytesV
      obtain ⟨b0, e0⟩ : ∃ b, byteAt x 0 = b := ⟨_, rfl⟩
      obtain ⟨b1, e1⟩ : ∃ b, byteAt x 1 = b := ⟨_, rfl⟩
      obtain ⟨b2, e2⟩ : ∃ b, byteAt x 2 = b := ⟨_, rfl⟩
      obtain ⟨b3, e3⟩ : ∃ b, byteAt x 3 = b := ⟨_, rfl⟩
      obtain ⟨b4, e4⟩ : ∃ b, byteAt x 4 = b := ⟨_, rfl⟩
      obtain ⟨b5, e5⟩ : ∃ b, byteAt x 5 = b := ⟨_, rfl⟩
      obtain ⟨b6, e6⟩ : ∃ b, byteAt x 6 = b := ⟨_, rfl⟩
      obtain ⟨b7, e7⟩ : ∃ b, byteAt x 7 = b := ⟨_, rfl⟩
      obtain ⟨i0, i1, i2, i3, i4, i5, i6, i7⟩ := idx8 (.int .u8 b0) (.int .u8 b1) (.int .u8 b2) (.int .u8 b3) (.int .u8 b4) (.int .u8 b5) (.int .u8 b6) (.int .u8 b7)
      rw [e0, e1, e2, e3, e4, e5, e6, e7]
      go_wp2_with fail
      go_loopw [0, 9, 21] (fun v _ i wr => ∃ j : Nat, j ≤ 8 ∧ i = .int .i64 j ∧ v = .int .u64 (stpB S x j) ∧ wr = w1) (fun _ _ i _ => 8 - (intOf i).toNat)
      case atStart => exact ⟨0, by omega, rfl, rfl, rfl⟩
      case round =>
        obtain ⟨j, hj, rfl, rfl, rfl⟩ := hrel
        rcases (by omega : j = 0 ∨ j = 1 ∨ j = 2 ∨ j = 3 ∨ j = 4 ∨ j = 5 ∨ j = 6 ∨ j = 7 ∨ j = 8) with rfl | rfl | rfl | rfl | rfl | rfl | rfl | rfl | rfl
        · have hin := stpB_in (w := x) hS 0
          have hst : stpB S x 1 = stp (stpB S x 0) b0 := by rw [← e0]; rfl
          have hbb : 0 ≤ b0 ∧ b0 < 256 := by rw [← e0]; exact byteAt_in x 0
          have hbw : IntKind.u64.wrap b0 = b0 := by rw [← e0]; exact byte_wrap x 0
          obtain ⟨T, hT⟩ : ∃ T, stpB S x 0 = T := ⟨_, rfl⟩
          rw [hT] at hin hst ⊢
          have hxb := xor_bits T b0 hin hbb
          have hsw := stp_wrap T b0
          have HST := Lib.hid hst
          clear hst hT
          go_wp2_with fail
          go_roundw
          case rel => exact ⟨1, by omega, by go_num, by rw [HST.out], trivial⟩
          case measure => simp [intOf]
        · have hin := stpB_in (w := x) hS 1
          have hst : stpB S x 2 = stp (stpB S x 1) b1 := by rw [← e1]; rfl
          have hbb : 0 ≤ b1 ∧ b1 < 256 := by rw [← e1]; exact byteAt_in x 1
          have hbw : IntKind.u64.wrap b1 = b1 := by rw [← e1]; exact byte_wrap x 1
          obtain ⟨T, hT⟩ : ∃ T, stpB S x 1 = T := ⟨_, rfl⟩
          rw [hT] at hin hst ⊢
          have hxb := xor_bits T b1 hin hbb
          have hsw := stp_wrap T b1
          have HST := Lib.hid hst
          clear hst hT
          go_wp2_with fail
          go_roundw
          case rel => exact ⟨2, by omega, by go_num, by rw [HST.out], trivial⟩
          case measure => simp [intOf]
        · have hin := stpB_in (w := x) hS 2
          have hst : stpB S x 3 = stp (stpB S x 2) b2 := by rw [← e2]; rfl
          have hbb : 0 ≤ b2 ∧ b2 < 256 := by rw [← e2]; exact byteAt_in x 2
          have hbw : IntKind.u64.wrap b2 = b2 := by rw [← e2]; exact byte_wrap x 2
          obtain ⟨T, hT⟩ : ∃ T, stpB S x 2 = T := ⟨_, rfl⟩
          rw [hT] at hin hst ⊢
          have hxb := xor_bits T b2 hin hbb
          have hsw := stp_wrap T b2
          have HST := Lib.hid hst
          clear hst hT
          go_wp2_with fail
          go_roundw
          case rel => exact ⟨3, by omega, by go_num, by rw [HST.out], trivial⟩
          case measure => simp [intOf]
        · have hin := stpB_in (w := x) hS 3
          have hst : stpB S x 4 = stp (stpB S x 3) b3 := by rw [← e3]; rfl
          have hbb : 0 ≤ b3 ∧ b3 < 256 := by rw [← e3]; exact byteAt_in x 3
          have hbw : IntKind.u64.wrap b3 = b3 := by rw [← e3]; exact byte_wrap x 3
          obtain ⟨T, hT⟩ : ∃ T, stpB S x 3 = T := ⟨_, rfl⟩
          rw [hT] at hin hst ⊢
          have hxb := xor_bits T b3 hin hbb
          have hsw := stp_wrap T b3
          have HST := Lib.hid hst
          clear hst hT
          go_wp2_with fail
          go_roundw
          case rel => exact ⟨4, by omega, by go_num, by rw [HST.out], trivial⟩
          case measure => simp [intOf]
        · have hin := stpB_in (w := x) hS 4
          have hst : stpB S x 5 = stp (stpB S x 4) b4 := by rw [← e4]; rfl
          have hbb : 0 ≤ b4 ∧ b4 < 256 := by rw [← e4]; exact byteAt_in x 4
          have hbw : IntKind.u64.wrap b4 = b4 := by rw [← e4]; exact byte_wrap x 4
          obtain ⟨T, hT⟩ : ∃ T, stpB S x 4 = T := ⟨_, rfl⟩
          rw [hT] at hin hst ⊢
          have hxb := xor_bits T b4 hin hbb
          have hsw := stp_wrap T b4
          have HST := Lib.hid hst
          clear hst hT
          go_wp2_with fail
          go_roundw
          case rel => exact ⟨5, by omega, by go_num, by rw [HST.out], trivial⟩
          case measure => simp [intOf]
        · have hin := stpB_in (w := x) hS 5
          have hst : stpB S x 6 = stp (stpB S x 5) b5 := by rw [← e5]; rfl
          have hbb : 0 ≤ b5 ∧ b5 < 256 := by rw [← e5]; exact byteAt_in x 5
          have hbw : IntKind.u64.wrap b5 = b5 := by rw [← e5]; exact byte_wrap x 5
          obtain ⟨T, hT⟩ : ∃ T, stpB S x 5 = T := ⟨_, rfl⟩
          rw [hT] at hin hst ⊢
          have hxb := xor_bits T b5 hin hbb
          have hsw := stp_wrap T b5
          have HST := Lib.hid hst
          clear hst hT
          go_wp2_with fail
          go_roundw
          case rel => exact ⟨6, by omega, by go_num, by rw [HST.out], trivial⟩
          case measure => simp [intOf]
        · have hin := stpB_in (w := x) hS 6
          have hst : stpB S x 7 = stp (stpB S x 6) b6 := by rw [← e6]; rfl
          have hbb : 0 ≤ b6 ∧ b6 < 256 := by rw [← e6]; exact byteAt_in x 6
          have hbw : IntKind.u64.wrap b6 = b6 := by rw [← e6]; exact byte_wrap x 6
          obtain ⟨T, hT⟩ : ∃ T, stpB S x 6 = T := ⟨_, rfl⟩
          rw [hT] at hin hst ⊢
          have hxb := xor_bits T b6 hin hbb
          have hsw := stp_wrap T b6
          have HST := Lib.hid hst
          clear hst hT
          go_wp2_with fail
          go_roundw
          case rel => exact ⟨7, by omega, by go_num, by rw [HST.out], trivial⟩
          case measure => simp [intOf]
        · have hin := stpB_in (w := x) hS 7
          have hst : stpB S x 8 = stp (stpB S x 7) b7 := by rw [← e7]; rfl
          have hbb : 0 ≤ b7 ∧ b7 < 256 := by rw [← e7]; exact byteAt_in x 7
          have hbw : IntKind.u64.wrap b7 = b7 := by rw [← e7]; exact byte_wrap x 7
          obtain ⟨T, hT⟩ : ∃ T, stpB S x 7 = T := ⟨_, rfl⟩
          rw [hT] at hin hst ⊢
          have hxb := xor_bits T b7 hin hbb
          have hsw := stp_wrap T b7
          have HST := Lib.hid hst
          clear hst hT
          go_wp2_with fail
          go_roundw
          case rel => exact ⟨8, by omega, by go_num, by rw [HST.out], trivial⟩
          case measure => simp [intOf]
        · go_wp2_with fail
          go_roundw
          case rel => exact ⟨k + 1, by omega, by go_num, by rw [HX.out], hX1⟩
          case measure => simp [intOf]; omega
    · obtain rfl : k = l.length := by omega
      rw [List.take_length]
      go_wp2_with fail
      go_ret2
      exact ⟨rfl, hx⟩
end Go.Proofs.Ytmkcpnklaijkfaa
/-
  The contracts of the low part of a sum, and of the fields of a word that it needs.
-/
namespace Go.Proofs.Ytmkcpnklaijkfaa
open Go.RowKit
theorem mask058 (w : World) : Calls Try.prog 127 #[.int .i64 0, .int .i64 58] w fun e w' => e = .returned (.int .u64 288230376151711743) ∧ w = w' := by
  go_enter Try.func127, Try.ntmps127
  go_wp2
  go_ret
  exact ⟨rfl, rfl⟩
theorem mask658 (w : World) : Calls Try.prog 127 #[.int .i64 6, .int .i64 58] w fun e w' => e = .returned (.int .u64 18446744073709551552) ∧ w = w' := by
  go_enter Try.func127, Try.ntmps127
  go_wp2
  go_ret
  exact ⟨rfl, rfl⟩
theorem sumOf_any (l : List Int) (A : Option Addr) (c : Nat) (w : World) (hA : Sl w A l.length c (fU l)) (hl : l.length ≤ 2048) :
    Calls Try.prog 102 #[.slice A l.length c] w fun e w' => e = .returned (.tuple #[.int .u64 (sumOf l), .int .i64 0]) ∧ Ext w w' := by
  go_enter Try.func102, Try.ntmps102
  go_wp2_with fail
  refine (next_any 14695981039346656037 l A c w hA (by decide) hl).mono ?_
  rintro e w1 ⟨rfl, hx⟩
  go_wp2_with fail
  go_ret2
  exact ⟨rfl, hx⟩
theorem and58 (x : Int) (h : 0 ≤ x ∧ x < 18446744073709551616) : bits BinOp.and IntKind.u64 x 288230376151711743 = x % 288230376151711744 := by
  obtain ⟨n, rfl⟩ := Int.eq_ofNat_of_zero_le h.1
  show IntKind.u64.wrap ((BitVec.ofInt 64 (n : Int) &&& BitVec.ofInt 64 (288230376151711743 : Int)).toNat : Int) = _
  have h1 : BitVec.ofInt 64 (n : Int) = BitVec.ofNat 64 n := by simp
  have h2 : n &&& 288230376151711743 = n % 288230376151711744 := Nat.and_two_pow_sub_one_eq_mod n 58
  rw [h1, show BitVec.ofInt 64 (288230376151711743 : Int) = BitVec.ofNat 64 288230376151711743 from by decide, BitVec.toNat_and, BitVec.toNat_ofNat, BitVec.toNat_ofNat, Nat.mod_eq_of_lt (a := n) (by omega), Nat.mod_eq_of_lt (a := 288230376151711743) (by decide), h2]
  simp [IntKind.wrap, IntKind.bits, IntKind.signed]
  omega
theorem get058 (x : Int) (w : World) (h : 0 ≤ x ∧ x < 18446744073709551616) : Calls Try.prog 126 #[.int .u64 x, .int .i64 0, .int .i64 58] w fun e w' => e = .returned (.tuple #[.int .u64 (x % 288230376151711744), .int .i64 0]) ∧ w = w' := by
  have ha := and58 x h
  go_enter Try.func126, Try.ntmps126
  go_wp2_with fail
  refine (mask058 _).mono ?_
  rintro e w1 ⟨rfl, rfl⟩
  go_wp2_with fail
  go_ret2
  simp
theorem low58 (l : List Int) (A : Option Addr) (c : Nat) (w : World) (hA : Sl w A l.length c (fU l)) (hl : l.length ≤ 2048) :
    Calls Try.prog 105 #[.slice A l.length c, .int .i64 58] w fun e w' => e = .returned (.tuple #[.int .u64 (sumOf l % 288230376151711744), .int .i64 0]) ∧ Ext w w' := by
  go_enter Try.func105, Try.ntmps105
  go_wp2_with fail
  refine (sumOf_any l A c w hA hl).mono ?_
  rintro e w1 ⟨rfl, hx⟩
  go_wp2_with fail
  refine (get058 _ _ (sumOf_in l)).mono ?_
  rintro e w2 ⟨rfl, rfl⟩
  go_wp2_with fail
  go_ret2
  exact ⟨rfl, hx⟩
end Go.Proofs.Ytmkcpnklaijkfaa
/-
  The contract of setting the upper field of a commit word.
-/
namespace Go.Proofs.Ytmkcpnklaijkfaa
open Go.RowKit
theorem andNot58 (n : Nat) (h : n < 64) : bits BinOp.andNot IntKind.u64 (n : Int) 18446744073709551552 = (n : Int) := by
  have : ∀ n : Fin 64, bits BinOp.andNot IntKind.u64 (n.val : Int) 18446744073709551552 = (n.val : Int) := by decide
  exact this ⟨n, h⟩
theorem or58 (n : Nat) (v : Int) (h : n < 64) (hv : 0 ≤ v ∧ v < 288230376151711744) : bits BinOp.or IntKind.u64 (n : Int) (v * 64) = v * 64 + n := by
  obtain ⟨k, rfl⟩ := Int.eq_ofNat_of_zero_le hv.1
  show IntKind.u64.wrap ((BitVec.ofInt 64 (n : Int) ||| BitVec.ofInt 64 ((k : Int) * 64)).toNat : Int) = _
  have h1 : BitVec.ofInt 64 (n : Int) = BitVec.ofNat 64 n := by simp
  have h2 : BitVec.ofInt 64 ((k : Int) * 64) = BitVec.ofNat 64 (64 * k) := by
    rw [show (k : Int) * 64 = ((64 * k : Nat) : Int) from by omega]; exact BitVec.ofInt_natCast ..
  have h3 : n ||| 64 * k = 64 * k + n := by
    rw [Nat.or_comm]; exact (Nat.two_pow_add_eq_or_of_lt (i := 6) h k).symm
  rw [h1, h2, BitVec.toNat_or, BitVec.toNat_ofNat, BitVec.toNat_ofNat, Nat.mod_eq_of_lt (a := n) (by omega), Nat.mod_eq_of_lt (a := 64 * k) (by omega), h3]
  simp [IntKind.wrap, IntKind.bits, IntKind.signed]
  omega
set_option maxHeartbeats 800000 in
theorem set658 (n : Nat) (v : Int) (w : World) (h : n < 64) (hv : 0 ≤ v ∧ v < 288230376151711744) :
    Calls Try.prog 106 #[.int .u64 n, .int .i64 6, .int .i64 58, .int .u64 v] w fun e w' => e = .returned (.tuple #[.int .u64 (v * 64 + n), .int .i64 0]) ∧ w = w' := by
  have ha := andNot58 n h
  have ho := or58 n v h hv
  have hw : IntKind.u64.wrap (v * 64) = v * 64 := by simp [IntKind.wrap, IntKind.bits, IntKind.signed]; omega
  have hg : ¬ (288230376151711743 : Int) < v := by omega
  go_enter Try.func106, Try.ntmps106
  go_wp2_with fail
  refine (mask658 _).mono ?_
  rintro e w1 ⟨rfl, rfl⟩
  go_wp2_with fail
  go_ret2
  simp
end Go.Proofs.Ytmkcpnklaijkfaa
/-
  The contracts of what a commit word says.
-/
namespace Go.Proofs.Ytmkcpnklaijkfaa
open Go.RowKit
/-- Is there a number of entries in a commit word? -/
def cntB (x : Int) : Bool := decide (1 ≤ x % 64) && decide (x % 64 ≤ 32)
def cntE (x : Int) : Int := if x = 0 then 6 else if cntB x then 0 else 50
def cntN (x : Int) : Int := if cntB x then x % 64 else 0
def cntL (x : Int) : Int := if cntB x then x / 64 else 0
theorem cntB_zero : cntB 0 = false := rfl
theorem cntB_bd {x : Int} (h : cntB x = true) : 1 ≤ x % 64 ∧ x % 64 ≤ 32 := by simpa [cntB] using h
theorem and63 (x : Int) (h : 0 ≤ x ∧ x < 18446744073709551616) : bits BinOp.and IntKind.u64 x 63 = x % 64 := by
  obtain ⟨n, rfl⟩ := Int.eq_ofNat_of_zero_le h.1
  show IntKind.u64.wrap ((BitVec.ofInt 64 (n : Int) &&& BitVec.ofInt 64 (63 : Int)).toNat : Int) = _
  have h1 : BitVec.ofInt 64 (n : Int) = BitVec.ofNat 64 n := by simp
  have h2 : n &&& 63 = n % 64 := Nat.and_two_pow_sub_one_eq_mod n 6
  rw [h1, show BitVec.ofInt 64 (63 : Int) = BitVec.ofNat 64 63 from by decide, BitVec.toNat_and, BitVec.toNat_ofNat, BitVec.toNat_ofNat, Nat.mod_eq_of_lt (a := n) (by omega), Nat.mod_eq_of_lt (a := 63) (by decide), h2]
  simp [IntKind.wrap, IntKind.bits, IntKind.signed]
  omega
set_option maxHeartbeats 400000 in
theorem count_any (x : Int) (w : World) (h : InU x) :
    Calls Try.prog 76 #[.int .u64 x] w fun e w' => e = .returned (.tuple #[.int .i64 (cntN x), .int .u64 (cntL x), .int .i64 (cntE x)]) ∧ w = w' := by
  obtain ⟨h0, h1⟩ := h
  have ha := and63 x ⟨h0, by omega⟩
  by_cases hz : x = 0
  · subst hz
    go_enter Try.func76, Try.ntmps76
    go_wp2_with fail
    go_ret3
    exact ⟨rfl, rfl⟩
  · have hw : IntKind.i64.wrap (x % 64) = x % 64 := by simp [IntKind.wrap, IntKind.bits, IntKind.signed]; omega
    have hb : (x == 0) = false := by simpa using hz
    cases hc : cntB x with
    | true =>
      obtain ⟨c1, c2⟩ := cntB_bd hc
      have HC := Lib.hid (show cntN x = x % 64 ∧ cntL x = x / 64 ∧ cntE x = 0 from ⟨by simp [cntN, hc], by simp [cntL, hc], by simp [cntE, hc, hz]⟩)
      clear hc
      go_enter Try.func76, Try.ntmps76
      go_wp2_with fail
      go_ret3
      rw [HC.out.1, HC.out.2.1, HC.out.2.2]
      exact ⟨rfl, rfl⟩
    | false =>
      have HC := Lib.hid (show cntN x = 0 ∧ cntL x = 0 ∧ cntE x = 50 from ⟨by simp [cntN, hc], by simp [cntL, hc], by simp [cntE, hc, hz]⟩)
      have hd : ¬ (1 ≤ x % 64 ∧ x % 64 ≤ 32) := by simpa [cntB] using hc
      clear hc
      by_cases c1 : x % 64 < 1
      · go_enter Try.func76, Try.ntmps76
        go_wp2_with fail
        go_ret3
        rw [HC.out.1, HC.out.2.1, HC.out.2.2]
        exact ⟨rfl, rfl⟩
      · have c2 : 32 < x % 64 := by omega
        go_enter Try.func76, Try.ntmps76
        go_wp2_with fail
        go_ret3
        rw [HC.out.1, HC.out.2.1, HC.out.2.2]
        exact ⟨rfl, rfl⟩
set_option maxHeartbeats 400000 in
theorem refCount_any (x : Int) (w : World) (h : InU x) :
    Calls Try.prog 111 #[.int .u64 x] w fun e w' => e = .returned (.tuple #[.int .i64 (cntN x), .int .u64 (cntL x), .int .i64 (cntE x)]) ∧ w = w' := by
  obtain ⟨h0, h1⟩ := h
  by_cases hz : x = 0
  · subst hz
    go_enter Try.func111, Try.ntmps111
    go_wp2_with fail
    go_ret3
    exact ⟨rfl, rfl⟩
  · have hw : IntKind.i64.wrap (x % 64) = x % 64 := by simp [IntKind.wrap, IntKind.bits, IntKind.signed]; omega
    have hb : (x == 0) = false := by simpa using hz
    cases hc : cntB x with
    | true =>
      obtain ⟨c1, c2⟩ := cntB_bd hc
      have HC := Lib.hid (show cntN x = x % 64 ∧ cntL x = x / 64 ∧ cntE x = 0 from ⟨by simp [cntN, hc], by simp [cntL, hc], by simp [cntE, hc, hz]⟩)
      clear hc
      go_enter Try.func111, Try.ntmps111
      go_wp2_with fail
      go_ret3
      rw [HC.out.1, HC.out.2.1, HC.out.2.2]
      exact ⟨rfl, rfl⟩
    | false =>
      have HC := Lib.hid (show cntN x = 0 ∧ cntL x = 0 ∧ cntE x = 50 from ⟨by simp [cntN, hc], by simp [cntL, hc], by simp [cntE, hc, hz]⟩)
      have hd : ¬ (1 ≤ x % 64 ∧ x % 64 ≤ 32) := by simpa [cntB] using hc
      clear hc
      by_cases c1 : x % 64 < 1
      · go_enter Try.func111, Try.ntmps111
        go_wp2_with fail
        go_ret3
        rw [HC.out.1, HC.out.2.1, HC.out.2.2]
        exact ⟨rfl, rfl⟩
      · have c2 : 32 < x % 64 := by omega
        go_enter Try.func111, Try.ntmps111
        go_wp2_with fail
        go_ret3
        rw [HC.out.1, HC.out.2.1, HC.out.2.2]
        exact ⟨rfl, rfl⟩
end Go.Proofs.Ytmkcpnklaijkfaa
/-
  The contract of the commit word.
-/
namespace Go.Proofs.Ytmkcpnklaijkfaa
open Go.RowKit
/-- The error of a commit word. -/
def cwE (l : List (Int × Int)) (words : Int) : Int := if chkE l words = 0 then (if l.length = 0 then 6 else 0) else chkE l words
theorem low58_at (l : List Int) (n : Nat) (hn : l.length = n) (A : Option Addr) (c : Nat) (w : World) (hA : Sl w A n c (fU l)) (hl : n ≤ 2048) :
    Calls Try.prog 105 #[.slice A n c, .int .i64 58] w fun e w' => e = .returned (.tuple #[.int .u64 (sumOf l % 288230376151711744), .int .i64 0]) ∧ Ext w w' := by
  subst hn
  exact low58 l A c w hA hl
set_option maxHeartbeats 1600000 in
theorem commitWord_any (l : List (Int × Int)) (words : Int) (A : Option Addr) (c : Nat) (w : World) (hA : Sl w A l.length c (fE l)) (wf : WfE l) :
    Calls Try.prog 74 #[.slice A l.length c, .int .i64 words] w fun e w' => e = .returned (.tuple #[.int .u64 (if cwE l words = 0 then cword l else 0), .int .i64 (cwE l words)]) ∧ Ext w w' := by
  by_cases h0 : chkE l words = 0
  · have hl32 := (chk_iff.1 h0).2.1
    by_cases hn : l.length = 0
    · have hc : cwE l words = 6 := by simp [cwE, h0, hn]
      rw [hc, if_neg (by decide)]
      have H0 := Lib.hid h0
      have hb : ((l.length : Int) == 0) = true := by simpa using hn
      clear hc hn h0
      go_enter Try.func74, Try.ntmps74
      go_wp2_with fail
      refine (entryWords_any l words A c w hA wf).mono ?_
      rintro e w1 (⟨_, A1, c1, rfl, _, hA1, hx1⟩ | ⟨hne, _⟩)
      case inr => exact absurd H0.out hne
      go_wp2_with fail
      go_ret2
      exact ⟨rfl, hx1⟩
    · have hc : cwE l words = 0 := by simp [cwE, h0, hn]
      rw [hc, if_pos rfl]
      have hw : IntKind.u64.wrap (l.length : Int) = l.length := by simp [IntKind.wrap, IntKind.bits, IntKind.signed]; omega
      have H0 := Lib.hid h0
      have hb : ((l.length : Int) == 0) = false := by simpa using hn
      clear hc h0
      have hs := sumOf_in (listed l)
      go_enter Try.func74, Try.ntmps74
      go_wp2_with fail
      refine (entryWords_any l words A c w hA wf).mono ?_
      rintro e w1 (⟨_, A1, c1, rfl, _, hA1, hx1⟩ | ⟨hne, _⟩)
      case inr => exact absurd H0.out hne
      go_wp2_with fail
      refine (low58_at (listed l) _ (listed_length l) A1 c1 w1 hA1 (by omega)).mono ?_
      rintro e w2 ⟨rfl, hx2⟩
      go_wp2_with fail
      refine (set658 l.length (sumOf (listed l) % 288230376151711744) w2 (by omega) (by omega)).mono ?_
      rintro e w3 ⟨rfl, rfl⟩
      go_wp2_with fail
      go_ret2
      exact ⟨rfl, hx1.trans hx2⟩
  · have hc : cwE l words = chkE l words := by simp [cwE, h0]
    rw [hc, if_neg h0]
    have hb : (chkE l words != 0) = true := by simpa using h0
    go_enter Try.func74, Try.ntmps74
    go_wp2_with fail
    refine (entryWords_any l words A c w hA wf).mono ?_
    rintro e w1 (⟨hne, _⟩ | ⟨_, rfl, hx1⟩)
    · exact absurd hne h0
    go_wp2_with fail
    go_ret2
    exact ⟨rfl, hx1⟩
end Go.Proofs.Ytmkcpnklaijkfaa
/-
  The contracts of reading what is committed, and of the words of the journal.
-/
namespace Go.Proofs.Ytmkcpnklaijkfaa
open Go.RowKit
/-- The commit word of an image. -/
def jw (m : List Int) : Int := m.getD 24 0
/-- How many entries the commit word says. -/
def cn (m : List Int) : Nat := (jw m % 64).toNat
theorem jw_at {m : List Int} {x : Int} (h : m[24]? = some x) : jw m = x := by simp [jw, List.getD, h]
/-- Is a change committed, and rightly? -/
def crB (m : List Int) : Bool := cntB (jw m) && decide (chkE (jnl m (cn m)) m.length = 0) && decide (cword (jnl m (cn m)) = jw m)
/-- The error of reading what is committed. -/
def crE (m : List Int) : Int := if sizeB m.length then (if jw m = 0 ∨ crB m = true then 0 else 50) else 8
/-- What is committed. -/
def crL (m : List Int) : List (Int × Int) := if sizeB m.length = true ∧ crB m = true then jnl m (cn m) else []
/-- The words of the journal. -/
def jwords (l : List (Int × Int)) : List Int := cword l :: List.replicate 7 0 ++ listed l
theorem cword_in {l : List (Int × Int)} (h : l.length ≤ 32) : 0 ≤ cword l ∧ cword l < 18446744073709551616 := by
  have := sumOf_in (listed l)
  unfold cword
  omega
set_option maxHeartbeats 1600000 in
theorem commitRead_any (m : List Int) (A : Option Addr) (c : Nat) (w : World) (hA : Sl w A m.length c (fU m)) (wf : WfU m) :
    Calls Try.prog 28 #[.slice A m.length c] w (RetE w (crL m) (crE m)) := by
  cases hs : sizeB (m.length : Int) with
  | false =>
    have hi : imgE (m.length : Int) = 8 := by simp [imgE, hs]
    have hr : crE m = 8 := by simp [crE, hs]
    have hl : crL m = [] := by simp [crL, hs]
    rw [hr, hl]
    go_enter Try.func28, Try.ntmps28
    go_wp2_with fail
    refine (imageCheck_any _ _ _ _).mono ?_
    rintro e w' ⟨rfl, rfl⟩
    go_wp2_with fail
    go_ret2
    exact retE_nil (Ext.refl w)
  | true =>
    have hi : imgE (m.length : Int) = 0 := by simp [imgE, hs]
    have hsz := sizeB_bd hs
    obtain ⟨ad, x, rfl, hx, g⟩ := hA.u_at (k := 24) (by omega)
    have hj : jw m = x := jw_at hx
    rw [add_lit_ ad 23] at g
    have hin : InU x := wf x (List.mem_of_getElem? hx)
    by_cases hz : x = 0
    · subst hz
      have hr : crE m = 0 := by simp only [crE, hs, if_true]; rw [if_pos (.inl hj)]
      have hl : crL m = [] := by
        have : crB m = false := by simp [crB, hj, cntB_zero]
        simp [crL, this]
      rw [hr, hl]
      clear hr hl hj hx
      go_enter Try.func28, Try.ntmps28
      go_wp2_with fail
      refine (imageCheck_any _ _ _ _).mono ?_
      rintro e w' ⟨rfl, rfl⟩
      go_wp2_with fail
      refine (count_any _ _ hin).mono ?_
      rintro e w' ⟨rfl, rfl⟩
      go_wp2_with fail
      go_ret2
      exact retE_nil (Ext.refl w)
    · cases hc : cntB x with
      | false =>
        have hce : cntE x = 50 := by simp [cntE, hz, hc]
        have hb : crB m = false := by simp [crB, hj, hc]
        have hr : crE m = 50 := by simp [crE, hs, hb, hj, hz]
        have hl : crL m = [] := by simp [crL, hb]
        rw [hr, hl]
        clear hr hl hj hx hb
        go_enter Try.func28, Try.ntmps28
        go_wp2_with fail
        refine (imageCheck_any _ _ _ _).mono ?_
        rintro e w' ⟨rfl, rfl⟩
        go_wp2_with fail
        refine (count_any _ _ hin).mono ?_
        rintro e w' ⟨rfl, rfl⟩
        go_wp2_with fail
        go_ret2
        exact retE_nil (Ext.refl w)
      | true =>
        obtain ⟨c1, c2⟩ := cntB_bd hc
        have hce : cntE x = 0 := by simp [cntE, hz, hc]
        have hcn : cntN x = x % 64 := by simp [cntN, hc]
        obtain ⟨t, ht⟩ : ∃ t : Nat, x % 64 = (t : Int) := Int.eq_ofNat_of_zero_le (by omega)
        have htn : cn m = t := by unfold cn; rw [hj, ht]; rfl
        have hjl := jnl_length m t
        by_cases h0 : chkE (jnl m t) m.length = 0
        · have hrd : rdE m t = 0 := by simp only [rdE, hs, if_true, Int.toNat_natCast]; rw [if_neg (by omega), if_pos h0]
          have hcw : cwE (jnl m t) m.length = 0 := by unfold cwE; rw [if_pos h0, if_neg (by omega)]
          have hcwi := cword_in (l := jnl m t) (by omega)
          by_cases hw : cword (jnl m t) = x
          · have hb : crB m = true := by simp [crB, htn, hj, hc, h0, hw]
            have hr : crE m = 0 := by simp only [crE, hs, if_true]; rw [if_pos (.inr hb)]
            have hl : crL m = jnl m t := by simp only [crL, hs, hb, htn]; simp
            rw [hr, hl]
            have HH := Lib.hid (And.intro hrd (And.intro hcw (And.intro hw hjl)))
            clear hr hl hj hx hb htn h0 hrd hcw hw hjl hcwi hc
            rw [ht] at hcn c1 c2
            clear ht
            go_enter Try.func28, Try.ntmps28
            go_wp2_with fail
            refine (imageCheck_any _ _ _ _).mono ?_
            rintro e w' ⟨rfl, rfl⟩
            go_wp2_with fail
            refine (count_any _ _ hin).mono ?_
            rintro e w' ⟨rfl, rfl⟩
            go_wp2_with fail
            refine (entryRead_any m t _ c w hA wf).mono ?_
            rintro e w1 h
            rw [HH.out.1] at h
            obtain ⟨A1, c1, rfl, hA1, hx1⟩ := h.toE HH.out.2.2.2
            rw [selL_ok rfl] at hA1 ⊢
            clear h
            go_wp2_with fail
            refine (commitWord_any (jnl m t) m.length A1 c1 w1 hA1 (jnl_wf wf (by omega) t)).mono ?_
            rintro e w2 ⟨rfl, hx2⟩
            rw [HH.out.2.1, if_pos rfl, HH.out.2.2.1]
            go_wp2_with fail
            go_ret2
            exact ⟨_, _, rfl, hA1.ext hx2, hx1.trans hx2⟩
          · have hb : crB m = false := by simp [crB, htn, hj, hw]
            have hr : crE m = 50 := by simp [crE, hs, hb, hj, hz]
            have hl : crL m = [] := by simp [crL, hb]
            rw [hr, hl]
            have hw' : (cword (jnl m t) != x) = true := by simpa using hw
            have HH := Lib.hid (And.intro hrd (And.intro hcw hjl))
            clear hr hl hj hx hb htn h0 hrd hcw hjl hcwi hc
            rw [ht] at hcn c1 c2
            clear ht
            go_enter Try.func28, Try.ntmps28
            go_wp2_with fail
            refine (imageCheck_any _ _ _ _).mono ?_
            rintro e w' ⟨rfl, rfl⟩
            go_wp2_with fail
            refine (count_any _ _ hin).mono ?_
            rintro e w' ⟨rfl, rfl⟩
            go_wp2_with fail
            refine (entryRead_any m t _ c w hA wf).mono ?_
            rintro e w1 h
            rw [HH.out.1] at h
            obtain ⟨A1, c1, rfl, hA1, hx1⟩ := h.toE HH.out.2.2
            rw [selL_ok rfl] at hA1 ⊢
            clear h
            go_wp2_with fail
            refine (commitWord_any (jnl m t) m.length A1 c1 w1 hA1 (jnl_wf wf (by omega) t)).mono ?_
            rintro e w2 ⟨rfl, hx2⟩
            rw [HH.out.2.1, if_pos rfl]
            go_wp2_with fail
            go_ret2
            exact retE_nil (hx1.trans hx2)
        · have hrd : rdE m t = 50 := by simp only [rdE, hs, if_true, Int.toNat_natCast]; rw [if_neg (by omega), if_neg h0]
          have hb : crB m = false := by simp [crB, htn, hj, h0]
          have hr : crE m = 50 := by simp [crE, hs, hb, hj, hz]
          have hl : crL m = [] := by simp [crL, hb]
          rw [hr, hl]
          have HH := Lib.hid (And.intro hrd hjl)
          clear hr hl hj hx hb htn h0 hrd hjl hc
          rw [ht] at hcn c1 c2
          clear ht
          go_enter Try.func28, Try.ntmps28
          go_wp2_with fail
          refine (imageCheck_any _ _ _ _).mono ?_
          rintro e w' ⟨rfl, rfl⟩
          go_wp2_with fail
          refine (count_any _ _ hin).mono ?_
          rintro e w' ⟨rfl, rfl⟩
          go_wp2_with fail
          refine (entryRead_any m t _ c w hA wf).mono ?_
          rintro e w1 h
          rw [HH.out.1] at h
          obtain ⟨A1, c1, rfl, hA1, hx1⟩ := h.toE HH.out.2
          rw [selL_no (by decide)] at hA1 ⊢
          clear h
          go_wp2_with fail
          go_ret2
          exact retE_nil hx1
end Go.Proofs.Ytmkcpnklaijkfaa
