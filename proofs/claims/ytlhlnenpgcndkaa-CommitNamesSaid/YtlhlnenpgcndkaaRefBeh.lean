/-
  The contracts of the reference's sums of lists of words.
-/
import Derived.Test.YtlhlnenpgcndkaaRefSum
namespace Go.Proofs.Ytlhlnenpgcndkaa
open Go.RowKit
set_option maxHeartbeats 3200000 in
theorem refBehind_any (s : Int) (l : List Int) (A : Option Addr) (c : Nat) (w : World) (hA : Sl w A l.length c (fU l)) (hs : 0 ≤ s ∧ s < 18446744073709551616) (wf : WfU l) :
    Calls Try.prog 60 #[.int .u64 s, .slice A l.length c] w fun e w' => e = .returned (.int .u64 (hsh s l)) ∧ Ext w w' := by
  have hlm := hA.max
  unfold maxLen at hlm
  have hlc := hA.le
  go_enter Try.func60, Try.ntmps60
  go_wp2_with fail
  go_loopw [0, 5, 7] (fun v i _ wr => ∃ k : Nat, k ≤ l.length ∧ i = .int .i64 k ∧ v = .int .u64 (hsh s (l.take k)) ∧ Ext w wr) (fun _ i _ _ => l.length - (intOf i).toNat)
  case atStart => exact ⟨0, Nat.zero_le _, rfl, rfl, Ext.refl w⟩
  case round =>
    obtain ⟨k, hk, rfl, rfl, hx⟩ := hrel
    by_cases hlt : k < l.length
    · obtain ⟨ad, x, rfl, hat, g⟩ := (hA.ext hx).u_at hlt
      have hS := hsh_in (l := l.take k) hs
      have hnx : hsh s (l.take (k + 1)) = stpB (hsh s (l.take k)) x 8 := by rw [List.take_add_one, hat, Option.toList_some, hsh_snoc]
      have hxi := wf x (List.mem_of_getElem? hat)
      obtain ⟨S, hSe⟩ : ∃ S, hsh s (l.take k) = S := ⟨_, rfl⟩
      rw [hSe] at hS hnx ⊢
      have HX := Lib.hid hnx
      clear hnx hat hSe
      go_wp2_with fail
      refine (refBytes_any x _ hxi).mono ?_
      rintro e w1 ⟨rfl, hx1⟩
      have hX1 := hx.trans hx1
      unfold bytesV
      have hbb : ∀ i, 0 ≤ byteAt x i ∧ byteAt x i < 256 := byteAt_in x
      obtain ⟨b0, e0⟩ : ∃ b, byteAt x 0 = b := ⟨_, rfl⟩
      obtain ⟨b1, e1⟩ : ∃ b, byteAt x 1 = b := ⟨_, rfl⟩
      obtain ⟨b2, e2⟩ : ∃ b, byteAt x 2 = b := ⟨_, rfl⟩
      obtain ⟨b3, e3⟩ : ∃ b, byteAt x 3 = b := ⟨_, rfl⟩
      obtain ⟨b4, e4⟩ : ∃ b, byteAt x 4 = b := ⟨_, rfl⟩
      obtain ⟨b5, e5⟩ : ∃ b, byteAt x 5 = b := ⟨_, rfl⟩
      obtain ⟨b6, e6⟩ : ∃ b, byteAt x 6 = b := ⟨_, rfl⟩
      obtain ⟨b7, e7⟩ : ∃ b, byteAt x 7 = b := ⟨_, rfl⟩
      rw [e0, e1, e2, e3, e4, e5, e6, e7]
      have HB := Lib.hid hbb
      have HE := Lib.hid (And.intro e0 (And.intro e1 (And.intro e2 (And.intro e3 (And.intro e4 (And.intro e5 (And.intro e6 e7)))))))
      clear hbb e0 e1 e2 e3 e4 e5 e6 e7
      go_wp2_with fail
      go_loopw [0, 7] (fun v i wr => ∃ j : Nat, j ≤ 8 ∧ i = .int .i64 j ∧ v = .int .u64 (stpB S x j) ∧ wr = w1.alloc (Obj.cells #[.int .u8 b0, .int .u8 b1, .int .u8 b2, .int .u8 b3, .int .u8 b4, .int .u8 b5, .int .u8 b6, .int .u8 b7] 89)) (fun _ i _ => 8 - (intOf i).toNat)
      case atStart => exact ⟨0, by omega, rfl, rfl, rfl⟩
      case round =>
        obtain ⟨j, hj, rfl, rfl, rfl⟩ := hrel
        have hin := stpB_in (w := x) hS j
        have hst : stpB S x (j + 1) = stp (stpB S x j) (byteAt x j) := rfl
        have hbj := HB.out j
        obtain ⟨T, hT⟩ : ∃ T, stpB S x j = T := ⟨_, rfl⟩
        rw [hT] at hin hst ⊢
        have HST := Lib.hid hst
        have HTT := Lib.hid hT
        clear hst hT
        rcases (by omega : j = 0 ∨ j = 1 ∨ j = 2 ∨ j = 3 ∨ j = 4 ∨ j = 5 ∨ j = 6 ∨ j = 7 ∨ j = 8) with rfl | rfl | rfl | rfl | rfl | rfl | rfl | rfl | rfl
        · rw [HE.out.1] at hbj
          have HT := Lib.hid (HST.out.trans (by rw [HE.out.1]))
          have hc := fun W => refStep_any T b0 W hin hbj
          have HC := Lib.hid hc
          clear hc
          go_wp2_with fail
          refine (HC.out _).mono ?_
          rintro e w' ⟨rfl, rfl⟩
          go_wp2_with fail
          go_roundw
          case rel => exact ⟨1, by omega, by go_num, by rw [HT.out], trivial⟩
          case measure => simp [intOf]
        · rw [HE.out.2.1] at hbj
          have HT := Lib.hid (HST.out.trans (by rw [HE.out.2.1]))
          have hc := fun W => refStep_any T b1 W hin hbj
          have HC := Lib.hid hc
          clear hc
          go_wp2_with fail
          refine (HC.out _).mono ?_
          rintro e w' ⟨rfl, rfl⟩
          go_wp2_with fail
          go_roundw
          case rel => exact ⟨2, by omega, by go_num, by rw [HT.out], trivial⟩
          case measure => simp [intOf]
        · rw [HE.out.2.2.1] at hbj
          have HT := Lib.hid (HST.out.trans (by rw [HE.out.2.2.1]))
          have hc := fun W => refStep_any T b2 W hin hbj
          have HC := Lib.hid hc
          clear hc
          go_wp2_with fail
          refine (HC.out _).mono ?_
          rintro e w' ⟨rfl, rfl⟩
          go_wp2_with fail
          go_roundw
          case rel => exact ⟨3, by omega, by go_num, by rw [HT.out], trivial⟩
          case measure => simp [intOf]
        · rw [HE.out.2.2.2.1] at hbj
          have HT := Lib.hid (HST.out.trans (by rw [HE.out.2.2.2.1]))
          have hc := fun W => refStep_any T b3 W hin hbj
          have HC := Lib.hid hc
          clear hc
          go_wp2_with fail
          refine (HC.out _).mono ?_
          rintro e w' ⟨rfl, rfl⟩
          go_wp2_with fail
          go_roundw
          case rel => exact ⟨4, by omega, by go_num, by rw [HT.out], trivial⟩
          case measure => simp [intOf]
        · rw [HE.out.2.2.2.2.1] at hbj
          have HT := Lib.hid (HST.out.trans (by rw [HE.out.2.2.2.2.1]))
          have hc := fun W => refStep_any T b4 W hin hbj
          have HC := Lib.hid hc
          clear hc
          go_wp2_with fail
          refine (HC.out _).mono ?_
          rintro e w' ⟨rfl, rfl⟩
          go_wp2_with fail
          go_roundw
          case rel => exact ⟨5, by omega, by go_num, by rw [HT.out], trivial⟩
          case measure => simp [intOf]
        · rw [HE.out.2.2.2.2.2.1] at hbj
          have HT := Lib.hid (HST.out.trans (by rw [HE.out.2.2.2.2.2.1]))
          have hc := fun W => refStep_any T b5 W hin hbj
          have HC := Lib.hid hc
          clear hc
          go_wp2_with fail
          refine (HC.out _).mono ?_
          rintro e w' ⟨rfl, rfl⟩
          go_wp2_with fail
          go_roundw
          case rel => exact ⟨6, by omega, by go_num, by rw [HT.out], trivial⟩
          case measure => simp [intOf]
        · rw [HE.out.2.2.2.2.2.2.1] at hbj
          have HT := Lib.hid (HST.out.trans (by rw [HE.out.2.2.2.2.2.2.1]))
          have hc := fun W => refStep_any T b6 W hin hbj
          have HC := Lib.hid hc
          clear hc
          go_wp2_with fail
          refine (HC.out _).mono ?_
          rintro e w' ⟨rfl, rfl⟩
          go_wp2_with fail
          go_roundw
          case rel => exact ⟨7, by omega, by go_num, by rw [HT.out], trivial⟩
          case measure => simp [intOf]
        · rw [HE.out.2.2.2.2.2.2.2] at hbj
          have HT := Lib.hid (HST.out.trans (by rw [HE.out.2.2.2.2.2.2.2]))
          have hc := fun W => refStep_any T b7 W hin hbj
          have HC := Lib.hid hc
          clear hc
          go_wp2_with fail
          refine (HC.out _).mono ?_
          rintro e w' ⟨rfl, rfl⟩
          go_wp2_with fail
          go_roundw
          case rel => exact ⟨8, by omega, by go_num, by rw [HT.out], trivial⟩
          case measure => simp [intOf]
        · go_wp2_with fail
          go_roundw
          case rel => exact ⟨k + 1, by omega, by go_num, by rw [HX.out, HTT.out], hX1.alloc _⟩
          case measure => simp [intOf]; omega
    · obtain rfl : k = l.length := by omega
      rw [List.take_length]
      go_wp2_with fail
      go_ret
      exact ⟨rfl, hx⟩
theorem refSumOf_any (l : List Int) (A : Option Addr) (c : Nat) (w : World) (hA : Sl w A l.length c (fU l)) (wf : WfU l) :
    Calls Try.prog 56 #[.slice A l.length c] w fun e w' => e = .returned (.int .u64 (sumOf l)) ∧ Ext w w' := by
  go_enter Try.func56, Try.ntmps56
  go_wp2_with fail
  refine (refBehind_any 14695981039346656037 l A c w hA (by decide) wf).mono ?_
  rintro e w1 ⟨rfl, hx⟩
  go_wp2_with fail
  go_ret
  exact ⟨rfl, hx⟩
theorem refPart_any (l : List Int) (A : Option Addr) (c : Nat) (w : World) (hA : Sl w A l.length c (fU l)) (wf : WfU l) :
    Calls Try.prog 53 #[.slice A l.length c, .int .i64 58] w fun e w' => e = .returned (.int .u64 (sumOf l % 288230376151711744)) ∧ Ext w w' := by
  have hi := sumOf_in l
  go_enter Try.func53, Try.ntmps53
  go_wp2_with fail
  refine (refSumOf_any l A c w hA wf).mono ?_
  rintro e w1 ⟨rfl, hx⟩
  go_wp2_with fail
  refine (value_any (sumOf l) 58 w1 ⟨hi.1, by omega⟩ (by decide)).mono ?_
  rintro e w2 ⟨rfl, rfl⟩
  go_wp2_with fail
  go_ret
  exact ⟨rfl, hx⟩
end Go.Proofs.Ytlhlnenpgcndkaa
