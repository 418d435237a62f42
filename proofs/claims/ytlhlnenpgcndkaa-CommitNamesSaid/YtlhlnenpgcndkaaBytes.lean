/-
  The contract of word.Bytes.
-/
import Derived.Test.YtlhlnenpgcndkaaFnv
import Derived.Test.YtlhlnenpgcndkaaSame
namespace Go.Proofs.Ytlhlnenpgcndkaa
open Go.RowKit
/-- The bytes of a word as a value. -/
def bytesV (x : Int) : Value := .agg #[.int .u8 (byteAt x 0), .int .u8 (byteAt x 1), .int .u8 (byteAt x 2), .int .u8 (byteAt x 3), .int .u8 (byteAt x 4), .int .u8 (byteAt x 5), .int .u8 (byteAt x 6), .int .u8 (byteAt x 7)]
set_option maxHeartbeats 1600000 in
theorem bytes_any (x : Int) (w : World) :
    Calls Try.prog 57 #[.int .u64 x] w fun e w' => e = .returned (bytesV x) ∧ Ext w w' := by
  go_enter Try.func57, Try.ntmps57
  go_wp2_with fail
  go_loopw [4, 5] (fun _ i wr => ∃ k : Nat, k ≤ 8 ∧ i = .int .i64 k ∧ wr = (w.alloc (Obj.cells #[.int .u8 0, .int .u8 0, .int .u8 0, .int .u8 0, .int .u8 0, .int .u8 0, .int .u8 0, .int .u8 0] 89)).alloc (Obj.cells #[.int .u8 (if 0 < k then byteAt x 0 else 0), .int .u8 (if 1 < k then byteAt x 1 else 0), .int .u8 (if 2 < k then byteAt x 2 else 0), .int .u8 (if 3 < k then byteAt x 3 else 0), .int .u8 (if 4 < k then byteAt x 4 else 0), .int .u8 (if 5 < k then byteAt x 5 else 0), .int .u8 (if 6 < k then byteAt x 6 else 0), .int .u8 (if 7 < k then byteAt x 7 else 0)] 89)) (fun _ i _ => 8 - (intOf i).toNat)
  case atStart => exact ⟨0, by omega, rfl, rfl⟩
  case round =>
    obtain ⟨k, hk, rfl, rfl⟩ := hrel
    rcases (by omega : k = 0 ∨ k = 1 ∨ k = 2 ∨ k = 3 ∨ k = 4 ∨ k = 5 ∨ k = 6 ∨ k = 7 ∨ k = 8) with rfl | rfl | rfl | rfl | rfl | rfl | rfl | rfl | rfl
    · go_wp2_with fail
      go_roundw
      case rel => exact ⟨1, by omega, by go_num, by simp [byteAt]⟩
      case measure => simp [intOf]
    · go_wp2_with fail
      go_roundw
      case rel => exact ⟨2, by omega, by go_num, by simp [byteAt]⟩
      case measure => simp [intOf]
    · go_wp2_with fail
      go_roundw
      case rel => exact ⟨3, by omega, by go_num, by simp [byteAt]⟩
      case measure => simp [intOf]
    · go_wp2_with fail
      go_roundw
      case rel => exact ⟨4, by omega, by go_num, by simp [byteAt]⟩
      case measure => simp [intOf]
    · go_wp2_with fail
      go_roundw
      case rel => exact ⟨5, by omega, by go_num, by simp [byteAt]⟩
      case measure => simp [intOf]
    · go_wp2_with fail
      go_roundw
      case rel => exact ⟨6, by omega, by go_num, by simp [byteAt]⟩
      case measure => simp [intOf]
    · go_wp2_with fail
      go_roundw
      case rel => exact ⟨7, by omega, by go_num, by simp [byteAt]⟩
      case measure => simp [intOf]
    · go_wp2_with fail
      go_roundw
      case rel => exact ⟨8, by omega, by go_num, by simp [byteAt]⟩
      case measure => simp [intOf]
    · go_wp2_with fail
      exact bodyPost_ret (v := bytesV x) (by simp [results, Try.results57, go_sem, bytesV]) rfl ⟨rfl, ((Ext.refl w).alloc _).alloc _⟩
end Go.Proofs.Ytlhlnenpgcndkaa
