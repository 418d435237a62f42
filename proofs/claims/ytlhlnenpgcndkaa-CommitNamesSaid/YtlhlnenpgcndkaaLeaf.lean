/-
  Contracts of the small functions: sizes, checks of images, comparisons, copies.
-/
import Derived.Test.YtlhlnenpgcndkaaTys
import Derived.Test.YtlhlnenpgcndkaaPlain
namespace Go.Proofs.Ytlhlnenpgcndkaa
open Go.RowKit

set_option maxHeartbeats 400000 in
theorem imageSize_any (n : Int) (w : World) :
    Calls Try.prog 51 #[.int .i64 n] w fun e w' => e = .returned (.bool (sizeB n)) ∧ w = w' := by
  go_enter Try.func51, Try.ntmps51
  go_wp2
  all_goals go_ret
  all_goals refine ⟨ret_bool (Bool.eq_iff_iff.2 ?_), rfl⟩
  all_goals simp [sizeB]
  all_goals omega
set_option maxHeartbeats 400000 in
theorem refSize_any (n : Int) (w : World) :
    Calls Try.prog 45 #[.int .i64 n] w fun e w' => e = .returned (.bool (sizeB n)) ∧ w = w' := by
  go_enter Try.func45, Try.ntmps45
  go_wp2
  all_goals go_ret
  all_goals refine ⟨ret_bool (Bool.eq_iff_iff.2 ?_), rfl⟩
  all_goals simp [sizeB]
  all_goals omega
set_option maxHeartbeats 400000 in
theorem entrySize_any (n : Int) (w : World) :
    Calls Try.prog 36 #[.int .i64 n] w fun e w' => e = .returned (.int .i64 (szE n)) ∧ w = w' := by
  go_enter Try.func36, Try.ntmps36
  go_wp2
  all_goals go_ret
  all_goals refine ⟨ret_int ?_, rfl⟩
  all_goals simp_all [szE, sizeB]
  all_goals omega
set_option maxHeartbeats 400000 in
theorem entryMay_any (a n : Int) (w : World) :
    Calls Try.prog 37 #[.int .i64 a, .int .i64 n] w fun e w' => e = .returned (.bool (mayB a n)) ∧ w = w' := by
  go_enter Try.func37, Try.ntmps37
  go_wp2
  all_goals go_ret
  all_goals refine ⟨ret_bool (Bool.eq_iff_iff.2 ?_), rfl⟩
  all_goals simp [mayB]
  all_goals omega
set_option maxHeartbeats 400000 in
theorem refFree_any (a n : Int) (w : World) :
    Calls Try.prog 46 #[.int .i64 a, .int .i64 n] w fun e w' => e = .returned (.bool (mayB a n)) ∧ w = w' := by
  go_enter Try.func46, Try.ntmps46
  go_wp2
  all_goals go_ret
  all_goals refine ⟨ret_bool (Bool.eq_iff_iff.2 ?_), rfl⟩
  all_goals simp [mayB]
  all_goals omega
set_option maxHeartbeats 400000 in
theorem imageCheck_any (A : Option Addr) (n c : Nat) (w : World) :
    Calls Try.prog 39 #[.slice A n c] w fun e w' => e = .returned (.int .i64 (imgE n)) ∧ w = w' := by
  go_enter Try.func39, Try.ntmps39
  go_wp2_with (go_at_call 51; refine (imageSize_any _ _).mono ?_; rintro e w' ⟨rfl, rfl⟩)
  all_goals go_ret
  all_goals refine ⟨ret_int ?_, rfl⟩
  all_goals simp_all [imgE]
set_option maxHeartbeats 400000 in
theorem refCheck2_any (A : Option Addr) (n c : Nat) (w : World) :
    Calls Try.prog 31 #[.slice A n c] w fun e w' => e = .returned (.int .i64 (imgE n)) ∧ w = w' := by
  go_enter Try.func31, Try.ntmps31
  go_wp2_with (go_at_call 45; refine (refSize_any _ _).mono ?_; rintro e w' ⟨rfl, rfl⟩)
  all_goals go_ret
  all_goals refine ⟨ret_int ?_, rfl⟩
  all_goals simp_all [imgE]
set_option maxHeartbeats 400000 in
theorem great2_any (A : Option Addr) (n c : Nat) (w : World) :
    Calls Try.prog 27 #[.slice A n c] w fun e w' => e = .returned (.bool (decide (2100 < n))) ∧ w = w' := by
  go_enter Try.func27, Try.ntmps27
  go_wp2
  go_ret
  refine ⟨ret_bool (Bool.eq_iff_iff.2 ?_), rfl⟩
  simp
  omega
set_option maxHeartbeats 400000 in
theorem great8_any (A : Option Addr) (n c : Nat) (w : World) :
    Calls Try.prog 18 #[.slice A n c] w fun e w' => e = .returned (.bool (decide (50 < n))) ∧ w = w' := by
  go_enter Try.func18, Try.ntmps18
  go_wp2
  go_ret
  refine ⟨ret_bool (Bool.eq_iff_iff.2 ?_), rfl⟩
  simp
  omega
end Go.Proofs.Ytlhlnenpgcndkaa
