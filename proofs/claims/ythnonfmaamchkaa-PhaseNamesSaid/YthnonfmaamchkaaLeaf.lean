/-
  Contracts of the small functions: sizes, checks of images, comparisons, copies.
-/
import Derived.Test.YthnonfmaamchkaaTys
import Derived.Test.YthnonfmaamchkaaPlain
namespace Go.Proofs.Ythnonfmaamchkaa
open Go.RowKit

set_option maxHeartbeats 400000 in
theorem imageSize_any (n : Int) (w : World) :
    Calls Try.prog 62 #[.int .i64 n] w fun e w' => e = .returned (.bool (sizeB n)) ∧ w = w' := by
  go_enter Try.func62, Try.ntmps62
  go_wp2
  all_goals go_ret
  all_goals refine ⟨ret_bool (Bool.eq_iff_iff.2 ?_), rfl⟩
  all_goals simp [sizeB]
  all_goals omega
set_option maxHeartbeats 400000 in
theorem refSize_any (n : Int) (w : World) :
    Calls Try.prog 49 #[.int .i64 n] w fun e w' => e = .returned (.bool (sizeB n)) ∧ w = w' := by
  go_enter Try.func49, Try.ntmps49
  go_wp2
  all_goals go_ret
  all_goals refine ⟨ret_bool (Bool.eq_iff_iff.2 ?_), rfl⟩
  all_goals simp [sizeB]
  all_goals omega
set_option maxHeartbeats 400000 in
theorem entrySize_any (n : Int) (w : World) :
    Calls Try.prog 47 #[.int .i64 n] w fun e w' => e = .returned (.int .i64 (szE n)) ∧ w = w' := by
  go_enter Try.func47, Try.ntmps47
  go_wp2
  all_goals go_ret
  all_goals refine ⟨ret_int ?_, rfl⟩
  all_goals simp_all [szE, sizeB]
  all_goals omega
set_option maxHeartbeats 400000 in
theorem entryMay_any (a n : Int) (w : World) :
    Calls Try.prog 48 #[.int .i64 a, .int .i64 n] w fun e w' => e = .returned (.bool (mayB a n)) ∧ w = w' := by
  go_enter Try.func48, Try.ntmps48
  go_wp2
  all_goals go_ret
  all_goals refine ⟨ret_bool (Bool.eq_iff_iff.2 ?_), rfl⟩
  all_goals simp [mayB]
  all_goals omega
set_option maxHeartbeats 400000 in
theorem refFree_any (a n : Int) (w : World) :
    Calls Try.prog 50 #[.int .i64 a, .int .i64 n] w fun e w' => e = .returned (.bool (mayB a n)) ∧ w = w' := by
  go_enter Try.func50, Try.ntmps50
  go_wp2
  all_goals go_ret
  all_goals refine ⟨ret_bool (Bool.eq_iff_iff.2 ?_), rfl⟩
  all_goals simp [mayB]
  all_goals omega
set_option maxHeartbeats 400000 in
theorem imageCheck_any (A : Option Addr) (n c : Nat) (w : World) :
    Calls Try.prog 53 #[.slice A n c] w fun e w' => e = .returned (.int .i64 (imgE n)) ∧ w = w' := by
  go_enter Try.func53, Try.ntmps53
  go_wp2_with (go_at_call 62; refine (imageSize_any _ _).mono ?_; rintro e w' ⟨rfl, rfl⟩)
  all_goals go_ret
  all_goals refine ⟨ret_int ?_, rfl⟩
  all_goals simp_all [imgE]
set_option maxHeartbeats 400000 in
theorem refCheck2_any (A : Option Addr) (n c : Nat) (w : World) :
    Calls Try.prog 28 #[.slice A n c] w fun e w' => e = .returned (.int .i64 (imgE n)) ∧ w = w' := by
  go_enter Try.func28, Try.ntmps28
  go_wp2_with (go_at_call 49; refine (refSize_any _ _).mono ?_; rintro e w' ⟨rfl, rfl⟩)
  all_goals go_ret
  all_goals refine ⟨ret_int ?_, rfl⟩
  all_goals simp_all [imgE]
set_option maxHeartbeats 400000 in
theorem great2_any (A : Option Addr) (n c : Nat) (w : World) :
    Calls Try.prog 34 #[.slice A n c] w fun e w' => e = .returned (.bool (decide (2100 < n))) ∧ w = w' := by
  go_enter Try.func34, Try.ntmps34
  go_wp2
  go_ret
  refine ⟨ret_bool (Bool.eq_iff_iff.2 ?_), rfl⟩
  simp
  omega
set_option maxHeartbeats 400000 in
theorem great8_any (A : Option Addr) (n c : Nat) (w : World) :
    Calls Try.prog 19 #[.slice A n c] w fun e w' => e = .returned (.bool (decide (50 < n))) ∧ w = w' := by
  go_enter Try.func19, Try.ntmps19
  go_wp2
  go_ret
  refine ⟨ret_bool (Bool.eq_iff_iff.2 ?_), rfl⟩
  simp
  omega
end Go.Proofs.Ythnonfmaamchkaa
