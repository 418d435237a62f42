/-
  Contracts of the small functions: sizes, checks of images, comparisons, copies.
-/
import Derived.Test.YtmmcbleoglgamaaTys
import Derived.Test.YtmmcbleoglgamaaPlain
namespace Go.Proofs.Ytmmcbleoglgamaa
open Go.RowKit

set_option maxHeartbeats 400000 in
theorem imageSize_any (n : Int) (w : World) :
    Calls Try.prog 69 #[.int .i64 n] w fun e w' => e = .returned (.bool (sizeB n)) ∧ w = w' := by
  go_enter Try.func69, Try.ntmps69
  go_wp2
  all_goals go_ret
  all_goals refine ⟨ret_bool (Bool.eq_iff_iff.2 ?_), rfl⟩
  all_goals simp [sizeB]
  all_goals omega
set_option maxHeartbeats 400000 in
theorem refSize_any (n : Int) (w : World) :
    Calls Try.prog 64 #[.int .i64 n] w fun e w' => e = .returned (.bool (sizeB n)) ∧ w = w' := by
  go_enter Try.func64, Try.ntmps64
  go_wp2
  all_goals go_ret
  all_goals refine ⟨ret_bool (Bool.eq_iff_iff.2 ?_), rfl⟩
  all_goals simp [sizeB]
  all_goals omega
set_option maxHeartbeats 400000 in
theorem imageCheck_any (A : Option Addr) (n c : Nat) (w : World) :
    Calls Try.prog 56 #[.slice A n c] w fun e w' => e = .returned (.int .i64 (imgE n)) ∧ w = w' := by
  go_enter Try.func56, Try.ntmps56
  go_wp2_with (go_at_call 69; refine (imageSize_any _ _).mono ?_; rintro e w' ⟨rfl, rfl⟩)
  all_goals go_ret
  all_goals refine ⟨ret_int ?_, rfl⟩
  all_goals simp_all [imgE]
set_option maxHeartbeats 400000 in
theorem refCheck2_any (A : Option Addr) (n c : Nat) (w : World) :
    Calls Try.prog 45 #[.slice A n c] w fun e w' => e = .returned (.int .i64 (imgE n)) ∧ w = w' := by
  go_enter Try.func45, Try.ntmps45
  go_wp2_with (go_at_call 64; refine (refSize_any _ _).mono ?_; rintro e w' ⟨rfl, rfl⟩)
  all_goals go_ret
  all_goals refine ⟨ret_int ?_, rfl⟩
  all_goals simp_all [imgE]
set_option maxHeartbeats 400000 in
theorem great2_any (A : Option Addr) (n c : Nat) (w : World) :
    Calls Try.prog 44 #[.slice A n c] w fun e w' => e = .returned (.bool (decide (2100 < n))) ∧ w = w' := by
  go_enter Try.func44, Try.ntmps44
  go_wp2
  go_ret
  refine ⟨ret_bool (Bool.eq_iff_iff.2 ?_), rfl⟩
  simp
  omega
end Go.Proofs.Ytmmcbleoglgamaa
