/-
  The examples of the chapter on entries hold.
-/
import Derived.Test.YtibeolemelmpcaaWords
import Derived.Test.YtibeolemelmpcaaCopy
import Derived.Test.YtibeolemelmpcaaSame7
namespace Go.Proofs.Ytibeolemelmpcaa
open Go.RowKit

set_option maxHeartbeats 1600000 in
theorem alive08_any (w : World) : Calls Try.prog 35 #[] w fun e w' => e = .returned (.bool true) ∧ Ext w w' := by
  have h1 : chkE [(130, 5), (16, 7)] 256 = 0 := by decide
  have h2 : sizeB 256 = true := by decide
  have h3 : szE 256 = 0 := by decide
  have h4 : mayB 24 256 = false := by decide
  have h5 : mayB 95 256 = false := by decide
  have h6 : mayB 23 256 = true := by decide
  have h7 : mayB 96 256 = true := by decide
  have hw : WfE [(130, 5), (16, 7)] := by intro x hx; simp at hx; rcases hx with rfl | rfl <;> (unfold InI InU; decide)
  have H1 := Lib.hid h1; have HW := Lib.hid hw
  clear h1 hw
  go_enter Try.func35, Try.ntmps35
  go_wp2_with fail
  refine (entryWords_any [(130, 5), (16, 7)] 256 _ _ _ (Sl.lit' _ _ _ _ rfl (by decide)) HW.out).mono ?_
  rintro e w1 (⟨_, A, c, rfl, hown, hsl, hx1⟩ | ⟨hne, _, _⟩)
  case inr => exact absurd H1.out hne
  go_wp2_with (go_at_call 32; refine (entryMay2_any _ _ _).mono ?_; rintro e w' ⟨rfl, rfl⟩)
  refine (same2_yes [130, 5, 16, 7] [130, 5, 16, 7] rfl _ _ _ _ _ (hsl.alloc _) (Sl.lit' _ _ _ _ rfl (by decide))).mono ?_
  rintro e w2 ⟨rfl, hd2⟩
  go_wp2_with fail
  go_ret
  exact ⟨rfl, ((((Ext.refl w).alloc _).trans hx1).alloc _).trans hd2.ext⟩
end Go.Proofs.Ytibeolemelmpcaa
