/-
  EntryChecks, for every list of entries and every two numbers: the law returns true. No condition.
-/
import Derived.Test.YthnonfmaamchkaaWords
import Derived.Test.YthnonfmaamchkaaCopy
import Derived.Test.YthnonfmaamchkaaSame7
import Derived.Test.YthnonfmaamchkaaOpen
namespace Go.Proofs.Ythnonfmaamchkaa
open Go.ChangeShapes Go.WideShapes Go.ChangeAt Go.RowKit

set_option maxHeartbeats 3200000 in
theorem entryChecks_any (l : List (Int × Int)) (at_ words : Int) (A : Option Addr) (c : Nat) (w : World) (hA : Sl w A l.length c (fE l)) (wf : WfE l) :
    Calls Try.prog 4 #[.slice A l.length c, .int .i64 at_, .int .i64 words] w fun e w' => e = .returned (.bool true) ∧ Ext w w' := by
  by_cases hg : 50 < l.length
  · have hd : decide (50 < l.length) = true := decide_eq_true hg
    clear hA wf
    go_enter Try.func4, Try.ntmps4
    go_wp2_with (go_at_call 19; refine (great8_any _ _ _ _).mono ?_; rintro e w' ⟨rfl, rfl⟩)
    go_ret
    exact ⟨rfl, Ext.refl w⟩
  · have hd : decide (50 < l.length) = false := decide_eq_false hg
    go_enter Try.func4, Try.ntmps4
    go_wp2_with fail
    refine (great8_any _ _ _ _).mono ?_
    rintro e w' ⟨rfl, rfl⟩
    go_wp2_with fail
    refine (twin8_any l A c w hA (by omega)).mono ?_
    rintro e w1 ⟨A1, c1, rfl, _, hA1, hx1⟩
    go_wp2_with (first | (go_at_call 21; refine (entryMay2_any _ _ _).mono ?_; rintro e w' ⟨rfl, rfl⟩) | (go_at_call 22; refine (refMay2_any _ _ _).mono ?_; rintro e w' ⟨rfl, rfl⟩))
    refine (entryWords_any l words A1 c1 w1 hA1 wf).mono ?_
    rintro e w2 (⟨h0, A2, c2, rfl, _, hA2, hx2⟩ | ⟨h0, rfl, hx2⟩)
    · have H0 := Lib.hid h0
      clear h0
      go_wp2_with fail
      refine (refWords_any l words A c w2 (hA.ext (hx1.trans hx2))).mono ?_
      rintro e w3 (⟨_, A3, c3, rfl, _, hA3, hx3⟩ | ⟨h0, _, _⟩)
      case inr => exact absurd H0.out h0
      go_wp2_with fail
      refine (entryCheck_any l words A1 c1 w3 (hA1.ext (hx2.trans hx3)) wf).mono ?_
      rintro e w4 ⟨rfl, hx4⟩
      go_wp2_with fail
      refine (refCheck8_any l words A c w4 (hA.ext ((hx1.trans hx2).trans (hx3.trans hx4)))).mono ?_
      rintro e w5 ⟨rfl, hd5⟩
      go_wp2_with fail
      have hlen : 2 * l.length = (listed l).length := (listed_length l).symm
      have HL := Lib.hid hlen
      clear hlen
      rw [HL.out]
      refine (same2_yes (listed l) (listed l) rfl A2 A3 c2 c3 w5 (by rw [← HL.out]; exact hA2.ext (hx3.trans (hx4.trans hd5.ext))) (by rw [← HL.out]; exact hA3.ext (hx4.trans hd5.ext))).mono ?_
      rintro e w6 ⟨rfl, hd6⟩
      go_wp2_with fail
      refine (same7_yes l l rfl A1 A c1 c w6 (hA1.ext (hx2.trans (hx3.trans (hx4.trans (hd5.ext.trans hd6.ext))))) (hA.ext (hx1.trans (hx2.trans (hx3.trans (hx4.trans (hd5.ext.trans hd6.ext))))))).mono ?_
      rintro e w7 ⟨rfl, hd7⟩
      go_wp2_with fail
      go_ret
      exact ⟨rfl, hx1.trans (hx2.trans (hx3.trans (hx4.trans (hd5.ext.trans (hd6.ext.trans hd7.ext)))))⟩
    · have H0 := Lib.hid h0
      clear h0
      go_wp2_with fail
      refine (refWords_any l words A c w2 (hA.ext (hx1.trans hx2))).mono ?_
      rintro e w3 (⟨h0, _⟩ | ⟨_, rfl, hx3⟩)
      case inl => exact absurd h0 H0.out
      go_wp2_with fail
      refine (entryCheck_any l words A1 c1 w3 (hA1.ext (hx2.trans hx3)) wf).mono ?_
      rintro e w4 ⟨rfl, hx4⟩
      go_wp2_with fail
      refine (refCheck8_any l words A c w4 (hA.ext ((hx1.trans hx2).trans (hx3.trans hx4)))).mono ?_
      rintro e w5 ⟨rfl, hd5⟩
      go_wp2_with fail
      refine (same2_yes [] [] rfl none none 0 0 w5 (Sl.nil_ _) (Sl.nil_ _)).mono ?_
      rintro e w6 ⟨rfl, hd6⟩
      go_wp2_with fail
      refine (same7_yes l l rfl A1 A c1 c w6 (hA1.ext (hx2.trans (hx3.trans (hx4.trans (hd5.ext.trans hd6.ext))))) (hA.ext (hx1.trans (hx2.trans (hx3.trans (hx4.trans (hd5.ext.trans hd6.ext))))))).mono ?_
      rintro e w7 ⟨rfl, hd7⟩
      go_wp2_with fail
      go_ret
      exact ⟨rfl, hx1.trans (hx2.trans (hx3.trans (hx4.trans (hd5.ext.trans (hd6.ext.trans hd7.ext)))))⟩
set_option maxRecDepth 100000 in
theorem entryChecks_lifted (os : Os) (started : os.Started) (H : Type) (enc : TypeId × Value → H) :
    ReturnsInHanded {} Try.checked os 4 .any (Rows.entryChecksSpec.pre6 enc Try.prog Try.f4 Rows.entryChecksRow.domain false) (Rows.entryChecksSpec.post enc Try.prog Try.f4 false true false false) := by
  refine returnsInHanded_of_change (C := Try.checked) own_knob started (by kernel_rfl) Try.func4
    (ChangeSpec.witness6 (enc := enc) (C := Try.checked) false ⟨#[], #[.slice none 0 0, .int .i64 0, .int .i64 0], []⟩ 8 (by kernel_rfl) (by kernel_rfl) (by kernel_rfl) (by kernel_rfl)) ?_
  intro W base args ds gs before hval0 hW hcnd _
  have hval : ∀ (j : Nat) t v, Try.f4.params[j]? = some t → args[j]? = some v → Value.okWide Try.prog W .any base t v := hval0
  have hW' := hW
  obtain ⟨p, q, hA0, hV, rfl, hfz, hnd⟩ := hW
  have hA : DataW.TrodAll enc Try.prog W 0 (fun _ => true) true Try.f4.params.toList args.toList ds p := hA0
  rw [Try.params4] at hA hval
  obtain ⟨v0, vs0, d0, ds0, p0, q0, hargs, rfl, rfl, h0, r0⟩ := trodAll_cons hA
  obtain ⟨v1, vs1, d1, ds1, p1, q1, rfl, rfl, rfl, h1, r1⟩ := trodAll_cons r0
  obtain ⟨v2, vs2, d2, ds2, p2, q2, rfl, rfl, rfl, h2, r2⟩ := trodAll_cons r1
  obtain ⟨rfl, rfl, rfl⟩ := trodAll_nil r2
  obtain rfl : args = #[v0, v1, v2] := by cases args; simp_all
  obtain ⟨rfl, rfl⟩ := trodVars_none hV
  obtain ⟨A0, c0, l0, rfl, hS0, wA0⟩ := op_E (hval 0 24 v0 rfl rfl) h0
  obtain ⟨x1, rfl, wx1⟩ := op_i (hval 1 3 v1 rfl rfl) h1
  obtain ⟨x2, rfl, wx2⟩ := op_i (hval 2 3 v2 rfl rfl) h2
  clear hA0 hval0 hval hA
  refine (entryChecks_any l0 x1 x2 A0 c0 W hS0 wA0).mono fun e W' ⟨he, hx⟩ => ?_
  subst he
  exact ⟨_, rfl, post_law laid_out (by kernel_rfl) hW' rfl rfl rfl Try.underlying4 hx⟩
theorem entryChecks_holds : Rows.EntryChecksSaid :=
  OpenClaim.holds_of_wide 4 Try.f4 rfl rfl rfl rfl rfl rfl rfl ⟨rfl, rfl, rfl, rfl, rfl⟩ rfl rfl rfl rfl rfl (by kernel_rfl) Try.func4 (by kernel_rfl)
    (of_decide_eq_true (by kernel_rfl)) (by unfold Func.isWrapper; first | (rw [if_pos (by decide +kernel)]; kernel_rfl) | (rw [if_neg (by decide +kernel)]; exact ⟨rfl, rfl⟩))
    (fun os started H enc _ => entryChecks_lifted os started H enc)
end Go.Proofs.Ythnonfmaamchkaa
