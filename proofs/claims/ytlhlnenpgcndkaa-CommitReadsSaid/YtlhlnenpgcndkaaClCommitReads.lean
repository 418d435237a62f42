/-
  CommitReads, for every list of words: the law returns true. No condition.
-/
import Derived.Test.YtlhlnenpgcndkaaJour
import Derived.Test.YtlhlnenpgcndkaaAt
import Derived.Test.YtlhlnenpgcndkaaOpen
namespace Go.Proofs.Ytlhlnenpgcndkaa
open Go.ChangeShapes Go.WideShapes Go.ChangeAt Go.RowKit

set_option maxHeartbeats 3200000 in
theorem commitReads_any (m : List Int) (A : Option Addr) (c : Nat) (w : World) (hA : Sl w A m.length c (fU m)) (wm : WfU m) :
    Calls Try.prog 5 #[.slice A m.length c] w fun e w' => e = .returned (.bool true) ∧ Ext w w' := by
  by_cases hg : 2100 < m.length
  · have hd : decide (2100 < m.length) = true := decide_eq_true hg
    clear hA
    go_enter Try.func5, Try.ntmps5
    go_wp2_with fail
    refine (great2_any _ _ _ _).mono ?_
    rintro e w' ⟨rfl, rfl⟩
    go_wp2_with fail
    go_ret
    exact ⟨rfl, Ext.refl w⟩
  · have hd : decide (2100 < m.length) = false := decide_eq_false hg
    have h1 := fun A c W (h : Sl W A m.length c (fU m)) => commitRead_any m A c W h wm
    have h2 := fun A c W (h : Sl W A m.length c (fU m)) => refCRead_any m A c W h wm
    obtain ⟨a0, e0⟩ : ∃ y, crL m = y := ⟨_, rfl⟩
    obtain ⟨a1, e1⟩ : ∃ y, crE m = y := ⟨_, rfl⟩
    rw [e0, e1] at h1 h2
    have HH := Lib.hid (And.intro h1 h2)
    clear h1 h2 e0 e1
    go_enter Try.func5, Try.ntmps5
    go_wp2_with fail
    refine (great2_any _ _ _ _).mono ?_
    rintro e w' ⟨rfl, rfl⟩
    go_wp2_with fail
    refine (twin2_any m A c w hA (by omega)).mono ?_
    rintro e w1 ⟨A1, c1, rfl, _, hA1, hx1⟩
    go_wp2_with fail
    refine (HH.out.1 A1 c1 w1 hA1).mono ?_
    rintro e w2 ⟨A2, c2, rfl, hA2, hx2⟩
    go_wp2_with fail
    refine (HH.out.2 A c w2 (hA.ext (by repeat (first | assumption | exact Ext.refl _ | refine Ext.drewN ?_ _ | refine Ext.drew ?_ | refine Ext.alloc ?_ _ | refine Ext.trans ?_ (by assumption))))).mono ?_
    rintro e w3 ⟨A3, c3, rfl, hA3, hx3⟩
    go_wp2_with fail
    refine (same7_yes _ _ rfl A2 A3 c2 c3 w3 (hA2.ext (by repeat (first | assumption | exact Ext.refl _ | refine Ext.drewN ?_ _ | refine Ext.drew ?_ | refine Ext.alloc ?_ _ | refine Ext.trans ?_ (by assumption)))) hA3).mono ?_
    rintro e w4 ⟨rfl, hd4⟩
    have hx4 := hd4.ext
    go_wp2_with fail
    refine (same2_yes _ _ rfl A1 A c1 c w4 (hA1.ext (by repeat (first | assumption | exact Ext.refl _ | refine Ext.drewN ?_ _ | refine Ext.drew ?_ | refine Ext.alloc ?_ _ | refine Ext.trans ?_ (by assumption)))) (hA.ext (by repeat (first | assumption | exact Ext.refl _ | refine Ext.drewN ?_ _ | refine Ext.drew ?_ | refine Ext.alloc ?_ _ | refine Ext.trans ?_ (by assumption))))).mono ?_
    rintro e w5 ⟨rfl, hd5⟩
    have hx5 := hd5.ext
    go_wp2_with fail
    go_ret
    exact ⟨rfl, (by repeat (first | assumption | exact Ext.refl _ | refine Ext.drewN ?_ _ | refine Ext.drew ?_ | refine Ext.alloc ?_ _ | refine Ext.trans ?_ (by assumption)))⟩
set_option maxRecDepth 100000 in
theorem commitReads_lifted (os : Os) (started : os.Started) (H : Type) (enc : TypeId × Value → H) :
    ReturnsInHanded {} Try.checked os 5 .any (Rows.commitReadsSpec.pre6 enc Try.prog Try.f5 Rows.commitReadsRow.domain false) (Rows.commitReadsSpec.post enc Try.prog Try.f5 false true false false) := by
  refine returnsInHanded_of_change (C := Try.checked) own_knob started (by kernel_rfl) Try.func5
    (ChangeSpec.witness6 (enc := enc) (C := Try.checked) false ⟨#[], #[.slice none 0 0], []⟩ 8 (by kernel_rfl) (by kernel_rfl) (by kernel_rfl) (by kernel_rfl)) ?_
  intro W base args ds gs before hval0 hW hcnd _
  have hval : ∀ (j : Nat) t v, Try.f5.params[j]? = some t → args[j]? = some v → Value.okWide Try.prog W .any base t v := hval0
  have hW' := hW
  obtain ⟨p, q, hA0, hV, rfl, hfz, hnd⟩ := hW
  have hA : DataW.TrodAll enc Try.prog W 0 (fun _ => true) true Try.f5.params.toList args.toList ds p := hA0
  rw [Try.params5] at hA hval
  obtain ⟨v0, vs0, d0, ds0, p0, q0, hargs, rfl, rfl, h0, r0⟩ := trodAll_cons hA
  obtain ⟨rfl, rfl, rfl⟩ := trodAll_nil r0
  obtain rfl : args = #[v0] := by cases args; simp_all
  obtain ⟨rfl, rfl⟩ := trodVars_none hV
  obtain ⟨A0, c0, m0, rfl, hS0, wA0⟩ := op_U (hval 0 30 v0 rfl rfl) h0
  clear hA0 hval0 hval hA
  refine (commitReads_any m0 A0 c0 W hS0 wA0).mono fun e W' ⟨he, hx⟩ => ?_
  subst he
  exact ⟨_, rfl, post_law laid_out (by kernel_rfl) hW' rfl rfl rfl Try.underlying4 hx⟩
theorem commitReads_holds : Rows.CommitReadsSaid :=
  OpenClaim.holds_of_wide 5 Try.f5 rfl rfl rfl rfl rfl rfl rfl ⟨rfl, rfl, rfl, rfl, rfl⟩ rfl rfl rfl rfl rfl (by kernel_rfl) Try.func5 (by kernel_rfl)
    (of_decide_eq_true (by kernel_rfl)) (by unfold Func.isWrapper; first | (rw [if_pos (by decide +kernel)]; kernel_rfl) | (rw [if_neg (by decide +kernel)]; exact ⟨rfl, rfl⟩))
    (fun os started H enc _ => commitReads_lifted os started H enc)
end Go.Proofs.Ytlhlnenpgcndkaa
