/-
  ReplayImages, for every image and every list of entries: the law returns true. No condition.
-/
import Derived.Test.YtmkcpnklaijkfaaImg10
import Derived.Test.YtmkcpnklaijkfaaOp10
import Derived.Test.YtmkcpnklaijkfaaGA
namespace Go.Proofs.Ytmkcpnklaijkfaa
open Go.ChangeShapes Go.WideShapes Go.ChangeAt Go.RowKit
set_option maxRecDepth 100000 in
set_option maxHeartbeats 6400000 in
theorem replayImages_any (m : List Int) (l : List (Int × Int)) (A : Option Addr) (c : Nat) (B : Option Addr) (d : Nat) (w : World) (hA : Sl w A m.length c (fU m)) (hB : Sl w B l.length d (fE l)) (wf : WfU m) :
    Calls Try.prog 4 #[.slice A m.length c, .slice B l.length d] w fun e w' => e = .returned (.bool true) ∧ Ext w w' := by
  have hBle := hB.le
  have hBmax := hB.max
  have hAle := hA.le
  have hAmax := hA.max
  unfold maxLen at hBmax hAmax
  by_cases hg : 2100 < m.length
  · have hd : decide (2100 < m.length) = true := decide_eq_true hg
    go_enter Try.func4, Try.ntmps4
    go_wp2_with fail
    refine (great2_any _ _ _ _).mono ?_
    rintro e w' ⟨rfl, rfl⟩
    go_wp2_with fail
    go_ret
    exact ⟨rfl, Ext.refl w⟩
  · have hd : decide (2100 < m.length) = false := decide_eq_false hg
    by_cases hg2 : 50 < l.length
    · have hd2 : decide (50 < l.length) = true := decide_eq_true hg2
      go_enter Try.func4, Try.ntmps4
      go_wp2_with fail
      refine (great2_any _ _ _ _).mono ?_
      rintro e w' ⟨rfl, rfl⟩
      go_wp2_with fail
      refine (great8_any _ _ _ _).mono ?_
      rintro e w' ⟨rfl, rfl⟩
      go_wp2_with fail
      go_ret
      exact ⟨rfl, Ext.refl w⟩
    · have hd2 : decide (50 < l.length) = false := decide_eq_false hg2
      have h1 := fun A c W (h : Sl W A m.length c (fU m)) => image10_any m A c W h wf
      have h2 := fun A c W (h : Sl W A m.length c (fU m)) => refImage10_any m A c W h wf
      have h3 := fun A c W (h : Sl W A l.length c (fE l)) => ops10_any l A c W h
      have h4 := fun A c W (h : Sl W A l.length c (fE l)) => refOps10_any l A c W h
      obtain ⟨a0, e0⟩ : ∃ y, imgL m = y := ⟨_, rfl⟩
      obtain ⟨a1, e1⟩ : ∃ y, crE m = y := ⟨_, rfl⟩
      obtain ⟨a2, e2⟩ : ∃ y, opN l = y := ⟨_, rfl⟩
      obtain ⟨a3, e3⟩ : ∃ y, opE l = y := ⟨_, rfl⟩
      rw [e0, e1] at h1 h2
      rw [e2, e3] at h3 h4
      have HH := Lib.hid (And.intro h1 (And.intro h2 (And.intro h3 h4)))
      clear h1 h2 h3 h4 e0 e1 e2 e3
      go_enter Try.func4, Try.ntmps4
      go_wp2_with fail
      refine (great2_any _ _ _ _).mono ?_
      rintro e w' ⟨rfl, rfl⟩
      go_wp2_with fail
      refine (great8_any _ _ _ _).mono ?_
      rintro e w' ⟨rfl, rfl⟩
      go_wp2_with fail
      refine (twin2_any m A c w hA (by omega)).mono ?_
      rintro e w1 ⟨A1, c1, rfl, _, hA1, hx1⟩
      go_wp2_with fail
      refine (HH.out.1 A1 c1 w1 hA1).mono ?_
      rintro e w2 ⟨A2, c2, rfl, hA2, hx2⟩
      go_wp2_with fail
      refine (HH.out.2.1 A c w2 (hA.ext (by repeat (first | assumption | exact Ext.refl _ | refine Ext.drewN ?_ _ | refine Ext.drew ?_ | refine Ext.alloc ?_ _ | refine Ext.trans ?_ (by assumption))))).mono ?_
      rintro e w3 ⟨A3, c3, rfl, hA3, hx3⟩
      go_wp2_with fail
      refine (HH.out.2.2.1 B d w3 (hB.ext (by repeat (first | assumption | exact Ext.refl _ | refine Ext.drewN ?_ _ | refine Ext.drew ?_ | refine Ext.alloc ?_ _ | refine Ext.trans ?_ (by assumption))))).mono ?_
      rintro e w4 ⟨rfl, hx4⟩
      go_wp2_with fail
      refine (HH.out.2.2.2 B d w4 (hB.ext (by repeat (first | assumption | exact Ext.refl _ | refine Ext.drewN ?_ _ | refine Ext.drew ?_ | refine Ext.alloc ?_ _ | refine Ext.trans ?_ (by assumption))))).mono ?_
      rintro e w5 ⟨rfl, hx5⟩
      go_wp2_with fail
      refine (same2_yes a0 a0 rfl A2 A3 c2 c3 w5 (hA2.ext (by repeat (first | assumption | exact Ext.refl _ | refine Ext.drewN ?_ _ | refine Ext.drew ?_ | refine Ext.alloc ?_ _ | refine Ext.trans ?_ (by assumption)))) (hA3.ext (by repeat (first | assumption | exact Ext.refl _ | refine Ext.drewN ?_ _ | refine Ext.drew ?_ | refine Ext.alloc ?_ _ | refine Ext.trans ?_ (by assumption))))).mono ?_
      rintro e w6 ⟨rfl, hdn⟩
      have hx6 := hdn.ext
      go_wp2_with fail
      refine (same2_yes m m rfl A1 A c1 c w6 (hA1.ext (by repeat (first | assumption | exact Ext.refl _ | refine Ext.drewN ?_ _ | refine Ext.drew ?_ | refine Ext.alloc ?_ _ | refine Ext.trans ?_ (by assumption)))) (hA.ext (by repeat (first | assumption | exact Ext.refl _ | refine Ext.drewN ?_ _ | refine Ext.drew ?_ | refine Ext.alloc ?_ _ | refine Ext.trans ?_ (by assumption))))).mono ?_
      rintro e w7 ⟨rfl, hdn2⟩
      have hx7 := hdn2.ext
      go_wp2_with fail
      go_ret
      exact ⟨rfl, (by repeat (first | assumption | exact Ext.refl _ | refine Ext.drewN ?_ _ | refine Ext.drew ?_ | refine Ext.alloc ?_ _ | refine Ext.trans ?_ (by assumption)))⟩
set_option maxRecDepth 100000 in
theorem replayImages_lifted (os : Os) (started : os.Started) (H : Type) (enc : TypeId × Value → H) :
    ReturnsInHanded {} Try.checked os 4 .any (Rows.replayImagesSpec.pre6 enc Try.prog Try.f4 Rows.replayImagesRow.domain false) (Rows.replayImagesSpec.post enc Try.prog Try.f4 false true false false) := by
  refine returnsInHanded_of_change (C := Try.checked) own_knob started (by kernel_rfl) Try.func4
    (ChangeSpec.witness6 (enc := enc) (C := Try.checked) false ⟨#[], #[.slice none 0 0, .slice none 0 0], []⟩ 8 (by kernel_rfl) (by kernel_rfl) (by kernel_rfl) (by kernel_rfl)) ?_
  intro W base args ds gs before hval0 hW hcnd _
  have hval : ∀ (j : Nat) t v, Try.f4.params[j]? = some t → args[j]? = some v → Value.okWide Try.prog W .any base t v := hval0
  have hW' := hW
  obtain ⟨p, q, hA0, hV, rfl, hfz, hnd⟩ := hW
  have hA : DataW.TrodAll enc Try.prog W 0 (fun _ => true) true Try.f4.params.toList args.toList ds p := hA0
  rw [Try.params4] at hA hval
  obtain ⟨v0, vs0, d0, ds0, p0, q0, hargs, rfl, rfl, h0, r0⟩ := trodAll_cons hA
  obtain ⟨v1, vs1, d1, ds1, p1, q1, rfl, rfl, rfl, h1, r1⟩ := trodAll_cons r0
  obtain ⟨rfl, rfl, rfl⟩ := trodAll_nil r1
  obtain rfl : args = #[v0, v1] := by cases args; simp_all
  obtain ⟨rfl, rfl⟩ := trodVars_none hV
  obtain ⟨A0, c0, m0, rfl, hS0, wA0⟩ := op_U (hval 0 29 v0 rfl rfl) h0
  obtain ⟨A1, c1, l1, rfl, hS1, wA1⟩ := op_E (hval 1 34 v1 rfl rfl) h1
  clear hA0 hval0 hval hA
  refine (replayImages_any m0 l1 A0 c0 A1 c1 W hS0 hS1 wA0).mono fun e W' ⟨he, hx⟩ => ?_
  subst he
  exact ⟨_, rfl, post_law laid_out (by kernel_rfl) hW' rfl rfl rfl Try.underlying4 hx⟩
theorem replayImages_holds : Rows.ReplayImagesSaid :=
  OpenClaim.holds_of_wide 4 Try.f4 rfl rfl rfl rfl rfl rfl rfl ⟨rfl, rfl, rfl, rfl, rfl⟩ rfl rfl rfl rfl rfl (by kernel_rfl) Try.func4 (by kernel_rfl)
    (of_decide_eq_true (by kernel_rfl)) (by unfold Func.isWrapper; first | (rw [if_pos (by decide +kernel)]; kernel_rfl) | (rw [if_neg (by decide +kernel)]; exact ⟨rfl, rfl⟩))
    (fun os started H enc _ => replayImages_lifted os started H enc)
end Go.Proofs.Ytmkcpnklaijkfaa
