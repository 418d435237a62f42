/-
  PhaseOnce, for every image: the law returns true. No condition.
-/
import Derived.Test.YthnonfmaamchkaaOpen
import Derived.Test.YthnonfmaamchkaaLawPC
import Derived.Test.YthnonfmaamchkaaPhRead
namespace Go.Proofs.Ythnonfmaamchkaa
open Go.ChangeShapes Go.WideShapes Go.ChangeAt Go.RowKit

theorem setP_own {m : List Int} (h : 19 ≤ m.length) : setP m (m.getD 16 0) (m.getD 17 0) (m.getD 18 0) = m := by
  rw [← setP_sets h]
  apply List.ext_getElem?
  intro i
  simp only [List.getElem?_set, List.length_set, List.getD]
  (repeat' split) <;> first | rfl | omega | (subst_vars; rw [List.getElem?_eq_getElem (by omega)]; rfl)
set_option maxHeartbeats 3200000 in
set_option maxRecDepth 100000 in
theorem phaseOnce_any (m : List Int) (A : Option Addr) (k : Nat) (w : World) (hA : Sl w A m.length k (fU m)) (wf : WfU m) :
    Calls Try.prog 8 #[.slice A m.length k] w fun en w' => en = .returned (.bool true) ∧ Ext w w' := by
  by_cases hg : 2100 < m.length
  · go_enter Try.func8, Try.ntmps8
    go_wp2_with fail
    refine (great2_any _ _ _ _).mono ?_
    rintro en w1 ⟨rfl, rfl⟩
    go_wp2_with fail
    refine (alive11_any _).mono ?_
    rintro en w2 ⟨rfl, hx⟩
    go_wp2_with fail
    go_ret
    exact ⟨rfl, hx⟩
  · have hz : eqP 0 0 0 0 0 0 = true := by decide
    have hrd := phRead_any m A k w hA wf
    cases hs : sizeB (m.length : Int) with
    | false =>
      have hi : imgE (m.length : Int) = 8 := by simp [imgE, hs]
      have hr : prE m = 8 := by simp [prE, hs]
      unfold RdP prA at hrd
      rw [hr, if_neg (by decide), if_neg (by decide), if_neg (by decide)] at hrd
      clear hr
      go_enter Try.func8, Try.ntmps8
      go_wp2_with fail
      refine (great2_any _ _ _ _).mono ?_
      rintro en w1 ⟨rfl, rfl⟩
      go_wp2_with fail
      refine hrd.mono ?_
      rintro en w2 ⟨rfl, hx2⟩
      go_wp2_with fail
      refine (refCheck2_any _ _ _ _).mono ?_
      rintro en w3 ⟨rfl, rfl⟩
      go_wp2_with fail
      refine (alive11_any _).mono ?_
      rintro en w4 ⟨rfl, hx4⟩
      go_wp2_with fail
      go_ret
      exact ⟨rfl, Ext.trans (hx2.alloc _) hx4⟩
    | true =>
      have hi : imgE (m.length : Int) = 0 := by simp [imgE, hs]
      have hsz := sizeB_bd hs
      cases ho : okP m with
      | false =>
        have hr : prE m = 50 := by simp [prE, hs, ho]
        unfold RdP prA at hrd
        rw [hr, if_neg (by decide), if_neg (by decide), if_neg (by decide)] at hrd
        clear hr
        go_enter Try.func8, Try.ntmps8
        go_wp2_with fail
        refine (great2_any _ _ _ _).mono ?_
        rintro en w1 ⟨rfl, rfl⟩
        go_wp2_with fail
        refine hrd.mono ?_
        rintro en w2 ⟨rfl, hx2⟩
        go_wp2_with fail
        refine (refCheck2_any _ _ _ _).mono ?_
        rintro en w3 ⟨rfl, rfl⟩
        go_wp2_with fail
        refine (alive11_any _).mono ?_
        rintro en w4 ⟨rfl, hx4⟩
        go_wp2_with fail
        go_ret
        exact ⟨rfl, Ext.trans (hx2.alloc _) hx4⟩
      | true =>
        have hr : prE m = 0 := by simp [prE, hs, ho]
        unfold RdP prA at hrd
        rw [hr, if_pos rfl, if_pos rfl, if_pos rfl] at hrd
        have hown := setP_own (m := m) (by omega)
        obtain ⟨⟨q0, q1, q2⟩, _, hph⟩ := okP_iff.1 ho
        obtain ⟨x0, h0⟩ : ∃ x, m.getD 16 0 = x := ⟨_, rfl⟩
        obtain ⟨x1, h1⟩ : ∃ x, m.getD 17 0 = x := ⟨_, rfl⟩
        obtain ⟨x2, h2⟩ : ∃ x, m.getD 18 0 = x := ⟨_, rfl⟩
        rw [h0, h1, h2] at hrd hown hph
        rw [h1] at q1
        have he : phE x0 x1 x2 = 0 := by simp [phE, hph]
        have hsp : spE m.length x0 x1 x2 = 0 := by simp [spE, hs, he]
        obtain ⟨b1, b2, b3, b4, b5, b6⟩ := phB_bd hph
        have HR := Lib.hid hrd
        have HH := Lib.hid (And.intro hsp hown)
        clear hrd hsp hown h0 h1 h2 hr q0 q2 hph ho hs
        go_enter Try.func8, Try.ntmps8
        go_wp2_with fail
        refine (great2_any _ _ _ _).mono ?_
        rintro en w1 ⟨rfl, rfl⟩
        go_wp2_with fail
        refine HR.out.mono ?_
        rintro en w2 ⟨rfl, hx2⟩
        go_wp2_with fail
        refine (phSet_any m A k x0 x1 x2 _ (hA.ext (hx2.alloc _))).mono ?_
        rintro en w3 (⟨_, A3, c3, rfl, _, hA3, hx3⟩ | ⟨hne, _⟩)
        case inr => exact absurd HH.out.1 hne
        obtain ⟨hc, hf⟩ := hx3.bcell
        rw [HH.out.2] at hA3
        have sp' := HH.out.1
        have hX3 : Ext w w3 := Ext.trans (hx2.alloc _) hx3
        go_wp2_with fail
        clear sp'
        refine (same2_at_yes m m rfl _ _ rfl rfl _ _ _ _ w3 hA3 (hA.ext hX3)).mono ?_
        rintro en w4 ⟨rfl, hd4⟩
        have hx34 := hx3.trans hd4.ext
        clear hc hf
        obtain ⟨hc, hf⟩ := hx34.bcell
        go_wp2_with fail
        refine (refCheck11_any _ _ _ _).mono ?_
        rintro en w5 ⟨rfl, hx5⟩
        have hx35 := hx34.trans hx5
        clear hc hf
        obtain ⟨hc, hf⟩ := hx35.bcell
        go_wp2_with fail
        refine (alive11_any _).mono ?_
        rintro en w6 ⟨rfl, hx6⟩
        go_wp2_with fail
        go_ret
        exact ⟨rfl, hX3.trans (hd4.ext.trans (hx5.trans hx6))⟩
set_option maxRecDepth 100000 in
theorem phaseOnce_lifted (os : Os) (started : os.Started) (H : Type) (enc : TypeId × Value → H) :
    ReturnsInHanded {} Try.checked os 8 .any (Rows.phaseOnceSpec.pre6 enc Try.prog Try.f8 Rows.phaseOnceRow.domain false) (Rows.phaseOnceSpec.post enc Try.prog Try.f8 false true false false) := by
  refine returnsInHanded_of_change (C := Try.checked) own_knob started (by kernel_rfl) Try.func8
    (ChangeSpec.witness6 (enc := enc) (C := Try.checked) false ⟨#[], #[.slice none 0 0], []⟩ 8 (by kernel_rfl) (by kernel_rfl) (by kernel_rfl) (by kernel_rfl)) ?_
  intro W base args ds gs before hval0 hW hcnd _
  have hval : ∀ (j : Nat) t v, Try.f8.params[j]? = some t → args[j]? = some v → Value.okWide Try.prog W .any base t v := hval0
  have hW' := hW
  obtain ⟨p, q, hA0, hV, rfl, hfz, hnd⟩ := hW
  have hA : DataW.TrodAll enc Try.prog W 0 (fun _ => true) true Try.f8.params.toList args.toList ds p := hA0
  rw [Try.params8] at hA hval
  obtain ⟨v0, vs0, d0, ds0, p0, q0, hargs, rfl, rfl, h0, r0⟩ := trodAll_cons hA
  obtain ⟨rfl, rfl, rfl⟩ := trodAll_nil r0
  obtain rfl : args = #[v0] := by cases args; simp_all
  obtain ⟨rfl, rfl⟩ := trodVars_none hV
  obtain ⟨A0, c0, m0, rfl, hS0, wA0⟩ := op_U (hval 0 41 v0 rfl rfl) h0
  clear hA0 hval0 hval hA
  refine (phaseOnce_any m0 A0 c0 W hS0 wA0).mono fun e W' ⟨he, hx⟩ => ?_
  subst he
  exact ⟨_, rfl, post_law laid_out (by kernel_rfl) hW' rfl rfl rfl Try.underlying4 hx⟩
theorem phaseOnce_holds : Rows.PhaseOnceSaid :=
  OpenClaim.holds_of_wide 8 Try.f8 rfl rfl rfl rfl rfl rfl rfl ⟨rfl, rfl, rfl, rfl, rfl⟩ rfl rfl rfl rfl rfl (by kernel_rfl) Try.func8 (by kernel_rfl)
    (of_decide_eq_true (by kernel_rfl)) (by unfold Func.isWrapper; first | (rw [if_pos (by decide +kernel)]; kernel_rfl) | (rw [if_neg (by decide +kernel)]; exact ⟨rfl, rfl⟩))
    (fun os started H enc _ => phaseOnce_lifted os started H enc)
end Go.Proofs.Ythnonfmaamchkaa
