/-
  CrashTells, for every device, number and mask: the law returns true. No condition.
-/
import Derived.Test.YtmmcbleoglgamaaAlive04
import Derived.Test.YtmmcbleoglgamaaSameI
import Derived.Test.YtmmcbleoglgamaaOpen
namespace Go.Proofs.Ytmmcbleoglgamaa
open Go.ChangeShapes Go.WideShapes Go.ChangeAt Go.RowKit

set_option maxRecDepth 100000 in
set_option maxHeartbeats 6400000 in
theorem crashTells_any (m : List Int) (q : List Dw) (left : Int) (down : Bool) (n mask : Int) (A : Option Addr) (c : Nat) (B : Option Addr) (d : Nat) (w : World) (hA : Sl w A m.length c (fU m)) (hB : Sl w B q.length d (fD q)) (hm : InU mask) :
    Calls Try.prog 5 #[.agg #[.slice A m.length c, .slice B q.length d, .int .i64 left, .bool down], .int .i64 n, .int .u64 mask] w fun e w' => e = .returned (.bool true) ∧ Ext w w' := by
  by_cases hg : (decide (2100 < m.length) || decide (2100 < q.length)) = true
  · go_enter Try.func5, Try.ntmps5
    go_wp2_with fail
    refine (dGreat_any _ _ _ _ _ _ _ _ _).mono ?_
    rintro e w' ⟨rfl, hx⟩
    rw [hg]
    go_wp2_with fail
    go_ret
    exact ⟨rfl, (by repeat (first | assumption | exact Ext.refl _ | refine Ext.drewN ?_ _ | refine Ext.drew ?_ | refine Ext.alloc ?_ _ | refine Ext.trans ?_ (by assumption)))⟩
  · have hg' : (decide (2100 < m.length) || decide (2100 < q.length)) = false := by simpa using hg
    have hml : m.length ≤ 2100 ∧ q.length ≤ 2100 := by simp at hg; omega
    obtain ⟨a0, e0⟩ : ∃ y, armV m q left down n = y := ⟨_, rfl⟩
    obtain ⟨a1, e1⟩ : ∃ y, armE m q left down n = y := ⟨_, rfl⟩
    obtain ⟨a2, e2⟩ : ∃ y, crashV m q left down mask = y := ⟨_, rfl⟩
    obtain ⟨a3, e3⟩ : ∃ y, devE m q left down = y := ⟨_, rfl⟩
    obtain ⟨a4, e4⟩ : ∃ y, choL m q left down mask = y := ⟨_, rfl⟩
    have h1 := fun A c B d W (ha : Sl W A m.length c (fU m)) (hb : Sl W B q.length d (fD q)) => dArm_any m q left down n A c B d W ha hb
    have h2 := fun A c B d W (ha : Sl W A m.length c (fU m)) (hb : Sl W B q.length d (fD q)) => dRArm_any m q left down n A c B d W ha hb
    have h3 := fun A c B d W (ha : Sl W A m.length c (fU m)) (hb : Sl W B q.length d (fD q)) => dCrash_any m q left down mask A c B d W ha hb hm
    have h4 := fun A c B d W (ha : Sl W A m.length c (fU m)) (hb : Sl W B q.length d (fD q)) => dRCrash_any m q left down mask A c B d W ha hb hm
    have h5 := fun A c B d W (hb : Sl W B q.length d (fD q)) => dChosen_any m q left down mask A c B d W hb hm
    have h6 := fun A c B d W (hb : Sl W B q.length d (fD q)) => dRChosen_any m q left down mask A c B d W hb hm
    rw [e0, e1] at h1 h2
    rw [e2, e3] at h3 h4
    rw [e3, e4] at h5 h6
    have HH := Lib.hid (And.intro h1 (And.intro h2 (And.intro h3 (And.intro h4 (And.intro h5 (And.intro h6 hg'))))))
    clear h1 h2 h3 h4 h5 h6 e0 e1 e2 e3 e4 hg hg'
    obtain ⟨m1, q1, l1, n1⟩ := a0
    obtain ⟨m2, q2, l2, n2⟩ := a2
    have H0 := Box4.new w (.slice A m.length c) (.slice B q.length d) (.int .i64 left) (.bool down) 25
    go_enter Try.func5, Try.ntmps5
    go_wp2_with fail
    refine (dGreat_any _ _ _ _ _ _ _ _ _).mono ?_
    rintro e w1 ⟨rfl, hx1⟩
    rw [HH.out.2.2.2.2.2.2]
    obtain ⟨b0, b1, b2, b3, bf, bl⟩ := H0.ext (w' := w1) (by repeat (first | assumption | exact Ext.refl _ | refine Ext.drewN ?_ _ | refine Ext.drew ?_ | refine Ext.alloc ?_ _ | refine Ext.trans ?_ (by assumption)))
    go_wp2_with fail
    refine (dRTwin_any m q left down A c B d w1 (hA.ext (by repeat (first | assumption | exact Ext.refl _ | refine Ext.drewN ?_ _ | refine Ext.drew ?_ | refine Ext.alloc ?_ _ | refine Ext.trans ?_ (by assumption)))) (hB.ext (by repeat (first | assumption | exact Ext.refl _ | refine Ext.drewN ?_ _ | refine Ext.drew ?_ | refine Ext.alloc ?_ _ | refine Ext.trans ?_ (by assumption)))) (by omega) (by omega)).mono ?_
    rintro e w2 ⟨A1, c1, B1, d1, rfl, hown1, hown2, hx2⟩
    have H1 := Box4.new w2 (.slice A1 m.length c1) (.slice B1 q.length d1) (.int .i64 left) (.bool down) 25
    have hA1 := own_sl4 hown1
    have hB1 := own_sl4 hown2
    clear b0 b1 b2 b3 bf bl hown1 hown2
    obtain ⟨b0, b1, b2, b3, bf, bl⟩ := H0.ext (w' := w2) (by repeat (first | assumption | exact Ext.refl _ | refine Ext.drewN ?_ _ | refine Ext.drew ?_ | refine Ext.alloc ?_ _ | refine Ext.trans ?_ (by assumption)))
    go_wp2_with fail
    refine (HH.out.1 A1 c1 B1 d1 _ (hA1.ext (by repeat (first | assumption | exact Ext.refl _ | refine Ext.drewN ?_ _ | refine Ext.drew ?_ | refine Ext.alloc ?_ _ | refine Ext.trans ?_ (by assumption)))) (hB1.ext (by repeat (first | assumption | exact Ext.refl _ | refine Ext.drewN ?_ _ | refine Ext.drew ?_ | refine Ext.alloc ?_ _ | refine Ext.trans ?_ (by assumption))))).mono ?_
    rintro e w3 ⟨A3, c3, B3, d3, rfl, hA3, hB3, hx3⟩
    have H3 := Box4.new w3 (.slice A3 m1.length c3) (.slice B3 q1.length d3) (.int .i64 l1) (.bool n1) 25
    clear b0 b1 b2 b3 bf bl
    obtain ⟨b0, b1, b2, b3, bf, bl⟩ := H0.ext (w' := w3) (by repeat (first | assumption | exact Ext.refl _ | refine Ext.drewN ?_ _ | refine Ext.drew ?_ | refine Ext.alloc ?_ _ | refine Ext.trans ?_ (by assumption)))
    obtain ⟨o0, o1, o2, o3, of, ol⟩ := H1.ext (w' := w3) (by repeat (first | assumption | exact Ext.refl _ | refine Ext.drewN ?_ _ | refine Ext.drew ?_ | refine Ext.alloc ?_ _ | refine Ext.trans ?_ (by assumption)))
    go_wp2_with fail
    refine (HH.out.2.1 A c B d _ (hA.ext (by repeat (first | assumption | exact Ext.refl _ | refine Ext.drewN ?_ _ | refine Ext.drew ?_ | refine Ext.alloc ?_ _ | refine Ext.trans ?_ (by assumption)))) (hB.ext (by repeat (first | assumption | exact Ext.refl _ | refine Ext.drewN ?_ _ | refine Ext.drew ?_ | refine Ext.alloc ?_ _ | refine Ext.trans ?_ (by assumption))))).mono ?_
    rintro e w4 ⟨A4, c4, B4, d4, rfl, hA4, hB4, hx4⟩
    have H4 := Box4.new w4 (.slice A4 m1.length c4) (.slice B4 q1.length d4) (.int .i64 l1) (.bool n1) 25
    clear b0 b1 b2 b3 bf bl o0 o1 o2 o3 of ol
    obtain ⟨b0, b1, b2, b3, bf, bl⟩ := H0.ext (w' := w4) (by repeat (first | assumption | exact Ext.refl _ | refine Ext.drewN ?_ _ | refine Ext.drew ?_ | refine Ext.alloc ?_ _ | refine Ext.trans ?_ (by assumption)))
    obtain ⟨o0, o1, o2, o3, of, ol⟩ := H1.ext (w' := w4) (by repeat (first | assumption | exact Ext.refl _ | refine Ext.drewN ?_ _ | refine Ext.drew ?_ | refine Ext.alloc ?_ _ | refine Ext.trans ?_ (by assumption)))
    go_wp2_with fail
    refine (HH.out.2.2.1 A1 c1 B1 d1 _ (hA1.ext (by repeat (first | assumption | exact Ext.refl _ | refine Ext.drewN ?_ _ | refine Ext.drew ?_ | refine Ext.alloc ?_ _ | refine Ext.trans ?_ (by assumption)))) (hB1.ext (by repeat (first | assumption | exact Ext.refl _ | refine Ext.drewN ?_ _ | refine Ext.drew ?_ | refine Ext.alloc ?_ _ | refine Ext.trans ?_ (by assumption))))).mono ?_
    rintro e w5 ⟨A5, c5, B5, d5, rfl, hA5, hB5, hx5⟩
    have H5 := Box4.new w5 (.slice A5 m2.length c5) (.slice B5 q2.length d5) (.int .i64 l2) (.bool n2) 25
    clear b0 b1 b2 b3 bf bl o0 o1 o2 o3 of ol
    obtain ⟨b0, b1, b2, b3, bf, bl⟩ := H0.ext (w' := w5) (by repeat (first | assumption | exact Ext.refl _ | refine Ext.drewN ?_ _ | refine Ext.drew ?_ | refine Ext.alloc ?_ _ | refine Ext.trans ?_ (by assumption)))
    obtain ⟨o0, o1, o2, o3, of, ol⟩ := H1.ext (w' := w5) (by repeat (first | assumption | exact Ext.refl _ | refine Ext.drewN ?_ _ | refine Ext.drew ?_ | refine Ext.alloc ?_ _ | refine Ext.trans ?_ (by assumption)))
    go_wp2_with fail
    refine (HH.out.2.2.2.1 A c B d _ (hA.ext (by repeat (first | assumption | exact Ext.refl _ | refine Ext.drewN ?_ _ | refine Ext.drew ?_ | refine Ext.alloc ?_ _ | refine Ext.trans ?_ (by assumption)))) (hB.ext (by repeat (first | assumption | exact Ext.refl _ | refine Ext.drewN ?_ _ | refine Ext.drew ?_ | refine Ext.alloc ?_ _ | refine Ext.trans ?_ (by assumption))))).mono ?_
    rintro e w6 ⟨A6, c6, B6, d6, rfl, hA6, hB6, hx6⟩
    have H6 := Box4.new w6 (.slice A6 m2.length c6) (.slice B6 q2.length d6) (.int .i64 l2) (.bool n2) 25
    clear b0 b1 b2 b3 bf bl o0 o1 o2 o3 of ol
    obtain ⟨b0, b1, b2, b3, bf, bl⟩ := H0.ext (w' := w6) (by repeat (first | assumption | exact Ext.refl _ | refine Ext.drewN ?_ _ | refine Ext.drew ?_ | refine Ext.alloc ?_ _ | refine Ext.trans ?_ (by assumption)))
    obtain ⟨o0, o1, o2, o3, of, ol⟩ := H1.ext (w' := w6) (by repeat (first | assumption | exact Ext.refl _ | refine Ext.drewN ?_ _ | refine Ext.drew ?_ | refine Ext.alloc ?_ _ | refine Ext.trans ?_ (by assumption)))
    go_wp2_with fail
    refine (HH.out.2.2.2.2.1 A1 c1 B1 d1 _ (hB1.ext (by repeat (first | assumption | exact Ext.refl _ | refine Ext.drewN ?_ _ | refine Ext.drew ?_ | refine Ext.alloc ?_ _ | refine Ext.trans ?_ (by assumption))))).mono ?_
    rintro e w7 ⟨A7, c7, rfl, hA7, hx7⟩
    clear b0 b1 b2 b3 bf bl o0 o1 o2 o3 of ol
    obtain ⟨b0, b1, b2, b3, bf, bl⟩ := H0.ext (w' := w7) (by repeat (first | assumption | exact Ext.refl _ | refine Ext.drewN ?_ _ | refine Ext.drew ?_ | refine Ext.alloc ?_ _ | refine Ext.trans ?_ (by assumption)))
    go_wp2_with fail
    refine (HH.out.2.2.2.2.2.1 A c B d w7 (hB.ext (by repeat (first | assumption | exact Ext.refl _ | refine Ext.drewN ?_ _ | refine Ext.drew ?_ | refine Ext.alloc ?_ _ | refine Ext.trans ?_ (by assumption))))).mono ?_
    rintro e w8 ⟨A8, c8, rfl, hA8, hx8⟩
    clear b0 b1 b2 b3 bf bl
    obtain ⟨b0, b1, b2, b3, bf, bl⟩ := H3.ext (w' := w8) (by repeat (first | assumption | exact Ext.refl _ | refine Ext.drewN ?_ _ | refine Ext.drew ?_ | refine Ext.alloc ?_ _ | refine Ext.trans ?_ (by assumption)))
    obtain ⟨o0, o1, o2, o3, of, ol⟩ := H4.ext (w' := w8) (by repeat (first | assumption | exact Ext.refl _ | refine Ext.drewN ?_ _ | refine Ext.drew ?_ | refine Ext.alloc ?_ _ | refine Ext.trans ?_ (by assumption)))
    go_wp2_with fail
    refine (dSame_yes m1 q1 l1 n1 A3 c3 B3 d3 A4 c4 B4 d4 w8 (hA3.ext (by repeat (first | assumption | exact Ext.refl _ | refine Ext.drewN ?_ _ | refine Ext.drew ?_ | refine Ext.alloc ?_ _ | refine Ext.trans ?_ (by assumption)))) (hB3.ext (by repeat (first | assumption | exact Ext.refl _ | refine Ext.drewN ?_ _ | refine Ext.drew ?_ | refine Ext.alloc ?_ _ | refine Ext.trans ?_ (by assumption)))) (hA4.ext (by repeat (first | assumption | exact Ext.refl _ | refine Ext.drewN ?_ _ | refine Ext.drew ?_ | refine Ext.alloc ?_ _ | refine Ext.trans ?_ (by assumption)))) (hB4.ext (by repeat (first | assumption | exact Ext.refl _ | refine Ext.drewN ?_ _ | refine Ext.drew ?_ | refine Ext.alloc ?_ _ | refine Ext.trans ?_ (by assumption))))).mono ?_
    rintro e w9 ⟨rfl, hx9⟩
    clear b0 b1 b2 b3 bf bl o0 o1 o2 o3 of ol
    obtain ⟨b0, b1, b2, b3, bf, bl⟩ := H5.ext (w' := w9) (by repeat (first | assumption | exact Ext.refl _ | refine Ext.drewN ?_ _ | refine Ext.drew ?_ | refine Ext.alloc ?_ _ | refine Ext.trans ?_ (by assumption)))
    obtain ⟨o0, o1, o2, o3, of, ol⟩ := H6.ext (w' := w9) (by repeat (first | assumption | exact Ext.refl _ | refine Ext.drewN ?_ _ | refine Ext.drew ?_ | refine Ext.alloc ?_ _ | refine Ext.trans ?_ (by assumption)))
    go_wp2_with fail
    refine (dSame_yes m2 q2 l2 n2 A5 c5 B5 d5 A6 c6 B6 d6 w9 (hA5.ext (by repeat (first | assumption | exact Ext.refl _ | refine Ext.drewN ?_ _ | refine Ext.drew ?_ | refine Ext.alloc ?_ _ | refine Ext.trans ?_ (by assumption)))) (hB5.ext (by repeat (first | assumption | exact Ext.refl _ | refine Ext.drewN ?_ _ | refine Ext.drew ?_ | refine Ext.alloc ?_ _ | refine Ext.trans ?_ (by assumption)))) (hA6.ext (by repeat (first | assumption | exact Ext.refl _ | refine Ext.drewN ?_ _ | refine Ext.drew ?_ | refine Ext.alloc ?_ _ | refine Ext.trans ?_ (by assumption)))) (hB6.ext (by repeat (first | assumption | exact Ext.refl _ | refine Ext.drewN ?_ _ | refine Ext.drew ?_ | refine Ext.alloc ?_ _ | refine Ext.trans ?_ (by assumption))))).mono ?_
    rintro e w10 ⟨rfl, hx10⟩
    clear b0 b1 b2 b3 bf bl o0 o1 o2 o3 of ol
    go_wp2_with fail
    refine (sameI_yes a4 a4 rfl A7 A8 c7 c8 w10 (hA7.ext (by repeat (first | assumption | exact Ext.refl _ | refine Ext.drewN ?_ _ | refine Ext.drew ?_ | refine Ext.alloc ?_ _ | refine Ext.trans ?_ (by assumption)))) (hA8.ext (by repeat (first | assumption | exact Ext.refl _ | refine Ext.drewN ?_ _ | refine Ext.drew ?_ | refine Ext.alloc ?_ _ | refine Ext.trans ?_ (by assumption))))).mono ?_
    rintro e w11 ⟨rfl, hd11⟩
    have hx11 := hd11.ext
    obtain ⟨b0, b1, b2, b3, bf, bl⟩ := H1.ext (w' := w11) (by repeat (first | assumption | exact Ext.refl _ | refine Ext.drewN ?_ _ | refine Ext.drew ?_ | refine Ext.alloc ?_ _ | refine Ext.trans ?_ (by assumption)))
    obtain ⟨o0, o1, o2, o3, of, ol⟩ := H0.ext (w' := w11) (by repeat (first | assumption | exact Ext.refl _ | refine Ext.drewN ?_ _ | refine Ext.drew ?_ | refine Ext.alloc ?_ _ | refine Ext.trans ?_ (by assumption)))
    go_wp2_with fail
    refine (dSame_yes m q left down A1 c1 B1 d1 A c B d w11 (hA1.ext (by repeat (first | assumption | exact Ext.refl _ | refine Ext.drewN ?_ _ | refine Ext.drew ?_ | refine Ext.alloc ?_ _ | refine Ext.trans ?_ (by assumption)))) (hB1.ext (by repeat (first | assumption | exact Ext.refl _ | refine Ext.drewN ?_ _ | refine Ext.drew ?_ | refine Ext.alloc ?_ _ | refine Ext.trans ?_ (by assumption)))) (hA.ext (by repeat (first | assumption | exact Ext.refl _ | refine Ext.drewN ?_ _ | refine Ext.drew ?_ | refine Ext.alloc ?_ _ | refine Ext.trans ?_ (by assumption)))) (hB.ext (by repeat (first | assumption | exact Ext.refl _ | refine Ext.drewN ?_ _ | refine Ext.drew ?_ | refine Ext.alloc ?_ _ | refine Ext.trans ?_ (by assumption))))).mono ?_
    rintro e w12 ⟨rfl, hx12⟩
    clear b0 b1 b2 b3 bf bl o0 o1 o2 o3 of ol
    go_wp2_with fail
    go_ret
    exact ⟨rfl, (by repeat (first | assumption | exact Ext.refl _ | refine Ext.drewN ?_ _ | refine Ext.drew ?_ | refine Ext.alloc ?_ _ | refine Ext.trans ?_ (by assumption)))⟩
set_option maxRecDepth 100000 in
theorem crashTells_lifted (os : Os) (started : os.Started) (H : Type) (enc : TypeId × Value → H) :
    ReturnsInHanded {} Try.checked os 5 .any (Rows.crashTellsSpec.pre6 enc Try.prog Try.f5 Rows.crashTellsRow.domain false) (Rows.crashTellsSpec.post enc Try.prog Try.f5 false true false false) := by
  refine returnsInHanded_of_change (C := Try.checked) own_knob started (by kernel_rfl) Try.func5
    (ChangeSpec.witness6 (enc := enc) (C := Try.checked) false ⟨#[], #[.agg #[.slice none 0 0, .slice none 0 0, .int .i64 0, .bool false], .int .i64 0, .int .u64 0], []⟩ 8 (by kernel_rfl) (by kernel_rfl) (by kernel_rfl) (by kernel_rfl)) ?_
  intro W base args ds gs before hval0 hW hcnd _
  have hval : ∀ (j : Nat) t v, Try.f5.params[j]? = some t → args[j]? = some v → Value.okWide Try.prog W .any base t v := hval0
  have hW' := hW
  obtain ⟨p, q, hA0, hV, rfl, hfz, hnd⟩ := hW
  have hA : DataW.TrodAll enc Try.prog W 0 (fun _ => true) true Try.f5.params.toList args.toList ds p := hA0
  rw [Try.params5] at hA hval
  obtain ⟨v0, vs0, d0, ds0, p0, q0, hargs, rfl, rfl, h0, r0⟩ := trodAll_cons hA
  obtain ⟨v1, vs1, d1, ds1, p1, q1, rfl, rfl, rfl, h1, r1⟩ := trodAll_cons r0
  obtain ⟨v2, vs2, d2, ds2, p2, q2, rfl, rfl, rfl, h2, r2⟩ := trodAll_cons r1
  obtain ⟨rfl, rfl, rfl⟩ := trodAll_nil r2
  obtain rfl : args = #[v0, v1, v2] := by cases args; simp_all
  obtain ⟨rfl, rfl⟩ := trodVars_none hV
  obtain ⟨A0, c0, m0, B0, k0, ds0, left0, down0, rfl, hS0, wA0, hB0, wB0, wl0⟩ := op_V (hval 0 25 v0 rfl rfl) h0
  obtain ⟨x1, rfl, wx1⟩ := op_i (hval 1 3 v1 rfl rfl) h1
  obtain ⟨x2, rfl, wx2⟩ := op_u (hval 2 26 v2 rfl rfl) h2
  clear hA0 hval0 hval hA
  refine (crashTells_any m0 ds0 left0 down0 x1 x2 A0 c0 B0 k0 W hS0 hB0 wx2).mono fun e W' ⟨he, hx⟩ => ?_
  subst he
  exact ⟨_, rfl, post_law laid_out (by kernel_rfl) hW' rfl rfl rfl Try.underlying4 hx⟩
theorem crashTells_holds : Rows.CrashTellsSaid :=
  OpenClaim.holds_of_wide 5 Try.f5 rfl rfl rfl rfl rfl rfl rfl ⟨rfl, rfl, rfl, rfl, rfl⟩ rfl rfl rfl rfl rfl (by kernel_rfl) Try.func5 (by kernel_rfl)
    (of_decide_eq_true (by kernel_rfl)) (by unfold Func.isWrapper; first | (rw [if_pos (by decide +kernel)]; kernel_rfl) | (rw [if_neg (by decide +kernel)]; exact ⟨rfl, rfl⟩))
    (fun os started H enc _ => crashTells_lifted os started H enc)
end Go.Proofs.Ytmmcbleoglgamaa
