/-
  CrashEnds, for every device and two masks: the law returns true. No condition.
-/
import Derived.Test.YtmmcbleoglgamaaAlive04
import Derived.Test.YtmmcbleoglgamaaCrEnd
import Derived.Test.YtmmcbleoglgamaaOpen
namespace Go.Proofs.Ytmmcbleoglgamaa
open Go.ChangeShapes Go.WideShapes Go.ChangeAt Go.RowKit

set_option maxRecDepth 100000 in
set_option maxHeartbeats 6400000 in
theorem crashEnds_any (m : List Int) (q : List Dw) (left : Int) (down : Bool) (mask again : Int) (A : Option Addr) (c : Nat) (B : Option Addr) (d : Nat) (w : World) (hA : Sl w A m.length c (fU m)) (hB : Sl w B q.length d (fD q)) (hm : InU mask) (hn : InU again) :
    Calls Try.prog 3 #[.agg #[.slice A m.length c, .slice B q.length d, .int .i64 left, .bool down], .int .u64 mask, .int .u64 again] w fun e w' => e = .returned (.bool true) ∧ Ext w w' := by
  by_cases hg : (decide (2100 < m.length) || decide (2100 < q.length)) = true
  · go_enter Try.func3, Try.ntmps3
    go_wp2_with fail
    refine (dGreat_any _ _ _ _ _ _ _ _ _).mono ?_
    rintro e w1 ⟨rfl, hx1⟩
    rw [hg]
    go_wp2_with fail
    refine (alive04_any _).mono ?_
    rintro e w2 ⟨rfl, hx2⟩
    go_wp2_with fail
    go_ret
    exact ⟨rfl, (by repeat (first | assumption | exact Ext.refl _ | refine Ext.drewN ?_ _ | refine Ext.drew ?_ | refine Ext.alloc ?_ _ | refine Ext.trans ?_ (by assumption)))⟩
  have hg' : (decide (2100 < m.length) || decide (2100 < q.length)) = false := by simpa using hg
  clear hg
  have H0 := Box4.new w (.slice A m.length c) (.slice B q.length d) (.int .i64 left) (.bool down) 25
  cases hd : devB m q left down with
  | false =>
    have h0 := devE_no hd
    go_enter Try.func3, Try.ntmps3
    go_wp2_with fail
    refine (dGreat_any _ _ _ _ _ _ _ _ _).mono ?_
    rintro e w1 ⟨rfl, hx1⟩
    rw [hg']
    obtain ⟨b0, b1, b2, b3, bf, bl⟩ := H0.ext (w' := w1) (by repeat (first | assumption | exact Ext.refl _ | refine Ext.drewN ?_ _ | refine Ext.drew ?_ | refine Ext.alloc ?_ _ | refine Ext.trans ?_ (by assumption)))
    go_wp2_with fail
    refine (dRefCk_any m q left down A c B d _ (hB.ext (by repeat (first | assumption | exact Ext.refl _ | refine Ext.drewN ?_ _ | refine Ext.drew ?_ | refine Ext.alloc ?_ _ | refine Ext.trans ?_ (by assumption))))).mono ?_
    rintro e w2 ⟨rfl, hx2⟩
    rw [h0]
    go_wp2_with fail
    refine (alive04_any _).mono ?_
    rintro e w3 ⟨rfl, hx3⟩
    go_wp2_with fail
    go_ret
    exact ⟨rfl, (by repeat (first | assumption | exact Ext.refl _ | refine Ext.drewN ?_ _ | refine Ext.drew ?_ | refine Ext.alloc ?_ _ | refine Ext.trans ?_ (by assumption)))⟩
  | true =>
    have h0 := devE_yes hd
    obtain ⟨a1, e1⟩ : ∃ y, crashV m q left down 18446744073709551615 = y := ⟨_, rfl⟩
    obtain ⟨a2, e2⟩ : ∃ y, crashV m q left down 0 = y := ⟨_, rfl⟩
    obtain ⟨a3, e3⟩ : ∃ y, crashV m q left down mask = y := ⟨_, rfl⟩
    obtain ⟨v, ev⟩ : ∃ y, viewL m q left down = y := ⟨_, rfl⟩
    have k1 : a1.1 = v := by rw [← e1, ← ev, crashV_ok hd, crM_all]; simp [viewL, h0]
    have k2 : a2.1 = m := by rw [← e2, crashV_ok hd, crM_none]
    have k3 : crashV a3.1 a3.2.1 a3.2.2.1 a3.2.2.2 again = a3 ∧ devE a3.1 a3.2.1 a3.2.2.1 a3.2.2.2 = 0 := by
      rw [← e3, crashV_ok hd]
      exact crashV_again hd _ (crM_length ..) _
    have h1 := fun A c B d W (ha : Sl W A m.length c (fU m)) (hb : Sl W B q.length d (fD q)) => dCrash_any m q left down 18446744073709551615 A c B d W ha hb (by unfold InU; decide)
    have h2 := fun A c B d W (ha : Sl W A m.length c (fU m)) (hb : Sl W B q.length d (fD q)) => dCrash_any m q left down 0 A c B d W ha hb (by unfold InU; decide)
    have h3 := fun A c B d W (ha : Sl W A m.length c (fU m)) (hb : Sl W B q.length d (fD q)) => dCrash_any m q left down mask A c B d W ha hb hm
    have h4 := fun A c B d W (ha : Sl W A m.length c (fU m)) (hb : Sl W B q.length d (fD q)) => dView_any m q left down A c B d W ha hb
    have h5 := fun A c B d W (ha : Sl W A a3.1.length c (fU a3.1)) (hb : Sl W B a3.2.1.length d (fD a3.2.1)) => dCrash_any a3.1 a3.2.1 a3.2.2.1 a3.2.2.2 again A c B d W ha hb hn
    rw [h0] at h1 h2 h3 h4
    rw [e1] at h1
    rw [e2] at h2
    rw [e3] at h3
    rw [ev] at h4
    rw [k3.1, k3.2] at h5
    obtain ⟨m1, q1, l1, n1⟩ := a1
    obtain ⟨m2, q2, l2, n2⟩ := a2
    obtain ⟨m3, q3, l3, n3⟩ := a3
    have HH := Lib.hid (And.intro h1 (And.intro h2 (And.intro h3 (And.intro h4 (And.intro h5 (And.intro hg' (And.intro h0 (And.intro k1 k2))))))))
    clear h1 h2 h3 h4 h5 e1 e2 e3 ev hg' h0 hd k1 k2 k3
    go_enter Try.func3, Try.ntmps3
    go_wp2_with fail
    refine (dGreat_any _ _ _ _ _ _ _ _ _).mono ?_
    rintro e w1 ⟨rfl, hx1⟩
    rw [HH.out.2.2.2.2.2.1]
    obtain ⟨b0, b1, b2, b3, bf, bl⟩ := H0.ext (w' := w1) (by repeat (first | assumption | exact Ext.refl _ | refine Ext.drewN ?_ _ | refine Ext.drew ?_ | refine Ext.alloc ?_ _ | refine Ext.trans ?_ (by assumption)))
    go_wp2_with fail
    refine (dRefCk_any m q left down A c B d _ (hB.ext (by repeat (first | assumption | exact Ext.refl _ | refine Ext.drewN ?_ _ | refine Ext.drew ?_ | refine Ext.alloc ?_ _ | refine Ext.trans ?_ (by assumption))))).mono ?_
    rintro e w2 ⟨rfl, hx2⟩
    rw [HH.out.2.2.2.2.2.2.1]
    clear b0 b1 b2 b3 bf bl
    obtain ⟨b0, b1, b2, b3, bf, bl⟩ := H0.ext (w' := w2) (by repeat (first | assumption | exact Ext.refl _ | refine Ext.drewN ?_ _ | refine Ext.drew ?_ | refine Ext.alloc ?_ _ | refine Ext.trans ?_ (by assumption)))
    go_wp2_with fail
    refine (HH.out.1 A c B d w2 (hA.ext (by repeat (first | assumption | exact Ext.refl _ | refine Ext.drewN ?_ _ | refine Ext.drew ?_ | refine Ext.alloc ?_ _ | refine Ext.trans ?_ (by assumption)))) (hB.ext (by repeat (first | assumption | exact Ext.refl _ | refine Ext.drewN ?_ _ | refine Ext.drew ?_ | refine Ext.alloc ?_ _ | refine Ext.trans ?_ (by assumption))))).mono ?_
    rintro e w3 ⟨A1, c1, B1, d1, rfl, hA1, hB1, hx3⟩
    have H1 := Box4.new w3 (.slice A1 m1.length c1) (.slice B1 q1.length d1) (.int .i64 l1) (.bool n1) 25
    clear b0 b1 b2 b3 bf bl
    obtain ⟨b0, b1, b2, b3, bf, bl⟩ := H0.ext (w' := w3) (by repeat (first | assumption | exact Ext.refl _ | refine Ext.drewN ?_ _ | refine Ext.drew ?_ | refine Ext.alloc ?_ _ | refine Ext.trans ?_ (by assumption)))
    go_wp2_with fail
    refine (HH.out.2.1 A c B d _ (hA.ext (by repeat (first | assumption | exact Ext.refl _ | refine Ext.drewN ?_ _ | refine Ext.drew ?_ | refine Ext.alloc ?_ _ | refine Ext.trans ?_ (by assumption)))) (hB.ext (by repeat (first | assumption | exact Ext.refl _ | refine Ext.drewN ?_ _ | refine Ext.drew ?_ | refine Ext.alloc ?_ _ | refine Ext.trans ?_ (by assumption))))).mono ?_
    rintro e w4 ⟨A2, c2, B2, d2, rfl, hA2, hB2, hx4⟩
    have H2 := Box4.new w4 (.slice A2 m2.length c2) (.slice B2 q2.length d2) (.int .i64 l2) (.bool n2) 25
    clear b0 b1 b2 b3 bf bl
    obtain ⟨b0, b1, b2, b3, bf, bl⟩ := H0.ext (w' := w4) (by repeat (first | assumption | exact Ext.refl _ | refine Ext.drewN ?_ _ | refine Ext.drew ?_ | refine Ext.alloc ?_ _ | refine Ext.trans ?_ (by assumption)))
    go_wp2_with fail
    refine (HH.out.2.2.2.1 A c B d _ (hA.ext (by repeat (first | assumption | exact Ext.refl _ | refine Ext.drewN ?_ _ | refine Ext.drew ?_ | refine Ext.alloc ?_ _ | refine Ext.trans ?_ (by assumption)))) (hB.ext (by repeat (first | assumption | exact Ext.refl _ | refine Ext.drewN ?_ _ | refine Ext.drew ?_ | refine Ext.alloc ?_ _ | refine Ext.trans ?_ (by assumption))))).mono ?_
    rintro e w5 ⟨A5, c5, rfl, hown5, hA5, hx5⟩
    clear b0 b1 b2 b3 bf bl
    obtain ⟨b0, b1, b2, b3, bf, bl⟩ := H0.ext (w' := w5) (by repeat (first | assumption | exact Ext.refl _ | refine Ext.drewN ?_ _ | refine Ext.drew ?_ | refine Ext.alloc ?_ _ | refine Ext.trans ?_ (by assumption)))
    go_wp2_with fail
    refine (HH.out.2.2.1 A c B d _ (hA.ext (by repeat (first | assumption | exact Ext.refl _ | refine Ext.drewN ?_ _ | refine Ext.drew ?_ | refine Ext.alloc ?_ _ | refine Ext.trans ?_ (by assumption)))) (hB.ext (by repeat (first | assumption | exact Ext.refl _ | refine Ext.drewN ?_ _ | refine Ext.drew ?_ | refine Ext.alloc ?_ _ | refine Ext.trans ?_ (by assumption))))).mono ?_
    rintro e w6 ⟨A3, c3, B3, d3, rfl, hA3, hB3, hx6⟩
    have H3 := Box4.new w6 (.slice A3 m3.length c3) (.slice B3 q3.length d3) (.int .i64 l3) (.bool n3) 25
    clear b0 b1 b2 b3 bf bl
    obtain ⟨b0, b1, b2, b3, bf, bl⟩ := H3.ext (Ext.refl _)
    go_wp2_with fail
    refine (HH.out.2.2.2.2.1 A3 c3 B3 d3 _ (hA3.ext (by repeat (first | assumption | exact Ext.refl _ | refine Ext.drewN ?_ _ | refine Ext.drew ?_ | refine Ext.alloc ?_ _ | refine Ext.trans ?_ (by assumption)))) (hB3.ext (by repeat (first | assumption | exact Ext.refl _ | refine Ext.drewN ?_ _ | refine Ext.drew ?_ | refine Ext.alloc ?_ _ | refine Ext.trans ?_ (by assumption))))).mono ?_
    rintro e w7 ⟨A7, c7, B7, d7, rfl, hA7, hB7, hx7⟩
    have H7 := Box4.new w7 (.slice A7 m3.length c7) (.slice B7 q3.length d7) (.int .i64 l3) (.bool n3) 25
    clear b0 b1 b2 b3 bf bl
    obtain ⟨b0, b1, b2, b3, bf, bl⟩ := H1.ext (w' := w7) (by repeat (first | assumption | exact Ext.refl _ | refine Ext.drewN ?_ _ | refine Ext.drew ?_ | refine Ext.alloc ?_ _ | refine Ext.trans ?_ (by assumption)))
    go_wp2_with fail
    refine (same2_yes m1 v HH.out.2.2.2.2.2.2.2.1 A1 A5 c1 c5 _ (hA1.ext (by repeat (first | assumption | exact Ext.refl _ | refine Ext.drewN ?_ _ | refine Ext.drew ?_ | refine Ext.alloc ?_ _ | refine Ext.trans ?_ (by assumption)))) (hA5.ext (by repeat (first | assumption | exact Ext.refl _ | refine Ext.drewN ?_ _ | refine Ext.drew ?_ | refine Ext.alloc ?_ _ | refine Ext.trans ?_ (by assumption))))).mono ?_
    rintro e w8 ⟨rfl, hd8⟩
    have hx8 := hd8.ext
    clear b0 b1 b2 b3 bf bl
    obtain ⟨b0, b1, b2, b3, bf, bl⟩ := H2.ext (w' := w8) (by repeat (first | assumption | exact Ext.refl _ | refine Ext.drewN ?_ _ | refine Ext.drew ?_ | refine Ext.alloc ?_ _ | refine Ext.trans ?_ (by assumption)))
    obtain ⟨o0, o1, o2, o3, of, ol⟩ := H0.ext (w' := w8) (by repeat (first | assumption | exact Ext.refl _ | refine Ext.drewN ?_ _ | refine Ext.drew ?_ | refine Ext.alloc ?_ _ | refine Ext.trans ?_ (by assumption)))
    go_wp2_with fail
    refine (same2_yes m2 m HH.out.2.2.2.2.2.2.2.2 A2 A c2 c w8 (hA2.ext (by repeat (first | assumption | exact Ext.refl _ | refine Ext.drewN ?_ _ | refine Ext.drew ?_ | refine Ext.alloc ?_ _ | refine Ext.trans ?_ (by assumption)))) (hA.ext (by repeat (first | assumption | exact Ext.refl _ | refine Ext.drewN ?_ _ | refine Ext.drew ?_ | refine Ext.alloc ?_ _ | refine Ext.trans ?_ (by assumption))))).mono ?_
    rintro e w9 ⟨rfl, hd9⟩
    have hx9 := hd9.ext
    clear b0 b1 b2 b3 bf bl o0 o1 o2 o3 of ol
    obtain ⟨b0, b1, b2, b3, bf, bl⟩ := H3.ext (w' := w9) (by repeat (first | assumption | exact Ext.refl _ | refine Ext.drewN ?_ _ | refine Ext.drew ?_ | refine Ext.alloc ?_ _ | refine Ext.trans ?_ (by assumption)))
    obtain ⟨o0, o1, o2, o3, of, ol⟩ := H7.ext (w' := w9) (by repeat (first | assumption | exact Ext.refl _ | refine Ext.drewN ?_ _ | refine Ext.drew ?_ | refine Ext.alloc ?_ _ | refine Ext.trans ?_ (by assumption)))
    go_wp2_with fail
    refine (dSame_yes m3 q3 l3 n3 A3 c3 B3 d3 A7 c7 B7 d7 w9 (hA3.ext (by repeat (first | assumption | exact Ext.refl _ | refine Ext.drewN ?_ _ | refine Ext.drew ?_ | refine Ext.alloc ?_ _ | refine Ext.trans ?_ (by assumption)))) (hB3.ext (by repeat (first | assumption | exact Ext.refl _ | refine Ext.drewN ?_ _ | refine Ext.drew ?_ | refine Ext.alloc ?_ _ | refine Ext.trans ?_ (by assumption)))) (hA7.ext (by repeat (first | assumption | exact Ext.refl _ | refine Ext.drewN ?_ _ | refine Ext.drew ?_ | refine Ext.alloc ?_ _ | refine Ext.trans ?_ (by assumption)))) (hB7.ext (by repeat (first | assumption | exact Ext.refl _ | refine Ext.drewN ?_ _ | refine Ext.drew ?_ | refine Ext.alloc ?_ _ | refine Ext.trans ?_ (by assumption))))).mono ?_
    rintro e w10 ⟨rfl, hx10⟩
    clear b0 b1 b2 b3 bf bl o0 o1 o2 o3 of ol
    go_wp2_with fail
    refine (alive04_any _).mono ?_
    rintro e w11 ⟨rfl, hx11⟩
    go_wp2_with fail
    go_ret
    exact ⟨rfl, (by repeat (first | assumption | exact Ext.refl _ | refine Ext.drewN ?_ _ | refine Ext.drew ?_ | refine Ext.alloc ?_ _ | refine Ext.trans ?_ (by assumption)))⟩
set_option maxRecDepth 100000 in
theorem crashEnds_lifted (os : Os) (started : os.Started) (H : Type) (enc : TypeId × Value → H) :
    ReturnsInHanded {} Try.checked os 3 .any (Rows.crashEndsSpec.pre6 enc Try.prog Try.f3 Rows.crashEndsRow.domain false) (Rows.crashEndsSpec.post enc Try.prog Try.f3 false true false false) := by
  refine returnsInHanded_of_change (C := Try.checked) own_knob started (by kernel_rfl) Try.func3
    (ChangeSpec.witness6 (enc := enc) (C := Try.checked) false ⟨#[], #[.agg #[.slice none 0 0, .slice none 0 0, .int .i64 0, .bool false], .int .u64 0, .int .u64 0], []⟩ 8 (by kernel_rfl) (by kernel_rfl) (by kernel_rfl) (by kernel_rfl)) ?_
  intro W base args ds gs before hval0 hW hcnd _
  have hval : ∀ (j : Nat) t v, Try.f3.params[j]? = some t → args[j]? = some v → Value.okWide Try.prog W .any base t v := hval0
  have hW' := hW
  obtain ⟨p, q, hA0, hV, rfl, hfz, hnd⟩ := hW
  have hA : DataW.TrodAll enc Try.prog W 0 (fun _ => true) true Try.f3.params.toList args.toList ds p := hA0
  rw [Try.params3] at hA hval
  obtain ⟨v0, vs0, d0, ds0, p0, q0, hargs, rfl, rfl, h0, r0⟩ := trodAll_cons hA
  obtain ⟨v1, vs1, d1, ds1, p1, q1, rfl, rfl, rfl, h1, r1⟩ := trodAll_cons r0
  obtain ⟨v2, vs2, d2, ds2, p2, q2, rfl, rfl, rfl, h2, r2⟩ := trodAll_cons r1
  obtain ⟨rfl, rfl, rfl⟩ := trodAll_nil r2
  obtain rfl : args = #[v0, v1, v2] := by cases args; simp_all
  obtain ⟨rfl, rfl⟩ := trodVars_none hV
  obtain ⟨A0, c0, m0, B0, k0, ds0, left0, down0, rfl, hS0, wA0, hB0, wB0, wl0⟩ := op_V (hval 0 25 v0 rfl rfl) h0
  obtain ⟨x1, rfl, wx1⟩ := op_u (hval 1 26 v1 rfl rfl) h1
  obtain ⟨x2, rfl, wx2⟩ := op_u (hval 2 26 v2 rfl rfl) h2
  clear hA0 hval0 hval hA
  refine (crashEnds_any m0 ds0 left0 down0 x1 x2 A0 c0 B0 k0 W hS0 hB0 wx1 wx2).mono fun e W' ⟨he, hx⟩ => ?_
  subst he
  exact ⟨_, rfl, post_law laid_out (by kernel_rfl) hW' rfl rfl rfl Try.underlying4 hx⟩
theorem crashEnds_holds : Rows.CrashEndsSaid :=
  OpenClaim.holds_of_wide 3 Try.f3 rfl rfl rfl rfl rfl rfl rfl ⟨rfl, rfl, rfl, rfl, rfl⟩ rfl rfl rfl rfl rfl (by kernel_rfl) Try.func3 (by kernel_rfl)
    (of_decide_eq_true (by kernel_rfl)) (by unfold Func.isWrapper; first | (rw [if_pos (by decide +kernel)]; kernel_rfl) | (rw [if_neg (by decide +kernel)]; exact ⟨rfl, rfl⟩))
    (fun os started H enc _ => crashEnds_lifted os started H enc)
end Go.Proofs.Ytmmcbleoglgamaa
