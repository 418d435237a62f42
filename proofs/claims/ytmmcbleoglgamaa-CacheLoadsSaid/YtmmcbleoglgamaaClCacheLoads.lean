/-
  CacheLoads, for every device and every address: the law returns true. No condition.
-/
import Derived.Test.YtmmcbleoglgamaaDRTwin
import Derived.Test.YtmmcbleoglgamaaOpen
import Derived.Deep.RegionHeld3
namespace Go.Proofs.Ytmmcbleoglgamaa
open Go.ChangeShapes Go.WideShapes Go.ChangeAt Go.RowKit

set_option maxRecDepth 100000 in
set_option maxHeartbeats 6400000 in
theorem cacheLoads_any (m : List Int) (q : List Dw) (left : Int) (down : Bool) (a : Int) (A : Option Addr) (c : Nat) (B : Option Addr) (d : Nat) (w : World) (hA : Sl w A m.length c (fU m)) (hB : Sl w B q.length d (fD q)) :
    Calls Try.prog 8 #[.agg #[.slice A m.length c, .slice B q.length d, .int .i64 left, .bool down], .int .i64 a] w fun e w' => e = .returned (.bool true) ∧ Ext w w' := by
  by_cases hg : (decide (2100 < m.length) || decide (2100 < q.length)) = true
  · go_enter Try.func8, Try.ntmps8
    go_wp2_with fail
    refine (dGreat_any _ _ _ _ _ _ _ _ _).mono ?_
    rintro e w' ⟨rfl, hx⟩
    rw [hg]
    go_wp2_with fail
    go_ret
    exact ⟨rfl, (by repeat (first | assumption | exact Ext.refl _ | refine Ext.drewN ?_ _ | refine Ext.drew ?_ | refine Ext.alloc ?_ _ | refine Ext.trans ?_ (by assumption)))⟩
  · have hg' : (decide (2100 < m.length) || decide (2100 < q.length)) = false := by simpa using hg
    have hm : m.length ≤ 2100 ∧ q.length ≤ 2100 := by simp at hg; omega
    obtain ⟨a0, e0⟩ : ∃ y, loadV m q left down a = y := ⟨_, rfl⟩
    obtain ⟨a1, e1⟩ : ∃ y, askE m q left down a = y := ⟨_, rfl⟩
    obtain ⟨a2, e2⟩ : ∃ y, viewL m q left down = y := ⟨_, rfl⟩
    obtain ⟨a3, e3⟩ : ∃ y, devE m q left down = y := ⟨_, rfl⟩
    have h1 := fun A c B d W (ha : Sl W A m.length c (fU m)) (hb : Sl W B q.length d (fD q)) => dLoad_any m q left down a A c B d W ha hb
    have h2 := fun A c B d W (ha : Sl W A m.length c (fU m)) (hb : Sl W B q.length d (fD q)) => dRLoad_any m q left down a A c B d W ha hb
    have h3 := fun A c B d W (ha : Sl W A m.length c (fU m)) (hb : Sl W B q.length d (fD q)) => dView_any m q left down A c B d W ha hb
    have h4 := fun A c B d W (ha : Sl W A m.length c (fU m)) (hb : Sl W B q.length d (fD q)) => dRView_any m q left down A c B d W ha hb
    have h5 := fun A c B d W (hb : Sl W B q.length d (fD q)) => dCheck_any m q left down A c B d W hb
    have h6 := fun A c B d W (hb : Sl W B q.length d (fD q)) => dRefCk_any m q left down A c B d W hb
    rw [e0, e1] at h1 h2
    rw [e2, e3] at h3 h4
    rw [e3] at h5 h6
    have HH := Lib.hid (And.intro h1 (And.intro h2 (And.intro h3 (And.intro h4 (And.intro h5 (And.intro h6 hg'))))))
    clear h1 h2 h3 h4 h5 h6 e0 e1 e2 e3 hg hg'
    go_enter Try.func8, Try.ntmps8
    go_wp2_with fail
    refine (dGreat_any _ _ _ _ _ _ _ _ _).mono ?_
    rintro e w1 ⟨rfl, hx1⟩
    rw [HH.out.2.2.2.2.2.2]
    have hbx := (Box4.new w (.slice A m.length c) (.slice B q.length d) (.int .i64 left) (.bool down) 25).ext hx1
    have hX1 : Ext w w1 := Ext.trans ((Ext.refl w).alloc _) hx1
    obtain ⟨b0, b1, b2, b3, bf, bl⟩ := hbx
    go_wp2_with fail
    refine (dRTwin_any m q left down A c B d w1 (hA.ext hX1) (hB.ext hX1) (by omega) (by omega)).mono ?_
    rintro e w2 ⟨A1, c1, B1, d1, rfl, hown1, hown2, hx2⟩
    have hX2 := hX1.trans hx2
    have hbx := ((Box4.mk b0 b1 b2 b3 bf bl).ext hx2).alloc (Obj.cells #[.slice A1 m.length c1, .slice B1 q.length d1, .int .i64 left, .bool down] 25)
    have hox := Box4.new w2 (.slice A1 m.length c1) (.slice B1 q.length d1) (.int .i64 left) (.bool down) 25
    have hA1 := (own_sl4 hown1).alloc (Obj.cells #[.slice A1 m.length c1, .slice B1 q.length d1, .int .i64 left, .bool down] 25)
    have hB1 := (own_sl4 hown2).alloc (Obj.cells #[.slice A1 m.length c1, .slice B1 q.length d1, .int .i64 left, .bool down] 25)
    have hX3 := hX2.alloc (Obj.cells #[.slice A1 m.length c1, .slice B1 q.length d1, .int .i64 left, .bool down] 25)
    go_upto_region 4 with fail
    obtain ⟨W3, hW3⟩ : ∃ W, W = w2.alloc (Obj.cells #[.slice A1 m.length c1, .slice B1 q.length d1, .int .i64 left, .bool down] 25) := ⟨_, rfl⟩
    obtain ⟨g, hg⟩ : ∃ g, w2.heap.size = g := ⟨_, rfl⟩
    rw [← hW3] at hbx hox hA1 hB1 hX3 ⊢
    rw [hg] at hox ⊢
    have hA3 := hA.ext hX3
    have hB3 := hB.ext hX3
    clear b0 b1 b2 b3 bf bl hX1 hx1 hX2 hx2 hown1 hown2 hW3 hg
    obtain ⟨b0, b1, b2, b3, bf, bl⟩ := hbx
    obtain ⟨o0, o1, o2, o3, of, ol⟩ := hox
    go_wp2_with fail
    refine (HH.out.1 A1 c1 B1 d1 W3 hA1 hB1).mono ?_
    rintro e w4 ⟨rfl, hx4⟩
    obtain ⟨b0', b1', b2', b3', bf', bl'⟩ := (Box4.mk b0 b1 b2 b3 bf bl).ext hx4
    obtain ⟨o0', o1', o2', o3', of', ol'⟩ := (Box4.mk o0 o1 o2 o3 of ol).ext hx4
    clear b0 b1 b2 b3 bf bl o0 o1 o2 o3 of ol
    go_wp2_with fail
    refine (HH.out.2.1 A c B d w4 (hA3.ext hx4) (hB3.ext hx4)).mono ?_
    rintro e w5 ⟨rfl, hx5⟩
    obtain ⟨b0, b1, b2, b3, bf, bl⟩ := (Box4.mk b0' b1' b2' b3' bf' bl').ext hx5
    obtain ⟨o0, o1, o2, o3, of, ol⟩ := (Box4.mk o0' o1' o2' o3' of' ol').ext hx5
    clear b0' b1' b2' b3' bf' bl' o0' o1' o2' o3' of' ol'
    go_wp2_with fail
    refine (HH.out.2.2.1 A1 c1 B1 d1 w5 (hA1.ext (hx4.trans hx5)) (hB1.ext (hx4.trans hx5))).mono ?_
    rintro e w6 ⟨A6, c6, rfl, _, hA6, hx6⟩
    obtain ⟨b0', b1', b2', b3', bf', bl'⟩ := (Box4.mk b0 b1 b2 b3 bf bl).ext hx6
    obtain ⟨o0', o1', o2', o3', of', ol'⟩ := (Box4.mk o0 o1 o2 o3 of ol).ext hx6
    clear b0 b1 b2 b3 bf bl o0 o1 o2 o3 of ol
    go_wp2_with fail
    refine (HH.out.2.2.2.1 A c B d w6 (hA3.ext (hx4.trans (hx5.trans hx6))) (hB3.ext (hx4.trans (hx5.trans hx6)))).mono ?_
    rintro e w7 ⟨A7, c7, rfl, _, hA7, hx7⟩
    have hx37 : Ext W3 w7 := hx4.trans (hx5.trans (hx6.trans hx7))
    obtain ⟨b0, b1, b2, b3, bf, bl⟩ := (Box4.mk b0' b1' b2' b3' bf' bl').ext hx7
    obtain ⟨o0, o1, o2, o3, of, ol⟩ := (Box4.mk o0' o1' o2' o3' of' ol').ext hx7
    replace hA1 := hA1.ext hx37
    replace hB1 := hB1.ext hx37
    replace hA3 := hA3.ext hx37
    replace hB3 := hB3.ext hx37
    replace hA6 := hA6.ext hx7
    have hX7 := hX3.trans hx37
    clear b0' b1' b2' b3' bf' bl' o0' o1' o2' o3' of' ol' hx4 hx5 hx6 hx7 hx37 hX3 bf of
    go_wp2_with fail
    go_region_held3 (fun w' => w'.cell? ⟨w.heap.size, 0, none⟩ = some (.slice A m.length c) ∧ w'.cell? ⟨w.heap.size, 1, none⟩ = some (.slice B q.length d) ∧ w'.cell? ⟨w.heap.size, 2, none⟩ = some (.int .i64 left) ∧ w'.cell? ⟨w.heap.size, 3, none⟩ = some (.bool down) ∧ w'.cell? ⟨g, 0, none⟩ = some (.slice A1 m.length c1) ∧ w'.cell? ⟨g, 1, none⟩ = some (.slice B1 q.length d1) ∧ w'.cell? ⟨g, 2, none⟩ = some (.int .i64 left) ∧ w'.cell? ⟨g, 3, none⟩ = some (.bool down)) (go_keep)
      (first
        | (go_at_call 34; refine (HH.out.2.2.2.2.1 A1 c1 B1 d1 _ (hB1.ext (by repeat (first | assumption | exact Ext.refl _ | refine Ext.drewN ?_ _ | refine Ext.drew ?_ | refine Ext.alloc ?_ _ | refine Ext.trans ?_ (by assumption))))).mono ?_; rintro e wn ⟨rfl, hxn⟩; have t0 := hxn.cell (p := ⟨w.heap.size, 0, none⟩) (by assumption); have t1 := hxn.cell (p := ⟨w.heap.size, 1, none⟩) (by assumption); have t2 := hxn.cell (p := ⟨w.heap.size, 2, none⟩) (by assumption); have t3 := hxn.cell (p := ⟨w.heap.size, 3, none⟩) (by assumption); have s0 := hxn.cell (p := ⟨g, 0, none⟩) (by assumption); have s1 := hxn.cell (p := ⟨g, 1, none⟩) (by assumption); have s2 := hxn.cell (p := ⟨g, 2, none⟩) (by assumption); have s3 := hxn.cell (p := ⟨g, 3, none⟩) (by assumption))
        | (go_at_call 17; refine (HH.out.2.2.2.2.2.1 A c B d _ (hB3.ext (by repeat (first | assumption | exact Ext.refl _ | refine Ext.drewN ?_ _ | refine Ext.drew ?_ | refine Ext.alloc ?_ _ | refine Ext.trans ?_ (by assumption))))).mono ?_; rintro e wn ⟨rfl, hxn⟩; have t0 := hxn.cell (p := ⟨w.heap.size, 0, none⟩) (by assumption); have t1 := hxn.cell (p := ⟨w.heap.size, 1, none⟩) (by assumption); have t2 := hxn.cell (p := ⟨w.heap.size, 2, none⟩) (by assumption); have t3 := hxn.cell (p := ⟨w.heap.size, 3, none⟩) (by assumption); have s0 := hxn.cell (p := ⟨g, 0, none⟩) (by assumption); have s1 := hxn.cell (p := ⟨g, 1, none⟩) (by assumption); have s2 := hxn.cell (p := ⟨g, 2, none⟩) (by assumption); have s3 := hxn.cell (p := ⟨g, 3, none⟩) (by assumption))
        | (go_at_call 21; refine (same2_yes a2 a2 rfl A6 A7 c6 c7 _ (hA6.ext (by repeat (first | assumption | exact Ext.refl _ | refine Ext.drewN ?_ _ | refine Ext.drew ?_ | refine Ext.alloc ?_ _ | refine Ext.trans ?_ (by assumption)))) (hA7.ext (by repeat (first | assumption | exact Ext.refl _ | refine Ext.drewN ?_ _ | refine Ext.drew ?_ | refine Ext.alloc ?_ _ | refine Ext.trans ?_ (by assumption))))).mono ?_; rintro e wn ⟨rfl, hdn⟩; have hxn := hdn.ext; have t0 := hxn.cell (p := ⟨w.heap.size, 0, none⟩) (by assumption); have t1 := hxn.cell (p := ⟨w.heap.size, 1, none⟩) (by assumption); have t2 := hxn.cell (p := ⟨w.heap.size, 2, none⟩) (by assumption); have t3 := hxn.cell (p := ⟨w.heap.size, 3, none⟩) (by assumption); have s0 := hxn.cell (p := ⟨g, 0, none⟩) (by assumption); have s1 := hxn.cell (p := ⟨g, 1, none⟩) (by assumption); have s2 := hxn.cell (p := ⟨g, 2, none⟩) (by assumption); have s3 := hxn.cell (p := ⟨g, 3, none⟩) (by assumption))
        | (go_at_call 22; refine (dSame_yes m q left down A1 c1 B1 d1 A c B d _ (hA1.ext (by repeat (first | assumption | exact Ext.refl _ | refine Ext.drewN ?_ _ | refine Ext.drew ?_ | refine Ext.alloc ?_ _ | refine Ext.trans ?_ (by assumption)))) (hB1.ext (by repeat (first | assumption | exact Ext.refl _ | refine Ext.drewN ?_ _ | refine Ext.drew ?_ | refine Ext.alloc ?_ _ | refine Ext.trans ?_ (by assumption)))) (hA3.ext (by repeat (first | assumption | exact Ext.refl _ | refine Ext.drewN ?_ _ | refine Ext.drew ?_ | refine Ext.alloc ?_ _ | refine Ext.trans ?_ (by assumption)))) (hB3.ext (by repeat (first | assumption | exact Ext.refl _ | refine Ext.drewN ?_ _ | refine Ext.drew ?_ | refine Ext.alloc ?_ _ | refine Ext.trans ?_ (by assumption))))).mono ?_; rintro e wn ⟨rfl, hxn⟩; have t0 := hxn.cell (p := ⟨w.heap.size, 0, none⟩) (by assumption); have t1 := hxn.cell (p := ⟨w.heap.size, 1, none⟩) (by assumption); have t2 := hxn.cell (p := ⟨w.heap.size, 2, none⟩) (by assumption); have t3 := hxn.cell (p := ⟨w.heap.size, 3, none⟩) (by assumption); have s0 := hxn.cell (p := ⟨g, 0, none⟩) (by assumption); have s1 := hxn.cell (p := ⟨g, 1, none⟩) (by assumption); have s2 := hxn.cell (p := ⟨g, 2, none⟩) (by assumption); have s3 := hxn.cell (p := ⟨g, 3, none⟩) (by assumption)))
    all_goals
      go_wp2_with fail
      go_ret
      exact ⟨rfl, (by repeat (first | assumption | exact Ext.refl _ | refine Ext.drewN ?_ _ | refine Ext.drew ?_ | refine Ext.alloc ?_ _ | refine Ext.trans ?_ (by assumption)))⟩
set_option maxRecDepth 100000 in
theorem cacheLoads_lifted (os : Os) (started : os.Started) (H : Type) (enc : TypeId × Value → H) :
    ReturnsInHanded {} Try.checked os 8 .any (Rows.cacheLoadsSpec.pre6 enc Try.prog Try.f8 Rows.cacheLoadsRow.domain false) (Rows.cacheLoadsSpec.post enc Try.prog Try.f8 false true false false) := by
  refine returnsInHanded_of_change (C := Try.checked) own_knob started (by kernel_rfl) Try.func8
    (ChangeSpec.witness6 (enc := enc) (C := Try.checked) false ⟨#[], #[.agg #[.slice none 0 0, .slice none 0 0, .int .i64 0, .bool false], .int .i64 0], []⟩ 8 (by kernel_rfl) (by kernel_rfl) (by kernel_rfl) (by kernel_rfl)) ?_
  intro W base args ds gs before hval0 hW hcnd _
  have hval : ∀ (j : Nat) t v, Try.f8.params[j]? = some t → args[j]? = some v → Value.okWide Try.prog W .any base t v := hval0
  have hW' := hW
  obtain ⟨p, q, hA0, hV, rfl, hfz, hnd⟩ := hW
  have hA : DataW.TrodAll enc Try.prog W 0 (fun _ => true) true Try.f8.params.toList args.toList ds p := hA0
  rw [Try.params8] at hA hval
  obtain ⟨v0, vs0, d0, ds0, p0, q0, hargs, rfl, rfl, h0, r0⟩ := trodAll_cons hA
  obtain ⟨v1, vs1, d1, ds1, p1, q1, rfl, rfl, rfl, h1, r1⟩ := trodAll_cons r0
  obtain ⟨rfl, rfl, rfl⟩ := trodAll_nil r1
  obtain rfl : args = #[v0, v1] := by cases args; simp_all
  obtain ⟨rfl, rfl⟩ := trodVars_none hV
  obtain ⟨A0, c0, m0, B0, k0, ds0, left0, down0, rfl, hS0, wA0, hB0, wB0, wl0⟩ := op_V (hval 0 25 v0 rfl rfl) h0
  obtain ⟨x1, rfl, wx1⟩ := op_i (hval 1 3 v1 rfl rfl) h1
  clear hA0 hval0 hval hA
  refine (cacheLoads_any m0 ds0 left0 down0 x1 A0 c0 B0 k0 W hS0 hB0).mono fun e W' ⟨he, hx⟩ => ?_
  subst he
  exact ⟨_, rfl, post_law laid_out (by kernel_rfl) hW' rfl rfl rfl Try.underlying4 hx⟩
theorem cacheLoads_holds : Rows.CacheLoadsSaid :=
  OpenClaim.holds_of_wide 8 Try.f8 rfl rfl rfl rfl rfl rfl rfl ⟨rfl, rfl, rfl, rfl, rfl⟩ rfl rfl rfl rfl rfl (by kernel_rfl) Try.func8 (by kernel_rfl)
    (of_decide_eq_true (by kernel_rfl)) (by unfold Func.isWrapper; first | (rw [if_pos (by decide +kernel)]; kernel_rfl) | (rw [if_neg (by decide +kernel)]; exact ⟨rfl, rfl⟩))
    (fun os started H enc _ => cacheLoads_lifted os started H enc)
end Go.Proofs.Ytmmcbleoglgamaa
