/-
  AtomicAfter, for every device, every list of entries and every mask: the law returns true. No condition.
-/
import Derived.Test.YtmkcpnklaijkfaaAtR2
import Derived.Test.YtmkcpnklaijkfaaGA
namespace Go.Proofs.Ytmkcpnklaijkfaa
open Go.ChangeShapes Go.WideShapes Go.ChangeAt Go.RowKit
set_option maxRecDepth 100000 in
set_option maxHeartbeats 6400000 in
theorem atomicAfter_any (m : List Int) (q : List Dw) (left : Int) (down : Bool) (l : List (Int × Int)) (mask : Int) (A : Option Addr) (c : Nat) (B : Option Addr) (d : Nat) (E : Option Addr) (f : Nat) (w : World) (hA : Sl w A m.length c (fU m)) (hB : Sl w B q.length d (fD q)) (hE : Sl w E l.length f (fE l)) (wm : WfU m) (wd : WfD q) (wf : WfE l) (hmk : InU mask) :
    Calls Try.prog 13 #[.agg #[.slice A m.length c, .slice B q.length d, .int .i64 left, .bool down], .slice E l.length f, .int .u64 mask] w fun e w' => e = .returned (.bool true) ∧ Ext w w' := by
  have hlm := hE.max
  have hle := hE.le
  unfold maxLen at hlm
  by_cases hg : (decide (2100 < m.length) || decide (2100 < q.length)) = true
  · go_enter Try.func13, Try.ntmps13
    go_wp2_with fail
    refine (dGreat_any _ _ _ _ _ _ _ _ _).mono ?_
    rintro e w' ⟨rfl, hx⟩
    rw [hg]
    go_wp2_with fail
    go_ret
    exact ⟨rfl, (by repeat (first | assumption | exact Ext.refl _ | refine Ext.drewN ?_ _ | refine Ext.drew ?_ | refine Ext.alloc ?_ _ | refine Ext.trans ?_ (by assumption)))⟩
  · have hg' : (decide (2100 < m.length) || decide (2100 < q.length)) = false := by simpa using hg
    cases h8 : decide (50 < l.length) with
    | true =>
      clear hg
      go_enter Try.func13, Try.ntmps13
      go_wp2_with fail
      refine (dGreat_any _ _ _ _ _ _ _ _ _).mono ?_
      rintro e w1 ⟨rfl, hx⟩
      rw [hg']
      go_wp2_with fail
      refine (great8_any _ _ _ _).mono ?_
      rintro e w2 ⟨rfl, rfl⟩
      rw [h8]
      go_wp2_with fail
      go_ret
      exact ⟨rfl, (by repeat (first | assumption | exact Ext.refl _ | refine Ext.drewN ?_ _ | refine Ext.drew ?_ | refine Ext.alloc ?_ _ | refine Ext.trans ?_ (by assumption)))⟩
    | false =>
      have h1 := fun A c B d W (ha : Sl W A m.length c (fU m)) (hb : Sl W B q.length d (fD q)) (he : Sl W E l.length f (fE l)) => aAfter_any m q left down l mask A c B d E f W ha hb he wm wd wf hmk
      have h2 := fun A c B d W (ha : Sl W A m.length c (fU m)) (hb : Sl W B q.length d (fD q)) (he : Sl W E l.length f (fE l)) => refAfter_any m q left down l mask A c B d E f W ha hb he wm wd wf hmk
      obtain ⟨Y, hY⟩ : ∃ Y, afL m q left down l mask = Y := ⟨_, rfl⟩
      obtain ⟨er, her⟩ : ∃ Y, afE m q left down l mask = Y := ⟨_, rfl⟩
      rw [hY, her] at h1 h2
      have HH := Lib.hid (And.intro h1 (And.intro h2 (And.intro hg' h8)))
      clear h1 h2 hY her hg hg' h8
      have hD := DV.new w m q left down A c B d 46 hA hB
      have hX : Ext w (w.alloc (Obj.cells #[.slice A m.length c, .slice B q.length d, .int .i64 left, .bool down] 46)) := (Ext.refl w).alloc _
      go_enter Try.func13, Try.ntmps13
      go_wp2_with fail
      refine (dGreat_any _ _ _ _ _ _ _ _ _).mono ?_
      rintro e w1 ⟨rfl, hx1⟩
      rw [HH.out.2.2.1]
      replace hX := hX.trans hx1
      replace hD := hD.ext hx1
      replace hE := hE.ext hX
      go_wp2_with fail
      refine (great8_any _ _ _ _).mono ?_
      rintro e w2 ⟨rfl, rfl⟩
      rw [HH.out.2.2.2]
      obtain ⟨gD, hgD⟩ : ∃ g, w.heap.size = g := ⟨_, rfl⟩
      rw [hgD] at hD ⊢
      clear hx1 hgD
      obtain ⟨AD, cD, BD, dD, bD, sD, tD⟩ := hD
      obtain ⟨b0, b1, b2, b3, bf, bl⟩ := bD
      go_wp2_with fail
      refine (HH.out.1 AD cD BD dD w1 sD tD hE).mono ?_
      rintro e W101 ⟨AY, cY, rfl, hAY, hxx⟩
      have hD := DV.mk (Box4.mk b0 b1 b2 b3 bf bl) sD tD
      clear b0 b1 b2 b3 bf bl
      replace hD := hD.ext hxx
      replace hE := hE.ext hxx
      replace hX := hX.trans hxx
      clear hxx
      obtain ⟨AD, cD, BD, dD, bD, sD, tD⟩ := hD
      obtain ⟨b0, b1, b2, b3, bf, bl⟩ := bD
      go_wp2_with fail
      refine (HH.out.2.1 AD cD BD dD W101 sD tD hE).mono ?_
      rintro e W102 ⟨AZ, cZ, rfl, hAZ, hxx⟩
      have hD := DV.mk (Box4.mk b0 b1 b2 b3 bf bl) sD tD
      clear b0 b1 b2 b3 bf bl
      replace hD := hD.ext hxx
      replace hE := hE.ext hxx
      replace hAY := hAY.ext hxx
      replace hX := hX.trans hxx
      clear hxx
      go_wp2_with fail
      refine (same2_yes Y Y rfl AY AZ cY cZ _ hAY hAZ).mono ?_
      rintro e w9 ⟨rfl, hdn⟩
      replace hX := hX.trans hdn.ext
      go_wp2_with fail
      go_ret
      exact ⟨rfl, hX⟩
set_option maxRecDepth 100000 in
theorem atomicAfter_lifted (os : Os) (started : os.Started) (H : Type) (enc : TypeId × Value → H) :
    ReturnsInHanded {} Try.checked os 13 .any (Rows.atomicAfterSpec.pre6 enc Try.prog Try.f13 Rows.atomicAfterRow.domain false) (Rows.atomicAfterSpec.post enc Try.prog Try.f13 false true false false) := by
  refine returnsInHanded_of_change (C := Try.checked) own_knob started (by kernel_rfl) Try.func13
    (ChangeSpec.witness6 (enc := enc) (C := Try.checked) false ⟨#[], #[.agg #[.slice none 0 0, .slice none 0 0, .int .i64 0, .bool false], .slice none 0 0, .int .u64 0], []⟩ 8 (by kernel_rfl) (by kernel_rfl) (by kernel_rfl) (by kernel_rfl)) ?_
  intro W base args ds gs before hval0 hW hcnd _
  have hval : ∀ (j : Nat) t v, Try.f13.params[j]? = some t → args[j]? = some v → Value.okWide Try.prog W .any base t v := hval0
  have hW' := hW
  obtain ⟨p, q, hA0, hV, rfl, hfz, hnd⟩ := hW
  have hA : DataW.TrodAll enc Try.prog W 0 (fun _ => true) true Try.f13.params.toList args.toList ds p := hA0
  rw [Try.params13] at hA hval
  obtain ⟨v0, vs0, d0, ds0, p0, q0, hargs, rfl, rfl, h0, r0⟩ := trodAll_cons hA
  obtain ⟨v1, vs1, d1, ds1, p1, q1, rfl, rfl, rfl, h1, r1⟩ := trodAll_cons r0
  obtain ⟨v2, vs2, d2, ds2, p2, q2, rfl, rfl, rfl, h2, r2⟩ := trodAll_cons r1
  obtain ⟨rfl, rfl, rfl⟩ := trodAll_nil r2
  obtain rfl : args = #[v0, v1, v2] := by cases args; simp_all
  obtain ⟨rfl, rfl⟩ := trodVars_none hV
  obtain ⟨A0, c0, m0, B0, k0, ds0, left0, down0, rfl, hS0, wA0, hB0, wB0, wl0⟩ := op_V (hval 0 46 v0 rfl rfl) h0
  obtain ⟨A1, c1, l1, rfl, hS1, wA1⟩ := op_E (hval 1 34 v1 rfl rfl) h1
  obtain ⟨x2, rfl, wx2⟩ := op_u (hval 2 24 v2 rfl rfl) h2
  clear hA0 hval0 hval hA
  refine (atomicAfter_any m0 ds0 left0 down0 l1 x2 A0 c0 B0 k0 A1 c1 W hS0 hB0 hS1 wA0 wB0 wA1 wx2).mono fun e W' ⟨he, hx⟩ => ?_
  subst he
  exact ⟨_, rfl, post_law laid_out (by kernel_rfl) hW' rfl rfl rfl Try.underlying4 hx⟩
theorem atomicAfter_holds : Rows.AtomicAfterSaid :=
  OpenClaim.holds_of_wide 13 Try.f13 rfl rfl rfl rfl rfl rfl rfl ⟨rfl, rfl, rfl, rfl, rfl⟩ rfl rfl rfl rfl rfl (by kernel_rfl) Try.func13 (by kernel_rfl)
    (of_decide_eq_true (by kernel_rfl)) (by unfold Func.isWrapper; first | (rw [if_pos (by decide +kernel)]; kernel_rfl) | (rw [if_neg (by decide +kernel)]; exact ⟨rfl, rfl⟩))
    (fun os started H enc _ => atomicAfter_lifted os started H enc)
end Go.Proofs.Ytmkcpnklaijkfaa
