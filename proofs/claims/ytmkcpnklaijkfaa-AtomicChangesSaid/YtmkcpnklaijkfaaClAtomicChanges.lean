/-
  AtomicChanges, for every device, every list of entries and every number: the law returns true. No condition.
-/
import Derived.Test.YtmkcpnklaijkfaaAtR2
import Derived.Test.YtmkcpnklaijkfaaGA
namespace Go.Proofs.Ytmkcpnklaijkfaa
open Go.ChangeShapes Go.WideShapes Go.ChangeAt Go.RowKit
set_option maxRecDepth 100000 in
set_option maxHeartbeats 6400000 in
theorem atomicChanges_any (m : List Int) (q : List Dw) (left : Int) (down : Bool) (l : List (Int × Int)) (words : Int) (A : Option Addr) (c : Nat) (B : Option Addr) (d : Nat) (E : Option Addr) (f : Nat) (w : World) (hA : Sl w A m.length c (fU m)) (hB : Sl w B q.length d (fD q)) (hE : Sl w E l.length f (fE l)) (wf : WfE l) :
    Calls Try.prog 7 #[.agg #[.slice A m.length c, .slice B q.length d, .int .i64 left, .bool down], .slice E l.length f, .int .i64 words] w fun e w' => e = .returned (.bool true) ∧ Ext w w' := by
  have hlm := hE.max
  have hle := hE.le
  unfold maxLen at hlm
  by_cases hg : (decide (2100 < m.length) || decide (2100 < q.length)) = true
  · go_enter Try.func7, Try.ntmps7
    go_wp2_with fail
    refine (dGreat_any _ _ _ _ _ _ _ _ _).mono ?_
    rintro e w' ⟨rfl, hx⟩
    rw [hg]
    go_wp2_with fail
    go_ret
    exact ⟨rfl, (by repeat (first | assumption | exact Ext.refl _ | refine Ext.drewN ?_ _ | refine Ext.drew ?_ | refine Ext.alloc ?_ _ | refine Ext.trans ?_ (by assumption)))⟩
  · have hg' : (decide (2100 < m.length) || decide (2100 < q.length)) = false := by simpa using hg
    have hm : m.length ≤ 2100 ∧ q.length ≤ 2100 := by simp at hg; omega
    cases h8 : decide (50 < l.length) with
    | true =>
      clear hg
      go_enter Try.func7, Try.ntmps7
      go_wp2_with fail
      refine (dGreat_any _ _ _ _ _ _ _ _ _).mono ?_
      rintro e w1 ⟨rfl, hx⟩
      rw [hg']
      go_wp2_with fail
      refine (great8_any _ _ _ _).mono ?_
      rintro e w2 ⟨rfl, rfl⟩
      rw [h8]
      go_wp2_with fail
      go_ret
      exact ⟨rfl, (by repeat (first | assumption | exact Ext.refl _ | refine Ext.drewN ?_ _ | refine Ext.drew ?_ | refine Ext.alloc ?_ _ | refine Ext.trans ?_ (by assumption)))⟩
    | false =>
      have h1 := fun A c B d W (ha : Sl W A m.length c (fU m)) (hb : Sl W B q.length d (fD q)) (he : Sl W E l.length f (fE l)) => aChange_any m q left down l A c B d E f W ha hb he wf
      have h2 := fun A c B d W (ha : Sl W A m.length c (fU m)) (hb : Sl W B q.length d (fD q)) (he : Sl W E l.length f (fE l)) => refChange_any m q left down l A c B d E f W ha hb he wf
      have h3 := fun W (he : Sl W E l.length f (fE l)) => aOps_any l words E f W he wf
      have h4 := fun W (he : Sl W E l.length f (fE l)) => refOps12_any l words E f W he
      obtain ⟨⟨m1, q1, l1, n1⟩, e0⟩ : ∃ D, chV m q left down l = D := ⟨_, rfl⟩
      obtain ⟨er, her⟩ : ∃ Y, chE m q left down l = Y := ⟨_, rfl⟩
      obtain ⟨N, hN⟩ : ∃ Y, aoN l words = Y := ⟨_, rfl⟩
      obtain ⟨es, hes⟩ : ∃ Y, chkE l words = Y := ⟨_, rfl⟩
      rw [e0, her] at h1 h2
      rw [hN, hes] at h3 h4
      have HH := Lib.hid (And.intro h1 (And.intro h2 (And.intro h3 (And.intro h4 (And.intro hg' h8)))))
      clear h1 h2 h3 h4 e0 her hN hes hg hg' h8
      have hD := DV.new w m q left down A c B d 46 hA hB
      have hX : Ext w (w.alloc (Obj.cells #[.slice A m.length c, .slice B q.length d, .int .i64 left, .bool down] 46)) := (Ext.refl w).alloc _
      go_enter Try.func7, Try.ntmps7
      go_wp2_with fail
      refine (dGreat_any _ _ _ _ _ _ _ _ _).mono ?_
      rintro e w1 ⟨rfl, hx1⟩
      rw [HH.out.2.2.2.2.1]
      replace hX := hX.trans hx1
      replace hD := hD.ext hx1
      replace hE := hE.ext hX
      go_wp2_with fail
      refine (great8_any _ _ _ _).mono ?_
      rintro e w2 ⟨rfl, rfl⟩
      rw [HH.out.2.2.2.2.2]
      obtain ⟨gD, hgD⟩ : ∃ g, w.heap.size = g := ⟨_, rfl⟩
      rw [hgD] at hD ⊢
      clear hx1 hgD
      obtain ⟨AD, cD, BD, dD, bD, sD, tD⟩ := hD
      obtain ⟨b0, b1, b2, b3, bf, bl⟩ := bD
      go_wp2_with fail
      refine (dRTwin_any m q left down AD cD BD dD w1 sD tD (by omega) (by omega)).mono ?_
      rintro e W101 ⟨AO, cO, BO, dO, rfl, sO, tO, hxx⟩
      replace sO := own_sl4 sO
      replace tO := own_sl4 tO
      have hD := DV.mk (Box4.mk b0 b1 b2 b3 bf bl) sD tD
      clear b0 b1 b2 b3 bf bl
      go_upto_region 4 with fail
      have hO := DV.new W101 m q left down AO cO BO dO 46 sO tO
      have neDO : gD ≠ W101.heap.size := Nat.ne_of_lt (Nat.lt_of_lt_of_le hD.lt hxx.size)
      have loO := Nat.le_trans hX.size hxx.size
      replace hxx := Ext.trans hxx ((Ext.refl W101).alloc (Obj.cells #[.slice AO m.length cO, .slice BO q.length dO, .int .i64 left, .bool down] 46))
      obtain ⟨W102, hW⟩ : ∃ W, W = W101.alloc (Obj.cells #[.slice AO m.length cO, .slice BO q.length dO, .int .i64 left, .bool down] 46) := ⟨_, rfl⟩
      obtain ⟨gO, hg⟩ : ∃ g, W101.heap.size = g := ⟨_, rfl⟩
      rw [← hW] at hO hxx ⊢
      rw [hg] at hO loO neDO ⊢
      clear hW hg sO tO
      replace hD := hD.ext hxx
      replace hE := hE.ext hxx
      replace hX := hX.trans hxx
      clear hxx
      obtain ⟨AO, cO, BO, dO, bO, sO, tO⟩ := hO
      obtain ⟨b0, b1, b2, b3, bf, bl⟩ := bO
      go_wp2_with fail
      refine (HH.out.1 AO cO BO dO W102 sO tO hE).mono ?_
      rintro e W103 ⟨AP, cP, BP, dP, rfl, sP, tP, hxx⟩
      have hO := DV.mk (Box4.mk b0 b1 b2 b3 bf bl) sO tO
      clear b0 b1 b2 b3 bf bl
      go_upto_region 5 with fail
      have hP := DV.new W103 m1 q1 l1 n1 AP cP BP dP 46 sP tP
      have neDP : gD ≠ W103.heap.size := Nat.ne_of_lt (Nat.lt_of_lt_of_le hD.lt hxx.size)
      have neOP : gO ≠ W103.heap.size := Nat.ne_of_lt (Nat.lt_of_lt_of_le hO.lt hxx.size)
      have loP := Nat.le_trans hX.size hxx.size
      replace hxx := Ext.trans hxx ((Ext.refl W103).alloc (Obj.cells #[.slice AP m1.length cP, .slice BP q1.length dP, .int .i64 l1, .bool n1] 46))
      obtain ⟨W104, hW⟩ : ∃ W, W = W103.alloc (Obj.cells #[.slice AP m1.length cP, .slice BP q1.length dP, .int .i64 l1, .bool n1] 46) := ⟨_, rfl⟩
      obtain ⟨gP, hg⟩ : ∃ g, W103.heap.size = g := ⟨_, rfl⟩
      rw [← hW] at hP hxx ⊢
      rw [hg] at hP loP neDP neOP ⊢
      clear hW hg sP tP
      replace hD := hD.ext hxx
      replace hO := hO.ext hxx
      replace hE := hE.ext hxx
      replace hX := hX.trans hxx
      clear hxx
      obtain ⟨AD, cD, BD, dD, bD, sD, tD⟩ := hD
      obtain ⟨b0, b1, b2, b3, bf, bl⟩ := bD
      go_wp2_with fail
      refine (HH.out.2.1 AD cD BD dD W104 sD tD hE).mono ?_
      rintro e W105 ⟨AQ, cQ, BQ, dQ, rfl, sQ, tQ, hxx⟩
      have hD := DV.mk (Box4.mk b0 b1 b2 b3 bf bl) sD tD
      clear b0 b1 b2 b3 bf bl
      go_upto_region 6 with fail
      have hQ := DV.new W105 m1 q1 l1 n1 AQ cQ BQ dQ 46 sQ tQ
      have neDQ : gD ≠ W105.heap.size := Nat.ne_of_lt (Nat.lt_of_lt_of_le hD.lt hxx.size)
      have neOQ : gO ≠ W105.heap.size := Nat.ne_of_lt (Nat.lt_of_lt_of_le hO.lt hxx.size)
      have nePQ : gP ≠ W105.heap.size := Nat.ne_of_lt (Nat.lt_of_lt_of_le hP.lt hxx.size)
      have loQ := Nat.le_trans hX.size hxx.size
      replace hxx := Ext.trans hxx ((Ext.refl W105).alloc (Obj.cells #[.slice AQ m1.length cQ, .slice BQ q1.length dQ, .int .i64 l1, .bool n1] 46))
      obtain ⟨W106, hW⟩ : ∃ W, W = W105.alloc (Obj.cells #[.slice AQ m1.length cQ, .slice BQ q1.length dQ, .int .i64 l1, .bool n1] 46) := ⟨_, rfl⟩
      obtain ⟨gQ, hg⟩ : ∃ g, W105.heap.size = g := ⟨_, rfl⟩
      rw [← hW] at hQ hxx ⊢
      rw [hg] at hQ loQ neDQ neOQ nePQ ⊢
      clear hW hg sQ tQ
      replace hD := hD.ext hxx
      replace hO := hO.ext hxx
      replace hP := hP.ext hxx
      replace hE := hE.ext hxx
      replace hX := hX.trans hxx
      clear hxx
      obtain ⟨AP, cP, BP, dP, bP, sP, tP⟩ := hP
      obtain ⟨b0, b1, b2, b3, bf, bl⟩ := bP
      go_wp2_with fail
      refine (HH.out.2.2.1 W106 hE).mono ?_
      rintro e W107 ⟨rfl, hxx⟩
      have hP := DV.mk (Box4.mk b0 b1 b2 b3 bf bl) sP tP
      clear b0 b1 b2 b3 bf bl
      replace hD := hD.ext hxx
      replace hO := hO.ext hxx
      replace hP := hP.ext hxx
      replace hQ := hQ.ext hxx
      replace hE := hE.ext hxx
      replace hX := hX.trans hxx
      clear hxx
      obtain ⟨AP, cP, BP, dP, bP, sP, tP⟩ := hP
      obtain ⟨b0, b1, b2, b3, bf, bl⟩ := bP
      go_wp2_with fail
      refine (HH.out.2.2.2.1 W107 hE).mono ?_
      rintro e W108 ⟨rfl, hxx⟩
      have hP := DV.mk (Box4.mk b0 b1 b2 b3 bf bl) sP tP
      clear b0 b1 b2 b3 bf bl
      replace hD := hD.ext hxx
      replace hO := hO.ext hxx
      replace hP := hP.ext hxx
      replace hQ := hQ.ext hxx
      replace hE := hE.ext hxx
      replace hX := hX.trans hxx
      clear hxx
      obtain ⟨AP, cP, BP, dP, bP, sP, tP⟩ := hP
      obtain ⟨b0, b1, b2, b3, bf, bl⟩ := bP
      obtain ⟨AQ, cQ, BQ, dQ, bQ, sQ, tQ⟩ := hQ
      obtain ⟨o0, o1, o2, o3, of, ol⟩ := bQ
      go_wp2_with fail
      refine (dSame_yes m1 q1 l1 n1 AP cP BP dP AQ cQ BQ dQ W108 sP tP sQ tQ).mono ?_
      rintro e W109 ⟨rfl, hxx⟩
      have hP := DV.mk (Box4.mk b0 b1 b2 b3 bf bl) sP tP
      clear b0 b1 b2 b3 bf bl
      have hQ := DV.mk (Box4.mk o0 o1 o2 o3 of ol) sQ tQ
      clear o0 o1 o2 o3 of ol
      replace hD := hD.ext hxx
      replace hO := hO.ext hxx
      replace hP := hP.ext hxx
      replace hQ := hQ.ext hxx
      replace hE := hE.ext hxx
      replace hX := hX.trans hxx
      clear hxx
      obtain ⟨AO, cO, BO, dO, bO, sO, tO⟩ := hO
      obtain ⟨b0, b1, b2, b3, bf, bl⟩ := bO
      obtain ⟨AD, cD, BD, dD, bD, sD, tD⟩ := hD
      obtain ⟨o0, o1, o2, o3, of, ol⟩ := bD
      go_wp2_with fail
      refine (dSame_yes m q left down AO cO BO dO AD cD BD dD W109 sO tO sD tD).mono ?_
      rintro e W110 ⟨rfl, hxx⟩
      have hO := DV.mk (Box4.mk b0 b1 b2 b3 bf bl) sO tO
      clear b0 b1 b2 b3 bf bl
      have hD := DV.mk (Box4.mk o0 o1 o2 o3 of ol) sD tD
      clear o0 o1 o2 o3 of ol
      replace hD := hD.ext hxx
      replace hO := hO.ext hxx
      replace hP := hP.ext hxx
      replace hQ := hQ.ext hxx
      replace hE := hE.ext hxx
      replace hX := hX.trans hxx
      clear hxx
      go_wp2_with fail
      go_ret
      exact ⟨rfl, hX⟩
set_option maxRecDepth 100000 in
theorem atomicChanges_lifted (os : Os) (started : os.Started) (H : Type) (enc : TypeId × Value → H) :
    ReturnsInHanded {} Try.checked os 7 .any (Rows.atomicChangesSpec.pre6 enc Try.prog Try.f7 Rows.atomicChangesRow.domain false) (Rows.atomicChangesSpec.post enc Try.prog Try.f7 false true false false) := by
  refine returnsInHanded_of_change (C := Try.checked) own_knob started (by kernel_rfl) Try.func7
    (ChangeSpec.witness6 (enc := enc) (C := Try.checked) false ⟨#[], #[.agg #[.slice none 0 0, .slice none 0 0, .int .i64 0, .bool false], .slice none 0 0, .int .i64 0], []⟩ 8 (by kernel_rfl) (by kernel_rfl) (by kernel_rfl) (by kernel_rfl)) ?_
  intro W base args ds gs before hval0 hW hcnd _
  have hval : ∀ (j : Nat) t v, Try.f7.params[j]? = some t → args[j]? = some v → Value.okWide Try.prog W .any base t v := hval0
  have hW' := hW
  obtain ⟨p, q, hA0, hV, rfl, hfz, hnd⟩ := hW
  have hA : DataW.TrodAll enc Try.prog W 0 (fun _ => true) true Try.f7.params.toList args.toList ds p := hA0
  rw [Try.params7] at hA hval
  obtain ⟨v0, vs0, d0, ds0, p0, q0, hargs, rfl, rfl, h0, r0⟩ := trodAll_cons hA
  obtain ⟨v1, vs1, d1, ds1, p1, q1, rfl, rfl, rfl, h1, r1⟩ := trodAll_cons r0
  obtain ⟨v2, vs2, d2, ds2, p2, q2, rfl, rfl, rfl, h2, r2⟩ := trodAll_cons r1
  obtain ⟨rfl, rfl, rfl⟩ := trodAll_nil r2
  obtain rfl : args = #[v0, v1, v2] := by cases args; simp_all
  obtain ⟨rfl, rfl⟩ := trodVars_none hV
  obtain ⟨A0, c0, m0, B0, k0, ds0, left0, down0, rfl, hS0, wA0, hB0, wB0, wl0⟩ := op_V (hval 0 46 v0 rfl rfl) h0
  obtain ⟨A1, c1, l1, rfl, hS1, wA1⟩ := op_E (hval 1 34 v1 rfl rfl) h1
  obtain ⟨x2, rfl, wx2⟩ := op_i (hval 2 3 v2 rfl rfl) h2
  clear hA0 hval0 hval hA
  refine (atomicChanges_any m0 ds0 left0 down0 l1 x2 A0 c0 B0 k0 A1 c1 W hS0 hB0 hS1 wA1).mono fun e W' ⟨he, hx⟩ => ?_
  subst he
  exact ⟨_, rfl, post_law laid_out (by kernel_rfl) hW' rfl rfl rfl Try.underlying4 hx⟩
theorem atomicChanges_holds : Rows.AtomicChangesSaid :=
  OpenClaim.holds_of_wide 7 Try.f7 rfl rfl rfl rfl rfl rfl rfl ⟨rfl, rfl, rfl, rfl, rfl⟩ rfl rfl rfl rfl rfl (by kernel_rfl) Try.func7 (by kernel_rfl)
    (of_decide_eq_true (by kernel_rfl)) (by unfold Func.isWrapper; first | (rw [if_pos (by decide +kernel)]; kernel_rfl) | (rw [if_neg (by decide +kernel)]; exact ⟨rfl, rfl⟩))
    (fun os started H enc _ => atomicChanges_lifted os started H enc)
end Go.Proofs.Ytmkcpnklaijkfaa
