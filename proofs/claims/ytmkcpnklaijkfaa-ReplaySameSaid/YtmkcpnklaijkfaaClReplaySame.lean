/-
  ReplaySame, for every device: the law returns true. No condition.
-/
import Derived.Test.YtmkcpnklaijkfaaSameK
import Derived.Test.YtmkcpnklaijkfaaDV23
import Derived.Test.YtmkcpnklaijkfaaAlive10
import Derived.Test.YtmkcpnklaijkfaaGA
namespace Go.Proofs.Ytmkcpnklaijkfaa
open Go.ChangeShapes Go.WideShapes Go.ChangeAt Go.RowKit
set_option maxRecDepth 100000 in
set_option maxHeartbeats 6400000 in
theorem replaySame_main (m : List Int) (q : List Dw) (left : Int) (down : Bool) (A : Option Addr) (c : Nat) (B : Option Addr) (d : Nat) (w : World) (hA : Sl w A m.length c (fU m)) (hB : Sl w B q.length d (fD q)) (wm : WfU m) (wd : WfD q) (hg' : (decide (2100 < m.length) || decide (2100 < q.length)) = false) (hd : devB m q left down = true) :
    Calls Try.prog 11 #[.agg #[.slice A m.length c, .slice B q.length d, .int .i64 left, .bool down]] w fun e w' => e = .returned (.bool true) ∧ Ext w w' := by
  have h0 := devE_yes hd
  have H0 := Box4.new w (.slice A m.length c) (.slice B q.length d) (.int .i64 left) (.bool down) 46
  obtain ⟨p1, -, -, -, p5⟩ := devB_bd hd
  have hd2 : devB m q 1000 false = true := devB_mk p1 (by decide) (by decide) (by intro h; cases h) p5
  have hww := wfU_wrd wd wm
  have h1 := fun A c B d W (ha : Sl W A m.length c (fU m)) (hb : Sl W B q.length d (fD q)) => dView_ok hd2 A c B d W ha hb
  have h2 := fun A c W (ha : Sl W A (wrd m q).length c (fU (wrd m q))) => image10_any (wrd m q) A c W ha hww
  have h3 := fun A c B d W (ha : Sl W A m.length c (fU m)) (hb : Sl W B q.length d (fD q)) => dev10_any m q 1000 false A c B d W ha hb wm wd
  by_cases hc : crE (wrd m q) = 0
  · obtain ⟨k0, k1, k2, k3, k4, ⟨k5, k6⟩, k7, k8⟩ := same_key hd2 wm wd hc
    have h5 := fun A c W (ha : Sl W A (wrd m q).length c (fU (wrd m q))) => commitRead_any (wrd m q) A c W ha hww
    have h6 := fun A c W (ha : Sl W A (crL (wrd m q)).length c (fE (crL (wrd m q)))) => ops10_any (crL (wrd m q)) A c W ha
    rw [hc] at h2 h5
    rw [k0] at h3
    rw [k4] at h6
    obtain ⟨V, hV⟩ : ∃ V, wrd m q = V := ⟨_, rfl⟩
    rw [hV] at h1 h2 h5 h6 k1 k2 k5 k6 k8
    obtain ⟨⟨m1, q1, l1, n1⟩, eD⟩ : ∃ D, dvV m q 1000 false = D := ⟨_, rfl⟩
    rw [eD] at h3 k1 k2 k3 k7 k8
    simp only at k1 k2 k3 k7 k8
    subst k3
    have h4 := fun A c B d W (ha : Sl W A m1.length c (fU m1)) (hb : Sl W B q1.length d (fD q1)) => dView_ok k7 A c B d W ha hb
    rw [k1] at h4
    obtain ⟨l, hl⟩ : ∃ l, crL V = l := ⟨_, rfl⟩
    rw [hl] at h5 h6 k2 k5 k6
    obtain ⟨N, hN⟩ : ∃ N, opN l = N := ⟨_, rfl⟩
    rw [hN] at h6 k2 k5 k6
    obtain ⟨Y, hY⟩ : ∃ Y, imgL V = Y := ⟨_, rfl⟩
    rw [hY] at h2 h4 k8
    have hw : IntKind.i64.wrap (1000 - N) = l1 := by rw [IntKind.wrap_i64, k2]; omega
    have kk : (q ≠ [] ∧ 0 < q.length ∧ decide ((0 : Int) < (q.length : Int)) = true) ∨ decide ((0 : Int) < (q.length : Int)) = false ∧ ((q1.length : Int) == 0) = true ∧ m1 = Y ∧ q = [] := by
      by_cases hq : q = []
      · right
        obtain ⟨e1, e2⟩ := k8 hq
        exact ⟨by rw [hq]; rfl, by rw [e1]; rfl, e2, hq⟩
      · left
        have := List.length_pos_iff.2 hq
        exact ⟨hq, this, decide_eq_true (by omega)⟩
    have KK := Lib.hid kk
    have HH := Lib.hid (And.intro h1 (And.intro h2 (And.intro h3 (And.intro h4 (And.intro h5 h6)))))
    clear h1 h2 h3 h4 h5 h6 kk hY hN hl k0 k1 k2 k4 k5 k6 k7 k8 eD hV hc hww hd2 p1 p5 wm wd hd
    have hD := DV.new w m q left down A c B d 46 hA hB
    go_enter Try.func11, Try.ntmps11
    go_wp2_with fail
    refine (dGreat_any _ _ _ _ _ _ _ _ _).mono ?_
    rintro e w1 ⟨rfl, hx1⟩
    rw [hg']
    obtain ⟨b0, b1, b2, b3, bf, bl⟩ := H0.ext (w' := w1) (by repeat (first | assumption | exact Ext.refl _ | refine Ext.drewN ?_ _ | refine Ext.drew ?_ | refine Ext.alloc ?_ _ | refine Ext.trans ?_ (by assumption)))
    go_wp2_with fail
    refine (dRefCk_any m q left down A c B d _ (hB.ext (by repeat (first | assumption | exact Ext.refl _ | refine Ext.drewN ?_ _ | refine Ext.drew ?_ | refine Ext.alloc ?_ _ | refine Ext.trans ?_ (by assumption))))).mono ?_
    rintro e w2 ⟨rfl, hx2⟩
    rw [h0]
    replace hD := hD.ext (hx1.trans hx2)
    have hX : Ext w w2 := Ext.trans ((Ext.refl w).alloc _) (hx1.trans hx2)
    clear b0 b1 b2 b3 bf bl hx1 hx2 H0
    obtain ⟨gD, hgD⟩ : ∃ g, w.heap.size = g := ⟨_, rfl⟩
    have loD : w.heap.size ≤ gD := Nat.le_of_eq hgD
    have HgD := Lib.hid hgD
    rw [hgD] at hD ⊢
    clear hgD
    have HX := Lib.hid (And.intro (hD.set23 1000 false) ((hX.setCell (p := ⟨gD, 2, none⟩) loD (.int .i64 1000)).setCell (p := ⟨gD, 3, none⟩) loD (.bool false)))
    obtain ⟨A9, c9, B9, d9, ⟨b0, b1, b2, b3, bf, bl⟩, -, -⟩ := hD
    clear hX
    go_upto_region 4 with fail
    clear b0 b1 b2 b3 bf bl
    obtain ⟨W3, hW3⟩ : ∃ W, W = (w2.setCell ⟨gD, 2, none⟩ (.int .i64 1000)).setCell ⟨gD, 3, none⟩ (.bool false) := ⟨_, rfl⟩
    obtain ⟨hD, hX⟩ := HX.out
    rw [← hW3] at hD hX ⊢
    clear hW3 HX
    obtain ⟨AD, cD, BD, dD, bD, sD, tD⟩ := hD
    obtain ⟨b0, b1, b2, b3, bf, bl⟩ := bD
    go_wp2_with fail
    refine (HH.out.1 AD cD BD dD W3 sD tD).mono ?_
    rintro e W101 ⟨AV, cV, rfl, -, hAV, hxx⟩
    have hD := DV.mk (Box4.mk b0 b1 b2 b3 bf bl) sD tD
    clear b0 b1 b2 b3 bf bl
    replace hD := hD.ext hxx
    replace hX := hX.trans hxx
    clear hxx
    obtain ⟨AD, cD, BD, dD, bD, sD, tD⟩ := hD
    obtain ⟨b0, b1, b2, b3, bf, bl⟩ := bD
    go_wp2_with fail
    refine (HH.out.2.1 AV cV W101 hAV).mono ?_
    rintro e W102 ⟨AY, cY, rfl, hAY, hxx⟩
    have hD := DV.mk (Box4.mk b0 b1 b2 b3 bf bl) sD tD
    clear b0 b1 b2 b3 bf bl
    replace hD := hD.ext hxx
    replace hAV := hAV.ext hxx
    replace hX := hX.trans hxx
    clear hxx
    obtain ⟨AD, cD, BD, dD, bD, sD, tD⟩ := hD
    obtain ⟨b0, b1, b2, b3, bf, bl⟩ := bD
    go_wp2_with fail
    refine (HH.out.2.2.1 AD cD BD dD W102 sD tD).mono ?_
    rintro e W103 ⟨AZ, cZ, BZ, dZ, rfl, sZ, tZ, hxx⟩
    have hD := DV.mk (Box4.mk b0 b1 b2 b3 bf bl) sD tD
    clear b0 b1 b2 b3 bf bl
    go_upto_region 7 with fail
    have hZ := DV.new W103 m1 q1 l1 false AZ cZ BZ dZ 46 sZ tZ
    have neDZ : gD ≠ W103.heap.size := Nat.ne_of_lt (Nat.lt_of_lt_of_le hD.lt hxx.size)
    have loZ := Nat.le_trans hX.size hxx.size
    replace hxx := Ext.trans hxx ((Ext.refl W103).alloc (Obj.cells #[.slice AZ m1.length cZ, .slice BZ q1.length dZ, .int .i64 l1, .bool false] 46))
    obtain ⟨W104, hW⟩ : ∃ W, W = W103.alloc (Obj.cells #[.slice AZ m1.length cZ, .slice BZ q1.length dZ, .int .i64 l1, .bool false] 46) := ⟨_, rfl⟩
    obtain ⟨gZ, hg⟩ : ∃ g, W103.heap.size = g := ⟨_, rfl⟩
    rw [← hW] at hZ hxx ⊢
    rw [hg] at hZ loZ neDZ ⊢
    clear hW hg sZ tZ
    replace hD := hD.ext hxx
    replace hAV := hAV.ext hxx
    replace hAY := hAY.ext hxx
    replace hX := hX.trans hxx
    clear hxx
    obtain ⟨AZ, cZ, BZ, dZ, bZ, sZ, tZ⟩ := hZ
    obtain ⟨b0, b1, b2, b3, bf, bl⟩ := bZ
    go_wp2_with fail
    refine (HH.out.2.2.2.1 AZ cZ BZ dZ W104 sZ tZ).mono ?_
    rintro e W105 ⟨AU, cU, rfl, -, hAU, hxx⟩
    have hZ := DV.mk (Box4.mk b0 b1 b2 b3 bf bl) sZ tZ
    clear b0 b1 b2 b3 bf bl
    replace hD := hD.ext hxx
    replace hZ := hZ.ext hxx
    replace hAV := hAV.ext hxx
    replace hAY := hAY.ext hxx
    replace hX := hX.trans hxx
    clear hxx
    obtain ⟨AZ, cZ, BZ, dZ, bZ, sZ, tZ⟩ := hZ
    obtain ⟨b0, b1, b2, b3, bf, bl⟩ := bZ
    go_wp2_with fail
    refine (HH.out.2.2.2.2.1 AV cV W105 hAV).mono ?_
    rintro e W106 ⟨AL, cL, rfl, hAL, hxx⟩
    have hZ := DV.mk (Box4.mk b0 b1 b2 b3 bf bl) sZ tZ
    clear b0 b1 b2 b3 bf bl
    replace hD := hD.ext hxx
    replace hZ := hZ.ext hxx
    replace hAV := hAV.ext hxx
    replace hAY := hAY.ext hxx
    replace hAU := hAU.ext hxx
    replace hX := hX.trans hxx
    clear hxx
    obtain ⟨AZ, cZ, BZ, dZ, bZ, sZ, tZ⟩ := hZ
    obtain ⟨b0, b1, b2, b3, bf, bl⟩ := bZ
    go_wp2_with fail
    refine (HH.out.2.2.2.2.2 AL cL W106 hAL).mono ?_
    rintro e W107 ⟨rfl, hxx⟩
    have hZ := DV.mk (Box4.mk b0 b1 b2 b3 bf bl) sZ tZ
    clear b0 b1 b2 b3 bf bl
    replace hD := hD.ext hxx
    replace hZ := hZ.ext hxx
    replace hAV := hAV.ext hxx
    replace hAY := hAY.ext hxx
    replace hAU := hAU.ext hxx
    replace hAL := hAL.ext hxx
    replace hX := hX.trans hxx
    clear hxx
    obtain ⟨AZ, cZ, BZ, dZ, bZ, sZ, tZ⟩ := hZ
    obtain ⟨b0, b1, b2, b3, bf, bl⟩ := bZ
    go_wp2_with fail
    refine (same2_yes Y Y rfl AU AY cU cY _ hAU hAY).mono ?_
    rintro e w8 ⟨rfl, hdn⟩
    have hZ := DV.mk (Box4.mk b0 b1 b2 b3 bf bl) sZ tZ
    clear b0 b1 b2 b3 bf bl
    have hxx := hdn.ext
    replace hD := hD.ext hxx
    replace hZ := hZ.ext hxx
    replace hAV := hAV.ext hxx
    replace hAY := hAY.ext hxx
    replace hAU := hAU.ext hxx
    replace hAL := hAL.ext hxx
    replace hX := hX.trans hxx
    obtain ⟨AD, cD, BD, dD, bD, sD, tD⟩ := hD
    obtain ⟨b0, b1, b2, b3, bf, bl⟩ := bD
    obtain ⟨AZ, cZ, BZ, dZ, bZ, sZ, tZ⟩ := hZ
    obtain ⟨o0, o1, o2, o3, of, ol⟩ := bZ
    rcases KK.out with ⟨g, g', g''⟩ | ⟨g1, g2, g3, g4⟩
    · go_wp2_with fail
      refine (alive10_any _).mono ?_
      rintro e w9 ⟨rfl, hx9⟩
      go_wp2_with fail
      go_ret
      exact ⟨rfl, hX.trans hx9⟩
    · have G := Lib.hid (And.intro g3 g4)
      clear g3 g4
      go_wp2_with fail
      all_goals try exact absurd G.out.2 (by assumption)
      refine (same2_yes m1 Y G.out.1 _ _ _ _ _ sZ hAY).mono ?_
      rintro e w10 ⟨rfl, hdn2⟩
      replace hX := hX.trans hdn2.ext
      clear b0 b1 b2 b3 bf bl o0 o1 o2 o3 of ol
      go_wp2_with fail
      refine (alive10_any _).mono ?_
      rintro e w9 ⟨rfl, hx9⟩
      go_wp2_with fail
      go_ret
      exact ⟨rfl, hX.trans hx9⟩
  · have he : dvE m q 1000 false = crE (wrd m q) := by simp [dvE, hd2]
    rw [he] at h3
    have hv : dvV m q 1000 false = zeroV := by unfold dvV; rw [he, if_neg hc]
    rw [hv] at h3
    rw [show imgL (wrd m q) = [] from by simp [imgL, hc]] at h2
    obtain ⟨V, hV⟩ : ∃ V, wrd m q = V := ⟨_, rfl⟩
    rw [hV] at h1 h2 h3 hc
    obtain ⟨er, her⟩ : ∃ er, crE V = er := ⟨_, rfl⟩
    rw [her] at h2 h3 hc
    have hb : (er != 0) = true := by simpa using hc
    obtain ⟨Y, hY⟩ : ∃ Y : List Int, [] = Y := ⟨_, rfl⟩
    rw [hY] at h2
    have HH := Lib.hid (And.intro h1 (And.intro h2 h3))
    clear h1 h2 h3 hY her hV hc hv he hww hd2 p1 p5 wm wd hd
    have hD := DV.new w m q left down A c B d 46 hA hB
    go_enter Try.func11, Try.ntmps11
    go_wp2_with fail
    refine (dGreat_any _ _ _ _ _ _ _ _ _).mono ?_
    rintro e w1 ⟨rfl, hx1⟩
    rw [hg']
    obtain ⟨b0, b1, b2, b3, bf, bl⟩ := H0.ext (w' := w1) (by repeat (first | assumption | exact Ext.refl _ | refine Ext.drewN ?_ _ | refine Ext.drew ?_ | refine Ext.alloc ?_ _ | refine Ext.trans ?_ (by assumption)))
    go_wp2_with fail
    refine (dRefCk_any m q left down A c B d _ (hB.ext (by repeat (first | assumption | exact Ext.refl _ | refine Ext.drewN ?_ _ | refine Ext.drew ?_ | refine Ext.alloc ?_ _ | refine Ext.trans ?_ (by assumption))))).mono ?_
    rintro e w2 ⟨rfl, hx2⟩
    rw [h0]
    replace hD := hD.ext (hx1.trans hx2)
    have hX : Ext w w2 := Ext.trans ((Ext.refl w).alloc _) (hx1.trans hx2)
    clear b0 b1 b2 b3 bf bl hx1 hx2 H0
    obtain ⟨gD, hgD⟩ : ∃ g, w.heap.size = g := ⟨_, rfl⟩
    have loD : w.heap.size ≤ gD := Nat.le_of_eq hgD
    have HgD := Lib.hid hgD
    rw [hgD] at hD ⊢
    clear hgD
    have HX := Lib.hid (And.intro (hD.set23 1000 false) ((hX.setCell (p := ⟨gD, 2, none⟩) loD (.int .i64 1000)).setCell (p := ⟨gD, 3, none⟩) loD (.bool false)))
    obtain ⟨A9, c9, B9, d9, ⟨b0, b1, b2, b3, bf, bl⟩, -, -⟩ := hD
    clear hX
    go_upto_region 4 with fail
    clear b0 b1 b2 b3 bf bl
    obtain ⟨W3, hW3⟩ : ∃ W, W = (w2.setCell ⟨gD, 2, none⟩ (.int .i64 1000)).setCell ⟨gD, 3, none⟩ (.bool false) := ⟨_, rfl⟩
    obtain ⟨hD, hX⟩ := HX.out
    rw [← hW3] at hD hX ⊢
    clear hW3 HX
    obtain ⟨AD, cD, BD, dD, bD, sD, tD⟩ := hD
    obtain ⟨b0, b1, b2, b3, bf, bl⟩ := bD
    go_wp2_with fail
    refine (HH.out.1 AD cD BD dD W3 sD tD).mono ?_
    rintro e W101 ⟨AV, cV, rfl, -, hAV, hxx⟩
    have hD := DV.mk (Box4.mk b0 b1 b2 b3 bf bl) sD tD
    clear b0 b1 b2 b3 bf bl
    replace hD := hD.ext hxx
    replace hX := hX.trans hxx
    clear hxx
    obtain ⟨AD, cD, BD, dD, bD, sD, tD⟩ := hD
    obtain ⟨b0, b1, b2, b3, bf, bl⟩ := bD
    go_wp2_with fail
    refine (HH.out.2.1 AV cV W101 hAV).mono ?_
    rintro e W102 ⟨AY, cY, rfl, hAY, hxx⟩
    have hD := DV.mk (Box4.mk b0 b1 b2 b3 bf bl) sD tD
    clear b0 b1 b2 b3 bf bl
    replace hD := hD.ext hxx
    replace hAV := hAV.ext hxx
    replace hX := hX.trans hxx
    clear hxx
    obtain ⟨AD, cD, BD, dD, ⟨b0, b1, b2, b3, bf, bl⟩, sD, tD⟩ := hD
    go_wp2_with fail
    refine (HH.out.2.2 AD cD BD dD _ sD tD).mono ?_
    rintro e w8 ⟨A8, c8, B8, d8, rfl, s8, t8, hxx⟩
    replace hX := hX.trans hxx
    clear b0 b1 b2 b3 bf bl
    go_wp2_with fail
    refine (alive10_any _).mono ?_
    rintro e w9 ⟨rfl, hx9⟩
    go_wp2_with fail
    go_ret
    exact ⟨rfl, (hX.alloc _).trans hx9⟩
set_option maxRecDepth 100000 in
set_option maxHeartbeats 6400000 in
theorem replaySame_any (m : List Int) (q : List Dw) (left : Int) (down : Bool) (A : Option Addr) (c : Nat) (B : Option Addr) (d : Nat) (w : World) (hA : Sl w A m.length c (fU m)) (hB : Sl w B q.length d (fD q)) (wm : WfU m) (wd : WfD q) :
    Calls Try.prog 11 #[.agg #[.slice A m.length c, .slice B q.length d, .int .i64 left, .bool down]] w fun e w' => e = .returned (.bool true) ∧ Ext w w' := by
  by_cases hg : (decide (2100 < m.length) || decide (2100 < q.length)) = true
  · go_enter Try.func11, Try.ntmps11
    go_wp2_with fail
    refine (dGreat_any _ _ _ _ _ _ _ _ _).mono ?_
    rintro e w1 ⟨rfl, hx1⟩
    rw [hg]
    go_wp2_with fail
    refine (alive10_any _).mono ?_
    rintro e w2 ⟨rfl, hx2⟩
    go_wp2_with fail
    go_ret
    exact ⟨rfl, (by repeat (first | assumption | exact Ext.refl _ | refine Ext.drewN ?_ _ | refine Ext.drew ?_ | refine Ext.alloc ?_ _ | refine Ext.trans ?_ (by assumption)))⟩
  have hg' : (decide (2100 < m.length) || decide (2100 < q.length)) = false := by simpa using hg
  clear hg
  have H0 := Box4.new w (.slice A m.length c) (.slice B q.length d) (.int .i64 left) (.bool down) 46
  by_cases hd : devB m q left down = true
  rotate_left
  · have h0 := devE_no (by simpa using hd)
    go_enter Try.func11, Try.ntmps11
    go_wp2_with fail
    refine (dGreat_any _ _ _ _ _ _ _ _ _).mono ?_
    rintro e w1 ⟨rfl, hx1⟩
    rw [hg']
    obtain ⟨b0, b1, b2, b3, bf, bl⟩ := H0.ext (w' := w1) (by repeat (first | assumption | exact Ext.refl _ | refine Ext.drewN ?_ _ | refine Ext.drew ?_ | refine Ext.alloc ?_ _ | refine Ext.trans ?_ (by assumption)))
    go_wp2_with fail
    refine (dRefCk_any m q left down A c B d _ (hB.ext (by repeat (first | assumption | exact Ext.refl _ | refine Ext.drewN ?_ _ | refine Ext.drew ?_ | refine Ext.alloc ?_ _ | refine Ext.trans ?_ (by assumption))))).mono ?_
    rintro e w2 ⟨rfl, hx2⟩
    rw [h0]
    go_wp2_with fail
    refine (alive10_any _).mono ?_
    rintro e w3 ⟨rfl, hx3⟩
    go_wp2_with fail
    go_ret
    exact ⟨rfl, (by repeat (first | assumption | exact Ext.refl _ | refine Ext.drewN ?_ _ | refine Ext.drew ?_ | refine Ext.alloc ?_ _ | refine Ext.trans ?_ (by assumption)))⟩
  have h0 := devE_yes hd
  exact replaySame_main m q left down A c B d w hA hB wm wd hg' hd
set_option maxRecDepth 100000 in
theorem replaySame_lifted (os : Os) (started : os.Started) (H : Type) (enc : TypeId × Value → H) :
    ReturnsInHanded {} Try.checked os 11 .any (Rows.replaySameSpec.pre6 enc Try.prog Try.f11 Rows.replaySameRow.domain false) (Rows.replaySameSpec.post enc Try.prog Try.f11 false true false false) := by
  refine returnsInHanded_of_change (C := Try.checked) own_knob started (by kernel_rfl) Try.func11
    (ChangeSpec.witness6 (enc := enc) (C := Try.checked) false ⟨#[], #[.agg #[.slice none 0 0, .slice none 0 0, .int .i64 0, .bool false]], []⟩ 8 (by kernel_rfl) (by kernel_rfl) (by kernel_rfl) (by kernel_rfl)) ?_
  intro W base args ds gs before hval0 hW hcnd _
  have hval : ∀ (j : Nat) t v, Try.f11.params[j]? = some t → args[j]? = some v → Value.okWide Try.prog W .any base t v := hval0
  have hW' := hW
  obtain ⟨p, q, hA0, hV, rfl, hfz, hnd⟩ := hW
  have hA : DataW.TrodAll enc Try.prog W 0 (fun _ => true) true Try.f11.params.toList args.toList ds p := hA0
  rw [Try.params11] at hA hval
  obtain ⟨v0, vs0, d0, ds0, p0, q0, hargs, rfl, rfl, h0, r0⟩ := trodAll_cons hA
  obtain ⟨rfl, rfl, rfl⟩ := trodAll_nil r0
  obtain rfl : args = #[v0] := by cases args; simp_all
  obtain ⟨rfl, rfl⟩ := trodVars_none hV
  obtain ⟨A0, c0, m0, B0, k0, ds0, left0, down0, rfl, hS0, wA0, hB0, wB0, wl0⟩ := op_V (hval 0 46 v0 rfl rfl) h0
  clear hA0 hval0 hval hA
  refine (replaySame_any m0 ds0 left0 down0 A0 c0 B0 k0 W hS0 hB0 wA0 wB0).mono fun e W' ⟨he, hx⟩ => ?_
  subst he
  exact ⟨_, rfl, post_law laid_out (by kernel_rfl) hW' rfl rfl rfl Try.underlying4 hx⟩
theorem replaySame_holds : Rows.ReplaySameSaid :=
  OpenClaim.holds_of_wide 11 Try.f11 rfl rfl rfl rfl rfl rfl rfl ⟨rfl, rfl, rfl, rfl, rfl⟩ rfl rfl rfl rfl rfl (by kernel_rfl) Try.func11 (by kernel_rfl)
    (of_decide_eq_true (by kernel_rfl)) (by unfold Func.isWrapper; first | (rw [if_pos (by decide +kernel)]; kernel_rfl) | (rw [if_neg (by decide +kernel)]; exact ⟨rfl, rfl⟩))
    (fun os started H enc _ => replaySame_lifted os started H enc)
end Go.Proofs.Ytmkcpnklaijkfaa
