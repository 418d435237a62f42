/-
  AtomicTwo, for every image, every list of entries and every index: the law returns true. No condition.
-/
import Derived.Test.YtmkcpnklaijkfaaAtG
import Derived.Test.YtmkcpnklaijkfaaGA
namespace Go.Proofs.Ytmkcpnklaijkfaa
open Go.ChangeShapes Go.WideShapes Go.ChangeAt Go.RowKit
set_option maxRecDepth 100000 in
set_option maxHeartbeats 6400000 in
theorem atomicTwo_main (m : List Int) (l : List (Int × Int)) (t : Nat) (A : Option Addr) (c : Nat) (B : Option Addr) (d : Nat) (w : World) (hA : Sl w A m.length c (fU m)) (hB : Sl w B l.length d (fE l)) (_ : WfU m) (wf : WfE l) (hs : sizeB m.length = true) (hk : chkE l m.length = 0) (htl : t ≤ l.length) :
    Calls Try.prog 18 #[.slice A m.length c, .slice B l.length d, .int .i64 t] w fun e w' => e = .returned (.bool true) ∧ Ext w w' := by
  have hsz := sizeB_bd hs
  have hi : imgE (m.length : Int) = 0 := by simp [imgE, hs]
  have h24 := cl_24 hs
  have hk2 := cl_chk hk
  have hxl := cl_len m
  have hBle := hB.le
  obtain ⟨x, hx⟩ : ∃ x, m.set 24 0 = x := ⟨_, rfl⟩
  rw [hx] at h24 hk2 hxl
  have h1 : ∀ W, Sl W A m.length c (fU m) → Calls Try.prog 62 #[.slice A m.length c] W (RetOwn W 24 1 x.length (fU x)) := fun W ha => by
    rw [hxl, ← hx]; exact clean_any m A c W ha hs
  obtain ⟨P, hPx⟩ : ∃ P, l.take t = P := ⟨_, rfl⟩
  obtain ⟨R, hRx⟩ : ∃ P, l.drop t = P := ⟨_, rfl⟩
  have hPl : P.length = t := by rw [← hPx]; simp; omega
  have hRl : R.length = l.length - t := by rw [← hRx]; simp
  have hPk : chkE P x.length = 0 := by rw [← hPx]; exact chk_sub hk2 (List.take_sublist t l)
  have hPw : WfE P := fun x hx => wf x (List.mem_of_mem_take (hPx ▸ hx))
  have hRw : WfE R := fun x hx => wf x (List.mem_of_mem_drop (hRx ▸ hx))
  obtain ⟨D, hD⟩ : ∃ D, (if d = t then B else B.map (·.add (t * 2))) = D := ⟨_, rfl⟩
  have hsP : Sl w B t d (fE P) := by
    have := hB.e_take htl
    rwa [List.length_take, Nat.min_eq_left htl, hPx] at this
  have hsR : Sl w D (l.length - t) (d - t) (fE R) := by
    have := hB.e_drop htl
    rwa [hD, List.length_drop, hRx] at this
  have dv : ∀ y : List Int, y.length = x.length → devB y [] (-1) false = true := fun y hy => at_dev (by rw [hy]; exact (chk_iff.1 hk2).1) (by omega) (by omega)
  have h3 := fun A c A2 c2 W (ha : Sl W A x.length c (fU x)) (hq : Sl W A2 ([] : List Dw).length c2 (fD [])) (hb : Sl W B l.length d (fE l)) => aChange_yes (dv x rfl) hk2 (show (wrd x [])[24]? = some 0 from h24) wf A c A2 c2 B d W ha hq hb
  rw [at_free hk2 wf] at h3
  have h4 : ∀ A c A2 c2 W, Sl W A x.length c (fU x) → Sl W A2 ([] : List Dw).length c2 (fD []) → Sl W B t d (fE P) → Calls Try.prog 50 #[.agg #[.slice A x.length c, .slice A2 ([] : List Dw).length c2, .int .i64 (-1), .bool false], .slice B t d] W (RetV W (chX x P, [], -1, false) 0) := fun A c A2 c2 W ha hq hb => by
    have := aChange_yes (dv x rfl) hPk (show (wrd x [])[24]? = some 0 from h24) hPw A c A2 c2 B d W ha hq (by rw [hPl]; exact hb)
    rw [at_free hPk hPw, hPl] at this
    exact this
  have hXo := chX_out hk2 h24
  have hYo := chX_out hPk h24
  have hXl : (chX x l).length = x.length := hXo.1.trans (applied_length ..)
  have hYl : (chX x P).length = x.length := hYo.1.trans (applied_length ..)
  have hRk : chkE R (chX x P).length = 0 := by rw [hYl, ← hRx]; exact chk_sub hk2 (List.drop_sublist t l)
  have h5 : ∀ A c A2 c2 W, Sl W A (chX x P).length c (fU (chX x P)) → Sl W A2 ([] : List Dw).length c2 (fD []) → Sl W D (l.length - t) (d - t) (fE R) → Calls Try.prog 50 #[.agg #[.slice A (chX x P).length c, .slice A2 ([] : List Dw).length c2, .int .i64 (-1), .bool false], .slice D (l.length - t) (d - t)] W (RetV W (chX (chX x P) R, [], -1, false) 0) := fun A c A2 c2 W ha hq hb => by
    have := aChange_yes (dv _ hYl) hRk (show (wrd (chX x P) [])[24]? = some 0 from hYo.2.1) hRw A c A2 c2 D (d - t) W ha hq (by rw [hRl]; exact hb)
    rw [at_free hRk hRw, hRl] at this
    exact this
  have hZo := chX_out hRk hYo.2.1
  have hZl : (chX (chX x P) R).length = x.length := (hZo.1.trans (applied_length ..)).trans hYl
  have hout : Out (chX x l) (chX (chX x P) R) := by
    refine hXo.trans (Out.symm (hZo.trans ?_))
    have := Out.app hRk hYo
    have e : applied (applied x P) R = applied x l := by rw [← applied_append, ← hPx, ← hRx, List.take_append_drop]
    rw [e] at this
    exact this
  have h6 := fun A c B d W (ha : Sl W A (chX x l).length c (fU (chX x l))) (hb : Sl W B (chX (chX x P) R).length d (fU (chX (chX x P) R))) => outside_at (hZl.trans hXl.symm) (by rw [hXl, hxl]; omega) hout.2.1 hout.2.2.1 A c B d W ha hb
  rw [hout.b] at h6
  obtain ⟨Z, hZ⟩ : ∃ X, chX (chX x P) R = X := ⟨_, rfl⟩
  rw [hZ] at h5 h6
  obtain ⟨Y, hY⟩ : ∃ X, chX x P = X := ⟨_, rfl⟩
  rw [hY] at h4 h5
  obtain ⟨X, hX0⟩ : ∃ X, chX x l = X := ⟨_, rfl⟩
  rw [hX0] at h3 h6
  obtain ⟨q0, hq0⟩ : ∃ q : List Dw, [] = q := ⟨_, rfl⟩
  have hn0 : ∀ W, Sl W none q0.length 0 (fD q0) := fun W => by rw [← hq0]; exact Sl.nil_ W
  have hq0l : q0.length = 0 := by rw [← hq0]; rfl
  rw [hq0] at h3 h4 h5
  have hK8 := fun W (hb : Sl W B l.length d (fE l)) => refCheck8_any l m.length B d W hb
  rw [hk] at hK8
  have HK8 := Lib.hid hK8
  have HH := Lib.hid (And.intro h1 (And.intro h3 (And.intro h4 (And.intro h5 (And.intro h6 (And.intro hn0 hq0l))))))
  have htd : t ≤ d := by omega
  have b1 : decide ((t : Int) < 0) = false := decide_eq_false (by omega)
  have b2 : decide ((l.length : Int) < (t : Int)) = false := decide_eq_false (by omega)
  clear h1 h3 h4 h5 h6 hn0 hq0l hK8 hq0 hX0 hY hZ hout hZl hZo hRk hYl hXl hYo hXo dv hPw hRw hPk hPl hRl hPx hRx hxl hk2 h24 hx hsz wf hs hk hBle
  go_enter Try.func18, Try.ntmps18
  go_wp2_with fail
  refine (refCheck2_any _ _ _ _).mono ?_
  rintro e w1 ⟨rfl, rfl⟩
  go_wp2_with fail
  refine (HK8.out w hB).mono ?_
  rintro e w1 ⟨rfl, hd1⟩
  have hX : Ext w w1 := hd1.ext
  clear hd1
  go_wp2_with fail
  refine (HH.out.1 w1 (hA.ext hX)).mono ?_
  rintro e w2 ⟨A2, c2, rfl, -, hA2, hx2⟩
  replace hX := hX.trans hx2
  have hBl := hB.ext hX
  replace hsP := hsP.ext hX
  replace hsR := hsR.ext hX
  clear hx2 hA hB
  have hD0 := DV.new w2 x q0 (-1) false A2 c2 none 0 46 hA2 (HH.out.2.2.2.2.2.1 _)
  have loD := hX.size
  replace hBl := hBl.alloc (Obj.cells #[.slice A2 x.length c2, .slice none q0.length 0, .int .i64 (-1), .bool false] 46)
  replace hsP := hsP.alloc (Obj.cells #[.slice A2 x.length c2, .slice none q0.length 0, .int .i64 (-1), .bool false] 46)
  replace hsR := hsR.alloc (Obj.cells #[.slice A2 x.length c2, .slice none q0.length 0, .int .i64 (-1), .bool false] 46)
  replace hX := hX.alloc (Obj.cells #[.slice A2 x.length c2, .slice none q0.length 0, .int .i64 (-1), .bool false] 46)
  rw [HH.out.2.2.2.2.2.2] at hD0 hBl hsP hsR hX
  go_upto_region 4 with fail
  obtain ⟨W3, hW3⟩ : ∃ W, W = w2.alloc (Obj.cells #[.slice A2 x.length c2, .slice none 0 0, .int .i64 (-1), .bool false] 46) := ⟨_, rfl⟩
  obtain ⟨gD, hgD⟩ : ∃ g, w2.heap.size = g := ⟨_, rfl⟩
  rw [← hW3] at hD0 hBl hsP hsR hX ⊢
  rw [hgD] at hD0 loD ⊢
  clear hW3 hgD hA2
  have HDQ := Lib.hid hD
  have hD' := hD
  clear hD
  have hD := hD0
  clear hD0
  obtain ⟨AD, cD, BD, dD, bD, sD, tD⟩ := hD
  obtain ⟨b0, b1, b2, b3, bf, bl⟩ := bD
  go_wp2_with fail
  refine (HH.out.2.1 AD cD BD dD W3 sD tD hBl).mono ?_
  rintro e W101 ⟨AZ1, cZ1, BZ1, dZ1, rfl, sZ1, tZ1, hxx⟩
  have hD := DV.mk (Box4.mk b0 b1 b2 b3 bf bl) sD tD
  clear b0 b1 b2 b3 bf bl
  go_upto_region 5 with fail
  have hZ1 := DV.new W101 X q0 ((-1)) false AZ1 cZ1 BZ1 dZ1 46 sZ1 tZ1
  have neDZ1 : gD ≠ W101.heap.size := Nat.ne_of_lt (Nat.lt_of_lt_of_le hD.lt hxx.size)
  have loZ1 := Nat.le_trans hX.size hxx.size
  replace hxx := Ext.trans hxx ((Ext.refl W101).alloc (Obj.cells #[.slice AZ1 X.length cZ1, .slice BZ1 q0.length dZ1, .int .i64 (-1), .bool false] 46))
  obtain ⟨W102, hW⟩ : ∃ W, W = W101.alloc (Obj.cells #[.slice AZ1 X.length cZ1, .slice BZ1 q0.length dZ1, .int .i64 (-1), .bool false] 46) := ⟨_, rfl⟩
  obtain ⟨gZ1, hg⟩ : ∃ g, W101.heap.size = g := ⟨_, rfl⟩
  rw [← hW] at hZ1 hxx ⊢
  rw [hg] at hZ1 loZ1 neDZ1 ⊢
  clear hW hg sZ1 tZ1
  replace hD := hD.ext hxx
  replace hBl := hBl.ext hxx
  replace hsP := hsP.ext hxx
  replace hsR := hsR.ext hxx
  replace hX := hX.trans hxx
  clear hxx
  have HZ := Lib.hid (And.intro hZ1 (And.intro (And.intro hBl (And.intro hsP hsR)) hX))
  obtain ⟨AD, cD, BD, dD, ⟨b0, b1, b2, b3, bf, bl⟩, sD, tD⟩ := hD
  clear hZ1 loZ1 hBl hX loD neDZ1
  go_upto_region 5 with fail
  go_region_with (go_at_call 50; refine (HH.out.2.2.1 AD cD BD dD _ (sD.ext (by repeat (first | assumption | exact Ext.refl _ | refine Ext.drewN ?_ _ | refine Ext.drew ?_ | refine Ext.alloc ?_ _ | refine Ext.trans ?_ (by assumption)))) (tD.ext (by repeat (first | assumption | exact Ext.refl _ | refine Ext.drewN ?_ _ | refine Ext.drew ?_ | refine Ext.alloc ?_ _ | refine Ext.trans ?_ (by assumption)))) (hsP.ext (by repeat (first | assumption | exact Ext.refl _ | refine Ext.drewN ?_ _ | refine Ext.drew ?_ | refine Ext.alloc ?_ _ | refine Ext.trans ?_ (by assumption))))).mono ?_; rintro e wn ⟨AU, cU, BU, dU, rfl, sU, tU, hxx⟩; (first | (refine (have hz : Box4 wn W102.heap.size (.slice none 0 0) (.slice none 0 0) (.int .i64 0) (.bool false) := ?_; ?_); exact Box4.ext (Box4.new W102 _ _ _ _ _) (Ext.trans (Ext.drew (Ext.refl _)) hxx); obtain ⟨z0, z1, z2, z3, zf, zl⟩ := hz; have zf0 := zf 0; have zf1 := zf 1; have zf2 := zf 2; have zf3 := zf 3) | skip))
  all_goals
    first
      | (refine (have hz : DV (wn.alloc (Obj.cells #[.slice AU Y.length cU, .slice BU q0.length dU, .int .i64 (-1), .bool false] 46)) wn.heap.size Y q0 (-1) false ∧ Ext W102 (wn.alloc (Obj.cells #[.slice AU Y.length cU, .slice BU q0.length dU, .int .i64 (-1), .bool false] 46)) ∧ W102.heap.size ≤ wn.heap.size := ?_; ?_)
         · exact ⟨DV.new wn Y q0 (-1) false AU cU BU dU 46 sU tU, (((Ext.refl _).drew).trans hxx).alloc _, (((Ext.refl _).drew).trans hxx).size⟩
         have HU := Lib.hid hz
         clear hz b0 b1 b2 b3 bf bl sD tD hxx sU tU hsP hsR
         go_upto_region 6 with fail
         obtain ⟨W5, hW5⟩ : ∃ W, W = wn.alloc (Obj.cells #[.slice AU Y.length cU, .slice BU q0.length dU, .int .i64 (-1), .bool false] 46) := ⟨_, rfl⟩
         obtain ⟨gU, hgU⟩ : ∃ g, wn.heap.size = g := ⟨_, rfl⟩
         obtain ⟨hU, hxU, lU⟩ := HU.out
         rw [← hW5] at hU hxU ⊢
         rw [hgU] at hU lU ⊢
         clear hW5 hgU HU)
      | (refine (have hz : DV (setB wn W102.heap.size (.slice AU Y.length cU) (.slice BU q0.length dU) (.int .i64 (-1)) (.bool false)) W102.heap.size Y q0 (-1) false ∧ Ext W102 (setB wn W102.heap.size (.slice AU Y.length cU) (.slice BU q0.length dU) (.int .i64 (-1)) (.bool false)) ∧ W102.heap.size ≤ W102.heap.size := ?_; ?_)
         · exact ⟨(DV.mk (q := []) (m := []) (Box4.mk z0 z1 z2 z3 zf zl) (Sl.nil_ _) (Sl.nil_ _)).set sU tU (-1) false, Ext.setB (Ext.trans (Ext.drew ((Ext.refl _).alloc _)) hxx) (Nat.le_refl _) _ _ _ _, Nat.le_refl _⟩
         have HU := Lib.hid hz
         clear hz b0 b1 b2 b3 bf bl sD tD sU tU hsP hsR hxx
         go_upto_region 6 with fail
         clear z0 z1 z2 z3 zf zl zf0 zf1 zf2 zf3
         obtain ⟨W5, hW5⟩ : ∃ W, W = setB wn W102.heap.size (.slice AU Y.length cU) (.slice BU q0.length dU) (.int .i64 (-1)) (.bool false) := ⟨_, rfl⟩
         obtain ⟨gU, hgU⟩ : ∃ g, W102.heap.size = g := ⟨_, rfl⟩
         rw [show ((((wn.setCell ⟨W102.heap.size, 0, none⟩ (.slice AU Y.length cU)).setCell ⟨W102.heap.size, 1, none⟩ (.slice BU q0.length dU)).setCell ⟨W102.heap.size, 2, none⟩ (.int .i64 (-1))).setCell ⟨W102.heap.size, 3, none⟩ (.bool false)) = setB wn W102.heap.size (.slice AU Y.length cU) (.slice BU q0.length dU) (.int .i64 (-1)) (.bool false) from rfl, ← hW5]
         obtain ⟨hU, hxU, -⟩ := HU.out
         rw [← hW5] at hU hxU
         have lU := Nat.le_of_eq hgU
         rw [hgU] at hU ⊢
         clear hW5 hgU HU)
    have hZ1 := HZ.out.1.ext hxU
    have hsR := HZ.out.2.1.2.2.ext hxU
    have hX := HZ.out.2.2.trans hxU
    have loU := Nat.le_trans HZ.out.2.2.size lU
    have neU : gU ≠ gZ1 := by have := HZ.out.1.lt; omega
    have HU := Lib.hid (And.intro hU (And.intro hX loU))
    have HZ1 := Lib.hid hZ1
    obtain ⟨AU1, cU1, BU1, dU1, ⟨b0, b1, b2, b3, bf, bl⟩, sU1, tU1⟩ := hU
    clear hZ1 hX lU hxU
    go_region_with (go_at_call 50; refine (HH.out.2.2.2.1 AU1 cU1 BU1 dU1 _ (sU1.ext (by repeat (first | assumption | exact Ext.refl _ | refine Ext.drewN ?_ _ | refine Ext.drew ?_ | refine Ext.alloc ?_ _ | refine Ext.trans ?_ (by assumption)))) (tU1.ext (by repeat (first | assumption | exact Ext.refl _ | refine Ext.drewN ?_ _ | refine Ext.drew ?_ | refine Ext.alloc ?_ _ | refine Ext.trans ?_ (by assumption)))) (hsR.ext (by repeat (first | assumption | exact Ext.refl _ | refine Ext.drewN ?_ _ | refine Ext.drew ?_ | refine Ext.alloc ?_ _ | refine Ext.trans ?_ (by assumption))))).mono ?_; rintro e wm ⟨A2, c2, B2, d2, rfl, sA2, sB2, hxm⟩; obtain ⟨A9, c9, B9, d9, ⟨y0, y1, y2, y3, yf, yl⟩, -, -⟩ := (HU.out.1.ext (w' := wm) (by repeat (first | assumption | exact Ext.refl _ | refine Ext.drewN ?_ _ | refine Ext.drew ?_ | refine Ext.alloc ?_ _ | refine Ext.trans ?_ (by assumption)))); have yf0 := yf 0; have yf1 := yf 1; have yf2 := yf 2; have yf3 := yf 3)
    all_goals
      have hxx : Ext W5 wm := (by repeat (first | assumption | exact Ext.refl _ | refine Ext.drewN ?_ _ | refine Ext.drew ?_ | refine Ext.alloc ?_ _ | refine Ext.trans ?_ (by assumption)))
      have hD7 := (HU.out.1.ext hxx).set sA2 sB2 (-1) false
      have hE7 := (HZ1.out.ext hxx).far (HU.out.1.ext hxx) (Ne.symm neU) (.slice A2 Z.length c2) (.slice B2 q0.length d2) (.int .i64 (-1)) (.bool false)
      have hX7 := (HU.out.2.1.trans hxx).setB HU.out.2.2 (.slice A2 Z.length c2) (.slice B2 q0.length d2) (.int .i64 (-1)) (.bool false)
      have H7 := Lib.hid (And.intro hD7 (And.intro hE7 hX7))
      clear hD7 hE7 hX7 hxx sA2 sB2 sU1 tU1 hsR b0 b1 b2 b3 bf bl
      go_upto_region 7 with fail
      clear y0 y1 y2 y3 yf yl yf0 yf1 yf2 yf3
      obtain ⟨W7, hW7⟩ : ∃ W, W = setB wm gU (.slice A2 Z.length c2) (.slice B2 q0.length d2) (.int .i64 (-1)) (.bool false) := ⟨_, rfl⟩
      rw [show ((((wm.setCell ⟨gU, 0, none⟩ (.slice A2 Z.length c2)).setCell ⟨gU, 1, none⟩ (.slice B2 q0.length d2)).setCell ⟨gU, 2, none⟩ (.int .i64 (-1))).setCell ⟨gU, 3, none⟩ (.bool false)) = setB wm gU (.slice A2 Z.length c2) (.slice B2 q0.length d2) (.int .i64 (-1)) (.bool false) from rfl, ← hW7]
      obtain ⟨hU, hZ1, hX⟩ := H7.out
      rw [← hW7] at hU hZ1 hX
      clear hW7 H7 HU HZ1
      obtain ⟨AZ, cZ, BZ, dZ, ⟨b0, b1, b2, b3, bf, bl⟩, sZ, tZ⟩ := hZ1
      obtain ⟨AU2, cU2, BU2, dU2, ⟨o0, o1, o2, o3, of, ol⟩, sU2, tU2⟩ := hU
      go_wp2_with fail
      refine (HH.out.2.2.2.2.1 AZ cZ AU2 cU2 W7 sZ sU2).mono ?_
      rintro e w9 ⟨rfl, hx9⟩
      replace hX := hX.trans hx9
      clear b0 b1 b2 b3 bf bl o0 o1 o2 o3 of ol
      go_wp2_with fail
      refine (alive12_any _).mono ?_
      rintro e w10 ⟨rfl, hx10⟩
      go_wp2_with fail
      go_ret
      exact ⟨rfl, hX.trans hx10⟩
set_option maxRecDepth 100000 in
set_option maxHeartbeats 6400000 in
theorem atomicTwo_any (m : List Int) (l : List (Int × Int)) (at0 : Int) (A : Option Addr) (c : Nat) (B : Option Addr) (d : Nat) (w : World) (hA : Sl w A m.length c (fU m)) (hB : Sl w B l.length d (fE l)) (wm : WfU m) (wf : WfE l) :
    Calls Try.prog 18 #[.slice A m.length c, .slice B l.length d, .int .i64 at0] w fun e w' => e = .returned (.bool true) ∧ Ext w w' := by
  have hBm := hB.max
  have hBl := hB.le
  have hAm := hA.max
  have hAl := hA.le
  unfold maxLen at hBm hAm
  by_cases hs : sizeB (m.length : Int) = true
  rotate_left
  · have hi : imgE (m.length : Int) = 8 := by simp [imgE, hs]
    clear hs
    go_enter Try.func18, Try.ntmps18
    go_wp2_with fail
    refine (refCheck2_any _ _ _ _).mono ?_
    rintro e w1 ⟨rfl, rfl⟩
    go_wp2_with fail
    refine (alive12_any _).mono ?_
    rintro e w9 ⟨rfl, hx9⟩
    go_wp2_with fail
    go_ret
    exact ⟨rfl, hx9⟩
  have hi : imgE (m.length : Int) = 0 := by simp [imgE, hs]
  by_cases hk : chkE l m.length = 0
  rotate_left
  · have hb2 : (chkE l m.length != 0) = true := by simpa using hk
    clear hk hs
    go_enter Try.func18, Try.ntmps18
    go_wp2_with fail
    refine (refCheck2_any _ _ _ _).mono ?_
    rintro e w1 ⟨rfl, rfl⟩
    go_wp2_with fail
    refine (refCheck8_any l m.length B d w hB).mono ?_
    rintro e w1 ⟨rfl, hd1⟩
    go_wp2_with fail
    refine (alive12_any _).mono ?_
    rintro e w9 ⟨rfl, hx9⟩
    go_wp2_with fail
    go_ret
    exact ⟨rfl, hd1.ext.trans hx9⟩
  by_cases hr : 0 ≤ at0
  rotate_left
  · have hn : decide (at0 < 0) = true := decide_eq_true (by omega)
    have HK := Lib.hid hk
    clear hr hk hs
    go_enter Try.func18, Try.ntmps18
    go_wp2_with fail
    refine (refCheck2_any _ _ _ _).mono ?_
    rintro e w1 ⟨rfl, rfl⟩
    go_wp2_with fail
    refine (refCheck8_any l m.length B d w hB).mono ?_
    rintro e w1 ⟨rfl, hd1⟩
    rw [HK.out]
    go_wp2_with fail
    refine (alive12_any _).mono ?_
    rintro e w9 ⟨rfl, hx9⟩
    go_wp2_with fail
    go_ret
    exact ⟨rfl, hd1.ext.trans hx9⟩
  have i0 := hr
  clear hr
  by_cases hr : at0 ≤ l.length
  rotate_left
  · have hn : decide ((l.length : Int) < at0) = true := decide_eq_true (by omega)
    have HK := Lib.hid hk
    clear hr hk hs
    go_enter Try.func18, Try.ntmps18
    go_wp2_with fail
    refine (refCheck2_any _ _ _ _).mono ?_
    rintro e w1 ⟨rfl, rfl⟩
    go_wp2_with fail
    refine (refCheck8_any l m.length B d w hB).mono ?_
    rintro e w1 ⟨rfl, hd1⟩
    rw [HK.out]
    go_wp2_with fail
    refine (alive12_any _).mono ?_
    rintro e w9 ⟨rfl, hx9⟩
    go_wp2_with fail
    go_ret
    exact ⟨rfl, hd1.ext.trans hx9⟩
  have i1 := hr
  clear hr
  obtain ⟨t, rfl⟩ : ∃ k : Nat, at0 = (k : Int) := ⟨at0.toNat, by omega⟩
  exact atomicTwo_main m l t A c B d w hA hB wm wf hs hk (by omega)
set_option maxRecDepth 100000 in
theorem atomicTwo_lifted (os : Os) (started : os.Started) (H : Type) (enc : TypeId × Value → H) :
    ReturnsInHanded {} Try.checked os 18 .any (Rows.atomicTwoSpec.pre6 enc Try.prog Try.f18 Rows.atomicTwoRow.domain false) (Rows.atomicTwoSpec.post enc Try.prog Try.f18 false true false false) := by
  refine returnsInHanded_of_change (C := Try.checked) own_knob started (by kernel_rfl) Try.func18
    (ChangeSpec.witness6 (enc := enc) (C := Try.checked) false ⟨#[], #[.slice none 0 0, .slice none 0 0, .int .i64 0], []⟩ 8 (by kernel_rfl) (by kernel_rfl) (by kernel_rfl) (by kernel_rfl)) ?_
  intro W base args ds gs before hval0 hW hcnd _
  have hval : ∀ (j : Nat) t v, Try.f18.params[j]? = some t → args[j]? = some v → Value.okWide Try.prog W .any base t v := hval0
  have hW' := hW
  obtain ⟨p, q, hA0, hV, rfl, hfz, hnd⟩ := hW
  have hA : DataW.TrodAll enc Try.prog W 0 (fun _ => true) true Try.f18.params.toList args.toList ds p := hA0
  rw [Try.params18] at hA hval
  obtain ⟨v0, vs0, d0, ds0, p0, q0, hargs, rfl, rfl, h0, r0⟩ := trodAll_cons hA
  obtain ⟨v1, vs1, d1, ds1, p1, q1, rfl, rfl, rfl, h1, r1⟩ := trodAll_cons r0
  obtain ⟨v2, vs2, d2, ds2, p2, q2, rfl, rfl, rfl, h2, r2⟩ := trodAll_cons r1
  obtain ⟨rfl, rfl, rfl⟩ := trodAll_nil r2
  obtain rfl : args = #[v0, v1, v2] := by cases args; simp_all
  obtain ⟨rfl, rfl⟩ := trodVars_none hV
  obtain ⟨A0, c0, m0, rfl, hS0, wA0⟩ := op_U (hval 0 29 v0 rfl rfl) h0
  obtain ⟨A1, c1, l1, rfl, hS1, wA1⟩ := op_E (hval 1 34 v1 rfl rfl) h1
  obtain ⟨x2, rfl, wx2⟩ := op_i (hval 2 3 v2 rfl rfl) h2
  clear hA0 hval0 hval hA
  refine (atomicTwo_any m0 l1 x2 A0 c0 A1 c1 W hS0 hS1 wA0 wA1).mono fun e W' ⟨he, hx⟩ => ?_
  subst he
  exact ⟨_, rfl, post_law laid_out (by kernel_rfl) hW' rfl rfl rfl Try.underlying4 hx⟩
theorem atomicTwo_holds : Rows.AtomicTwoSaid :=
  OpenClaim.holds_of_wide 18 Try.f18 rfl rfl rfl rfl rfl rfl rfl ⟨rfl, rfl, rfl, rfl, rfl⟩ rfl rfl rfl rfl rfl (by kernel_rfl) Try.func18 (by kernel_rfl)
    (of_decide_eq_true (by kernel_rfl)) (by unfold Func.isWrapper; first | (rw [if_pos (by decide +kernel)]; kernel_rfl) | (rw [if_neg (by decide +kernel)]; exact ⟨rfl, rfl⟩))
    (fun os started H enc _ => atomicTwo_lifted os started H enc)
end Go.Proofs.Ytmkcpnklaijkfaa
