/-
  AtomicNames: the law returns true. No condition.
-/
import Derived.Test.YtmkcpnklaijkfaaAtG
import Derived.Test.YtmkcpnklaijkfaaDV23
import Derived.Deep.RegionHeld3
import Derived.Test.YtmkcpnklaijkfaaGA
namespace Go.Proofs.Ytmkcpnklaijkfaa
open Go.ChangeShapes Go.WideShapes Go.ChangeAt Go.RowKit
theorem set1_cell {w : World} {g : Nat} {v0 v1 v2 v3 : Value} (h : Box4 w g v0 v1 v2 v3) (u1 : Value) (p : Addr) : (w.setCell ⟨g, 1, none⟩ u1).cell? p = (setB w g v0 u1 v2 v3).cell? p := by
  have hb := h.set1 u1
  have hc := h.set4 v0 u1 v2 v3
  by_cases h3 : p = ⟨g, 3, none⟩
  · subst h3; rw [hb.c3]; exact hc.c3.symm
  · by_cases h2 : p = ⟨g, 2, none⟩
    · subst h2; rw [hb.c2]; exact hc.c2.symm
    · by_cases h1 : p = ⟨g, 1, none⟩
      · subst h1; rw [hb.c1]; exact hc.c1.symm
      · by_cases h0 : p = ⟨g, 0, none⟩
        · subst h0; rw [hb.c0]; exact hc.c0.symm
        · rw [cell_other (Ne.symm h1), setB_far (Ne.symm h0) (Ne.symm h1) (Ne.symm h2) (Ne.symm h3)]
theorem DV.set1 {w : World} {g : Nat} {m : List Int} {q q' : List Dw} {l : Int} {n : Bool} {B : Option Addr} {d : Nat} (h : DV w g m q l n) (hB : Sl w B q'.length d (fD q')) :
    DV (w.setCell ⟨g, 1, none⟩ (.slice B q'.length d)) g m q' l n := by
  obtain ⟨A, c, B0, d0, hb, hA, -⟩ := h
  exact ⟨A, c, B, d, hb.set1 _, (hA.setB_U hb _ _ _ _).congr (set1_cell hb _), (hB.setB_D hb _ _ _ _).congr (set1_cell hb _)⟩
theorem Sl.empty {w w' : World} {A : Option Addr} {n c : Nat} (h : Sl w A n c []) : Sl w' A n c [] := ⟨h.le, h.max, h.nil, fun hx => absurd rfl hx⟩
def anF : List Int := (zerosU 256).set 24 64
def anq : List Dw := [(24, 1, false)]
theorem an_f1 : devB (zerosU 256) [] (-1) false = true ∧ chE anF [] (-1) false al10_l = 8 ∧ chE (zerosU 256) anq (-1) false [] = 8 ∧ chE [] [] (-1) false [] = 8 ∧ chE (zerosU 256) [] (-1) false [(30, 0)] = 8 ∧ chE (zerosU 256) [] (-1) false (zerosE 33) = 4 ∧ chE (zerosU 256) [] (-1) false [] = 0 ∧ chE (zerosU 256) [] 0 true [] = 0 ∧ chE anF [] (-1) false [] = 8 := by decide +kernel
theorem an_f2 : chkE al10_l 255 = 2 ∧ chkE [] 256 = 0 ∧ (zerosU 256)[24]? = some 0 ∧ chkE al10_l 256 = 0 ∧ nJ al10_l = 4 ∧ (zerosU 256)[130]? = some 0 ∧ (applied (zerosU 256) al10_l)[130]? = some 5 := by decide +kernel
set_option maxRecDepth 100000 in
set_option maxHeartbeats 6400000 in
theorem atomicNames_any (w : World) : Calls Try.prog 14 #[] w fun e w' => e = .returned (.bool true) ∧ Ext w w' := by
  obtain ⟨a1, a2, a3, a4, a5, a6, a7, a8, a9⟩ := an_f1
  obtain ⟨b1, b2, b3, b4, b5, b6, b7⟩ := an_f2
  have wz : WfU (zerosU 256) := wf_zeros 256
  have wF : WfU anF := wfU_set wz (by unfold InU; decide)
  have w0 : WfD ([] : List Dw) := fun x hx => by cases hx
  have e0 : WfE ([] : List (Int × Int)) := fun x hx => by cases hx
  have e30 : WfE [(30, 0)] := by unfold WfE InI InU; decide
  obtain ⟨mz, hmz⟩ : ∃ m : List Int, [] = m := ⟨_, rfl⟩
  obtain ⟨q0, hq0⟩ : ∃ m : List Dw, [] = m := ⟨_, rfl⟩
  have hn0 : ∀ W, Sl W none q0.length 0 (fD q0) := fun W => by rw [← hq0]; exact Sl.nil_ W
  have hq0l : q0.length = 0 := by rw [← hq0]; rfl
  have hqe : fD q0 = [] := by rw [← hq0]; rfl
  have zv : zeroV = (mz, q0, 0, false) := by rw [← hmz, ← hq0]; rfl
  have bad : ∀ {m : List Int} {q : List Dw} {left : Int} {down : Bool} {l : List (Int × Int)} {er : Int}, WfE l → chE m q left down l = er → er ≠ 0 → ∀ A c B d E f W, Sl W A m.length c (fU m) → Sl W B q.length d (fD q) → Sl W E l.length f (fE l) → Calls Try.prog 50 #[.agg #[.slice A m.length c, .slice B q.length d, .int .i64 left, .bool down], .slice E l.length f] W (RetV W (mz, q0, 0, false) er) := by
    intro m q left down l er wf he hn A c B d E f W ha hb hl
    have := aChange_any m q left down l A c B d E f W ha hb hl wf
    rw [chV, he, if_neg hn, zv] at this
    exact this
  have h5 := bad al10_wf a2 (by decide)
  have h6 := bad e0 a3 (by decide)
  have h7 : ∀ W, Calls Try.prog 50 #[.agg #[.slice none 0 0, .slice none 0 0, .int .i64 (-1), .bool false], .slice none 0 0] W (RetV W (mz, q0, 0, false) 8) := fun W => bad e0 a4 (by decide) none 0 none 0 none 0 W (Sl.nil_ W) (Sl.nil_ W) (Sl.nil_ W)
  have h8 := bad e30 a5 (by decide)
  have h9 : ∀ A c B d E f W, Sl W A (zerosU 256).length c (fU (zerosU 256)) → Sl W B ([] : List Dw).length d (fD []) → Sl W E 33 f (fE (zerosE 33)) → Calls Try.prog 50 #[.agg #[.slice A (zerosU 256).length c, .slice B ([] : List Dw).length d, .int .i64 (-1), .bool false], .slice E 33 f] W (RetV W (mz, q0, 0, false) 4) := fun A c B d E f W ha hb he => by
    have := bad (wf_zerosE 33) a6 (by decide) A c B d E f W ha hb (by rw [zerosE_length]; exact he)
    rw [zerosE_length] at this
    exact this
  have h10 : ∀ A c W, Sl W A 1 c (fE al10_l) → Calls Try.prog 52 #[.slice A 1 c, .int .i64 255] W fun e w' => e = .returned (.tuple #[.int .i64 0, .int .i64 2]) ∧ Ext W w' := fun A c W h => by
    have := aOps_any al10_l 255 A c W h al10_wf
    rw [aoN, b1, if_neg (by decide)] at this
    exact this
  have h11 : ∀ W, Calls Try.prog 52 #[.slice none 0 0, .int .i64 256] W fun e w' => e = .returned (.tuple #[.int .i64 0, .int .i64 0]) ∧ Ext W w' := fun W => by
    have := aOps_any [] 256 none 0 W (Sl.nil_ W) e0
    rw [aoN, b2, if_pos rfl, chN_nil rfl] at this
    exact this
  have h12 : ∀ A c B d W, Sl W A (zerosU 256).length c (fU (zerosU 256)) → Sl W B ([] : List Dw).length d (fD []) → Calls Try.prog 50 #[.agg #[.slice A (zerosU 256).length c, .slice B ([] : List Dw).length d, .int .i64 (-1), .bool false], .slice none 0 0] W (RetV W (zerosU 256, [], -1, false) 0) := fun A c B d W ha hb => by
    have := aChange_any (zerosU 256) [] (-1) false [] A c B d none 0 W ha hb (Sl.nil_ W) e0
    rw [chV, a7, if_pos rfl] at this
    exact this
  have h13 : ∀ A c B d W, Sl W A anF.length c (fU anF) → Sl W B ([] : List Dw).length d (fD []) → Calls Try.prog 37 #[.agg #[.slice A anF.length c, .slice B ([] : List Dw).length d, .int .i64 (-1), .bool false], .slice none 0 0, .int .u64 0] W (RetU W mz 8) := fun A c B d W ha hb => by
    have := aAfter_any anF [] (-1) false [] 0 A c B d none 0 W ha hb (Sl.nil_ W) wF w0 e0 (by unfold InU; decide)
    rw [afL, afE, a9, if_neg (by decide), if_neg (by decide), hmz] at this
    exact this
  have h17 : ∀ A c W, Sl W A (zerosU 256).length c (fU (zerosU 256)) → Calls Try.prog 50 #[.agg #[.slice A (zerosU 256).length c, .slice none 0 0, .int .i64 0, .bool true], .slice none 0 0] W (RetV W (zerosU 256, [], 0, true) 0) := fun A c W ha => by
    have := aChange_any (zerosU 256) [] 0 true [] A c none 0 none 0 W ha (Sl.nil_ W) (Sl.nil_ W) e0
    rw [chV, a8, if_pos rfl] at this
    exact this
  have hk : chkE al10_l (zerosU 256).length = 0 := by rw [zerosU_length]; exact b4
  have haf : ∀ (lf : Nat) (mk v : Int), lf ≤ 1000 → InU mk → (Crs (zerosU 256) al10_l lf mk (afZ (zerosU 256) [] lf false al10_l mk) → Out (imgL (afZ (zerosU 256) [] lf false al10_l mk)) (if v = 0 then zerosU 256 else applied (zerosU 256) al10_l)) → ∃ Y : List Int, Y.length = 256 ∧ Y[130]? = some (if v = 0 then 0 else 5) ∧ ∀ A c E f W, Sl W A (zerosU 256).length c (fU (zerosU 256)) → Sl W E 1 f (fE al10_l) → Calls Try.prog 37 #[.agg #[.slice A (zerosU 256).length c, .slice none 0 0, .int .i64 lf, .bool false], .slice E 1 f, .int .u64 mk] W (RetU W Y 0) := by
    intro lf mk v hl hm ho
    obtain ⟨x1, x2, x3⟩ := af_ok lf mk hk al10_wf b3 (by omega)
    have oo := ho x2
    rw [← x3] at oo
    refine ⟨afL (zerosU 256) [] lf false al10_l mk, ?_, ?_, fun A c E f W ha he => ?_⟩
    · rw [oo.1]; split
      · exact zerosU_length 256
      · rw [applied_length]; exact zerosU_length 256
    · rw [oo.2.2.2 130 (by omega)]; split
      · exact b6
      · exact b7
    · have := aAfter_any (zerosU 256) [] lf false al10_l mk A c none 0 E f W ha (Sl.nil_ W) he wz w0 al10_wf hm
      rw [x1] at this
      exact this
  obtain ⟨Ya, la, va, h14⟩ := haf 5 0 0 (by decide) (by unfold InU; decide) (fun h => by
    rcases h with ⟨g, _⟩ | ⟨_, _, _, g, _⟩ | ⟨g, _⟩
    · rw [b5] at g; omega
    · exact g rfl
    · rw [b5] at g; omega)
  obtain ⟨Yb, lb, vb, h15⟩ := haf 5 18446744073709551615 1 (by decide) (by unfold InU; decide) (fun h => by
    rcases h with ⟨g, _⟩ | ⟨_, _, _, _, g⟩ | ⟨g, _⟩
    · rw [b5] at g; omega
    · exact g rfl
    · rw [b5] at g; omega)
  obtain ⟨Yc, lc, vc, h16⟩ := haf 6 0 0 (by decide) (by unfold InU; decide) (fun h => by
    rcases h with ⟨g, _⟩ | ⟨_, _, _, g, _⟩ | ⟨g, _⟩
    · rw [b5] at g; omega
    · exact g rfl
    · rw [b5] at g; omega)
  rw [if_pos rfl] at va vc
  rw [if_neg (by decide)] at vb
  have hzl : (zerosU 256).length = 256 := zerosU_length 256
  have hfl : anF.length = (zerosU 256).length := List.length_set ..
  obtain ⟨FX, hFX⟩ : ∃ X, anF = X := ⟨_, rfl⟩
  have hset : (zerosU 256).set 24 64 = FX := hFX
  rw [hFX] at h5 h13 hfl
  obtain ⟨Z, hZ⟩ : ∃ X, zerosU 256 = X := ⟨_, rfl⟩
  rw [hZ] at h6 h8 h9 h12 h14 h15 h16 h17 hfl hzl hset
  rw [hq0] at h5 h8 h9 h12 h13 h17
  rw [hzl] at h14 h15 h16 h17
  obtain ⟨qd, hqd⟩ : ∃ q, anq = q := ⟨_, rfl⟩
  have hqdl : qd.length = 1 := by rw [← hqd]; rfl
  have hqdf : ∀ W B d, Sl W B 1 d (fD [(24, 1, false)]) → Sl W B qd.length d (fD qd) := fun W B d h => by rw [← hqd]; exact h
  rw [hqd] at h6
  have htw := fun A c B d W (ha : Sl W A Z.length c (fU Z)) (hb : Sl W B q0.length d (fD q0)) => dRTwin_any Z q0 (-1) false A c B d W ha hb (by rw [hzl]; decide) (by rw [hq0l]; decide)
  have HH := Lib.hid (And.intro h5 (And.intro h6 (And.intro h7 (And.intro h8 (And.intro h9 (And.intro h10 (And.intro h11 (And.intro h12 (And.intro h13 (And.intro h14 (And.intro h15 (And.intro h16 (And.intro h17 htw)))))))))))))
  have HF := Lib.hid (And.intro hzl (And.intro hfl (And.intro hset (And.intro hqdl (And.intro hqdf (And.intro hn0 (And.intro hq0l (And.intro hqe (And.intro hZ (And.intro va (And.intro vb vc)))))))))))
  have ka : ((Ya.length : Int) != 256) = false := by rw [la]; rfl
  have kb : ((Yb.length : Int) != 256) = false := by rw [lb]; rfl
  have kc : ((Yc.length : Int) != 256) = false := by rw [lc]; rfl
  have ja : 130 < Ya.length := by omega
  have jb : 130 < Yb.length := by omega
  have jc : 130 < Yc.length := by omega
  have ia : (130 : Int) < Ya.length := by omega
  have ib : (130 : Int) < Yb.length := by omega
  have ic : (130 : Int) < Yc.length := by omega
  clear a1 a2 a3 a4 a5 a6 a7 a8 a9 b1 b2 b3 b4 b5 b6 b7 wz wF w0 e0 e30 hmz hq0 hn0 hq0l hqe zv bad h5 h6 h7 h8 h9 h10 h11 h12 h13 h14 h15 h16 h17 hk haf la va lb vb lc vc hzl hfl hFX hset hZ hqd hqdl hqdf htw
  go_enter Try.func14, Try.ntmps14
  go_upto_region 3 with (at_make; refine wpList_zeros rfl _ _ rfl 256 (by decide) _ _ _ _ rfl rfl rfl rfl ?_; intro w1 hown hX hz1)
  have hM := own_sl4 hown
  rw [HF.out.2.2.2.2.2.2.2.2.1] at hM
  clear hown
  have hL := Sl.lit' (w := w1) #[.int .i64 130, .int .u64 5] 38 w1.heap.size 1 rfl (by decide)
  replace hM := hM.alloc (Obj.cells #[.int .i64 130, .int .u64 5] 38)
  replace hX := hX.alloc (Obj.cells #[.int .i64 130, .int .u64 5] 38)
  obtain ⟨W2, hW2⟩ : ∃ W, W = w1.alloc (Obj.cells #[.int .i64 130, .int .u64 5] 38) := ⟨_, rfl⟩
  rw [← hW2] at hL hM hX ⊢
  rw [hz1] at hL
  obtain ⟨gL, hgL⟩ : ∃ g, w.heap.size + 1 = g := ⟨_, rfl⟩
  rw [hgL] at hL ⊢
  clear hW2 hgL hz1
  obtain ⟨g, hg⟩ : ∃ g, w.heap.size = g := ⟨_, rfl⟩
  rw [hg] at hM ⊢
  clear hg
  have hD := DV.new W2 Z q0 (-1) false (some ⟨g, 0, none⟩) 256 none 0 46 (by rw [HF.out.1]; exact hM) (HF.out.2.2.2.2.2.1 _)
  have hxx := (Ext.refl W2).alloc (Obj.cells #[.slice (some ⟨g, 0, none⟩) Z.length 256, .slice none q0.length 0, .int .i64 (-1), .bool false] 46)
  have loD := hX.size
  rw [HF.out.1, HF.out.2.2.2.2.2.2.1] at hD hxx
  go_upto_region 4 with fail
  obtain ⟨W3, hW3⟩ : ∃ W, W = W2.alloc (Obj.cells #[.slice (some ⟨g, 0, none⟩) 256 256, .slice none 0 0, .int .i64 (-1), .bool false] 46) := ⟨_, rfl⟩
  obtain ⟨gD, hgD⟩ : ∃ g, W2.heap.size = g := ⟨_, rfl⟩
  rw [← hW3] at hD hxx ⊢
  rw [hgD] at hD loD ⊢
  clear hW3 hgD
  replace hX := hX.trans hxx
  replace hM := hM.ext hxx
  replace hL := hL.ext hxx
  clear hxx
  obtain ⟨AD, cD, BD, dD, ⟨b0, b1, b2, b3, bf, bl⟩, sD, tD⟩ := hD
  go_wp2_with fail
  refine (HH.out.2.2.2.2.2.2.2.2.2.2.2.2.2 AD cD BD dD W3 sD tD).mono ?_
  rintro e w4 ⟨AF, cF, BF, dF, rfl, oF, pF, hx4⟩
  obtain ⟨gF, rfl, hgF⟩ := own_head oF (by show 0 < Z.length; rw [HF.out.1]; decide)
  obtain ⟨y, -, c0, cf⟩ := own_at_U oF (i := 24) (by show 24 < Z.length; rw [HF.out.1]; decide)
  have hgl := block_lt_of_cell c0
  have hZ24 : (24 : Int) < Z.length := by rw [HF.out.1]; decide
  have hb := Box4.new w4 (.slice (some ⟨gF, 0, none⟩) Z.length cF) (.slice BF q0.length dF) (.int .i64 (-1)) (.bool false) 46
  have hF := DV.mk (m := FX) (q := q0) (by rw [HF.out.2.1]; exact hb.far (p := ⟨gF, 24, none⟩) (Nat.ne_of_lt hgl) (.int .u64 64)) (by
    have := own_sl (own_set_U (own_ext oF ((Ext.refl w4).alloc (Obj.cells #[.slice (some ⟨gF, 0, none⟩) Z.length cF, .slice BF q0.length dF, .int .i64 (-1), .bool false] 46))) 24 64)
    rw [HF.out.2.1]
    rw [← HF.out.2.2.1]
    exact this) (by have := own_sl pF; rw [HF.out.2.2.2.2.2.2.2.1] at this ⊢; exact this.empty)
  have hxx := ((hx4.alloc (Obj.cells #[.slice (some ⟨gF, 0, none⟩) Z.length cF, .slice BF q0.length dF, .int .i64 (-1), .bool false] 46)).setCell (p := ⟨gF, 24, none⟩) hgF (.int .u64 64))
  have hD := (DV.mk (Box4.mk b0 b1 b2 b3 bf bl) sD tD).ext hxx
  replace hX := hX.trans hxx
  replace hM := hM.ext hxx
  replace hL := hL.ext hxx
  have neDF : gD ≠ w4.heap.size := Nat.ne_of_lt (Nat.lt_of_lt_of_le bl hx4.size)
  clear hxx b0 b1 b2 b3 bf bl sD tD oF pF hb hx4
  go_upto_region 6 with fail
  have hsw : (w4.alloc (Obj.cells #[.slice (some ⟨gF, 0, none⟩) Z.length cF, .slice BF q0.length dF, .int .i64 (-1), .bool false] 46)).setCell ⟨gF, 24, none⟩ (.int .u64 64) = (w4.setCell ⟨gF, 24, none⟩ (.int .u64 64)).alloc (Obj.cells #[.slice (some ⟨gF, 0, none⟩) Z.length cF, .slice BF q0.length dF, .int .i64 (-1), .bool false] 46) := World.setCell_alloc_past _ _ _ _ hgl
  rw [hsw] at hF hD hX hM hL
  clear c0 cf hgl hsw
  obtain ⟨W5, hW5⟩ : ∃ W, W = (w4.setCell ⟨gF, 24, none⟩ (.int .u64 64)).alloc (Obj.cells #[.slice (some ⟨gF, 0, none⟩) Z.length cF, .slice BF q0.length dF, .int .i64 (-1), .bool false] 46) := ⟨_, rfl⟩
  obtain ⟨gQ, hgQ⟩ : ∃ g, w4.heap.size = g := ⟨_, rfl⟩
  rw [← hW5] at hF hD hX hM hL ⊢
  rw [hgQ] at hF neDF ⊢
  clear hW5 hgQ
  have hQ := hF
  clear hF
  obtain ⟨AD1, cD1, BD1, dD1, ⟨b0, b1, b2, b3, bf, bl⟩, sD, tD⟩ := hD
  go_wp2_with fail
  refine (HH.out.2.2.2.2.2.2.2.2.2.2.2.2.2 AD1 cD1 BD1 dD1 W5 sD tD).mono ?_
  rintro e w6 ⟨AT, cT, BT, dT, rfl, oT, pT, hx6⟩
  have hT := DV.new w6 Z q0 (-1) false AT cT BT dT 46 (own_sl oT) (own_sl pT)
  have hxx := hx6.alloc (Obj.cells #[.slice AT Z.length cT, .slice BT q0.length dT, .int .i64 (-1), .bool false] 46)
  have hD := DV.mk (Box4.mk b0 b1 b2 b3 bf bl) sD tD
  have loT := hx6.size
  clear b0 b1 b2 b3 bf bl sD tD oT pT hx6
  go_upto_region 7 with fail
  obtain ⟨W7, hW7⟩ : ∃ W, W = w6.alloc (Obj.cells #[.slice AT Z.length cT, .slice BT q0.length dT, .int .i64 (-1), .bool false] 46) := ⟨_, rfl⟩
  obtain ⟨gT, hgT⟩ : ∃ g, w6.heap.size = g := ⟨_, rfl⟩
  rw [← hW7] at hT hxx ⊢
  rw [hgT] at hT loT ⊢
  clear hW7 hgT
  have hqd := Sl.lit' (w := W7) #[.int .i64 24, .int .u64 1, .bool false] 88 W7.heap.size 1 rfl (by decide)
  have hT8 := (hT.ext ((Ext.refl W7).alloc (Obj.cells #[.int .i64 24, .int .u64 1, .bool false] 88))).set1 (HF.out.2.2.2.2.1 _ _ _ hqd)
  have hx8 := (hxx.alloc (Obj.cells #[.int .i64 24, .int .u64 1, .bool false] 88)).setCell (p := ⟨gT, 1, none⟩) loT (.slice (some ⟨W7.heap.size, 0, none⟩) qd.length 1)
  obtain ⟨AT1, cT1, BT1, dT1, ⟨b0, b1, b2, b3, bf, bl⟩, -, -⟩ := hT
  rw [HF.out.2.2.2.1] at hT8 hx8
  have hsw : (W7.alloc (Obj.cells #[.int .i64 24, .int .u64 1, .bool false] 88)).setCell ⟨gT, 1, none⟩ (.slice (some ⟨W7.heap.size, 0, none⟩) 1 1) = (W7.setCell ⟨gT, 1, none⟩ (.slice (some ⟨W7.heap.size, 0, none⟩) 1 1)).alloc (Obj.cells #[.int .i64 24, .int .u64 1, .bool false] 88) := World.setCell_alloc_past _ _ _ _ bl
  rw [hsw] at hT8 hx8
  clear hqd hxx hsw
  go_upto_region 8 with fail
  clear b0 b1 b2 b3 bf bl
  obtain ⟨W8, hW8⟩ : ∃ W, W = (W7.setCell ⟨gT, 1, none⟩ (.slice (some ⟨W7.heap.size, 0, none⟩) 1 1)).alloc (Obj.cells #[.int .i64 24, .int .u64 1, .bool false] 88) := ⟨_, rfl⟩
  rw [← hW8] at hT8 hx8 ⊢
  clear hW8
  have hT := hT8
  replace hQ := hQ.ext hx8
  replace hD := hD.ext hx8
  replace hX := hX.trans hx8
  replace hM := hM.ext hx8
  replace hL := hL.ext hx8
  clear hT8 hx8
  obtain ⟨AQ, cQ, BQ, dQ, bQ, sQ, tQ⟩ := hQ
  obtain ⟨b0, b1, b2, b3, bf, bl⟩ := bQ
  go_wp2_with fail
  refine (HH.out.1 AQ cQ BQ dQ (some ⟨gL, 0, none⟩) 1 W8 sQ tQ hL).mono ?_
  rintro e W101 ⟨AR, cR, BR, dR, rfl, sR, tR, hxx⟩
  have hQ := DV.mk (Box4.mk b0 b1 b2 b3 bf bl) sQ tQ
  clear b0 b1 b2 b3 bf bl
  go_upto_region 9 with fail
  have hR := DV.new W101 mz q0 0 false AR cR BR dR 46 sR tR
  have neDR : gD ≠ W101.heap.size := Nat.ne_of_lt (Nat.lt_of_lt_of_le hD.lt hxx.size)
  have neQR : gQ ≠ W101.heap.size := Nat.ne_of_lt (Nat.lt_of_lt_of_le hQ.lt hxx.size)
  have neTR : gT ≠ W101.heap.size := Nat.ne_of_lt (Nat.lt_of_lt_of_le hT.lt hxx.size)
  have loR := Nat.le_trans hX.size hxx.size
  replace hxx := Ext.trans hxx ((Ext.refl W101).alloc (Obj.cells #[.slice AR mz.length cR, .slice BR q0.length dR, .int .i64 0, .bool false] 46))
  obtain ⟨W102, hW⟩ : ∃ W, W = W101.alloc (Obj.cells #[.slice AR mz.length cR, .slice BR q0.length dR, .int .i64 0, .bool false] 46) := ⟨_, rfl⟩
  obtain ⟨gR, hg⟩ : ∃ g, W101.heap.size = g := ⟨_, rfl⟩
  rw [← hW] at hR hxx ⊢
  rw [hg] at hR loR neDR neQR neTR ⊢
  clear hW hg sR tR
  replace hD := hD.ext hxx
  replace hQ := hQ.ext hxx
  replace hT := hT.ext hxx
  replace hM := hM.ext hxx
  replace hL := hL.ext hxx
  replace hX := hX.trans hxx
  clear hxx
  clear hR loR neDR neQR neTR
  obtain ⟨AT, cT, BT, dT, bT, sT, tT⟩ := hT
  obtain ⟨b0, b1, b2, b3, bf, bl⟩ := bT
  go_wp2_with fail
  refine (HH.out.2.1 AT cT BT dT none 0 W102 sT tT (Sl.nil_ _)).mono ?_
  rintro e W103 ⟨AR, cR, BR, dR, rfl, sR, tR, hxx⟩
  have hT := DV.mk (Box4.mk b0 b1 b2 b3 bf bl) sT tT
  clear b0 b1 b2 b3 bf bl
  go_upto_region 10 with fail
  have hR := DV.new W103 mz q0 0 false AR cR BR dR 46 sR tR
  have neDR : gD ≠ W103.heap.size := Nat.ne_of_lt (Nat.lt_of_lt_of_le hD.lt hxx.size)
  have neQR : gQ ≠ W103.heap.size := Nat.ne_of_lt (Nat.lt_of_lt_of_le hQ.lt hxx.size)
  have neTR : gT ≠ W103.heap.size := Nat.ne_of_lt (Nat.lt_of_lt_of_le hT.lt hxx.size)
  have loR := Nat.le_trans hX.size hxx.size
  replace hxx := Ext.trans hxx ((Ext.refl W103).alloc (Obj.cells #[.slice AR mz.length cR, .slice BR q0.length dR, .int .i64 0, .bool false] 46))
  obtain ⟨W104, hW⟩ : ∃ W, W = W103.alloc (Obj.cells #[.slice AR mz.length cR, .slice BR q0.length dR, .int .i64 0, .bool false] 46) := ⟨_, rfl⟩
  obtain ⟨gR, hg⟩ : ∃ g, W103.heap.size = g := ⟨_, rfl⟩
  rw [← hW] at hR hxx ⊢
  rw [hg] at hR loR neDR neQR neTR ⊢
  clear hW hg sR tR
  replace hD := hD.ext hxx
  replace hQ := hQ.ext hxx
  replace hT := hT.ext hxx
  replace hM := hM.ext hxx
  replace hL := hL.ext hxx
  replace hX := hX.trans hxx
  clear hxx
  clear hR loR neDR neQR neTR hT
  go_wp2_with fail
  refine (HH.out.2.2.1 W104).mono ?_
  rintro e W105 ⟨AR, cR, BR, dR, rfl, sR, tR, hxx⟩
  go_upto_region 11 with fail
  have hR := DV.new W105 mz q0 0 false AR cR BR dR 46 sR tR
  have neDR : gD ≠ W105.heap.size := Nat.ne_of_lt (Nat.lt_of_lt_of_le hD.lt hxx.size)
  have neQR : gQ ≠ W105.heap.size := Nat.ne_of_lt (Nat.lt_of_lt_of_le hQ.lt hxx.size)
  have loR := Nat.le_trans hX.size hxx.size
  replace hxx := Ext.trans hxx ((Ext.refl W105).alloc (Obj.cells #[.slice AR mz.length cR, .slice BR q0.length dR, .int .i64 0, .bool false] 46))
  obtain ⟨W106, hW⟩ : ∃ W, W = W105.alloc (Obj.cells #[.slice AR mz.length cR, .slice BR q0.length dR, .int .i64 0, .bool false] 46) := ⟨_, rfl⟩
  obtain ⟨gR, hg⟩ : ∃ g, W105.heap.size = g := ⟨_, rfl⟩
  rw [← hW] at hR hxx ⊢
  rw [hg] at hR loR neDR neQR ⊢
  clear hW hg sR tR
  replace hD := hD.ext hxx
  replace hQ := hQ.ext hxx
  replace hM := hM.ext hxx
  replace hL := hL.ext hxx
  replace hX := hX.trans hxx
  clear hxx
  clear hR loR neDR neQR
  obtain ⟨AD2, cD2, BD2, dD2, ⟨b0, b1, b2, b3, bf, bl⟩, sD, tD⟩ := hD
  go_wp2_with fail
  refine (HH.out.2.2.2.1 AD2 cD2 BD2 dD2 (some ⟨_, 0, none⟩) 1 _ (sD.alloc _) (tD.alloc _) (Sl.lit' _ _ _ 1 rfl (by decide))).mono ?_
  rintro e w11 ⟨A9, c9, B9, d9, rfl, s9, t9, hxx0⟩
  have hD := DV.mk (Box4.mk b0 b1 b2 b3 bf bl) sD tD
  have hxx : Ext W106 (w11.alloc (Obj.cells #[.slice A9 mz.length c9, .slice B9 q0.length d9, .int .i64 0, .bool false] 46)) := (((Ext.refl _).alloc _).trans hxx0).alloc _
  clear b0 b1 b2 b3 bf bl sD tD hxx0 s9 t9
  go_upto_region 12 with fail
  obtain ⟨W11, hW11⟩ : ∃ W, W = w11.alloc (Obj.cells #[.slice A9 mz.length c9, .slice B9 q0.length d9, .int .i64 0, .bool false] 46) := ⟨_, rfl⟩
  rw [← hW11] at hxx ⊢
  clear hW11
  replace hD := hD.ext hxx
  replace hQ := hQ.ext hxx
  replace hM := hM.ext hxx
  replace hL := hL.ext hxx
  replace hX := hX.trans hxx
  clear hxx
  have HD := Lib.hid hD
  obtain ⟨AD3, cD3, BD3, dD3, hbx, sD, tD⟩ := hD
  have HBX := Lib.hid hbx
  obtain ⟨b0, b1, b2, b3, bf, bl⟩ := hbx
  obtain ⟨MC, hMC⟩ : ∃ MC : Array Value, madeCells #[Value.int .i64 0, Value.int .u64 0] 66 = MC := ⟨_, rfl⟩
  have hmk : ∀ w : World, (Instr.makeSlice 34 (.int .i64 33) (.int .i64 33)).run Try.prog w = .ok (.slice (some ⟨w.heap.size, 0, none⟩) 33 33) (w.alloc (.cells MC 38)) := fun w => by
    obtain ⟨i, hi, hz, hs, hb⟩ := info_parts (show (Try.prog.info? 38).map (fun i => (i.zero, i.size, i.bytes)) = some (some (.agg #[.int .i64 0, .int .u64 0]), 2, 16) by kernel_rfl)
    have hr := run_make (P := Try.prog) w 34 38 i (.agg #[.int .i64 0, .int .u64 0]) Try.underlying34 hi hz .i64 .i64 33 33 (by decide) (by decide) (by rw [hb]; decide) (by decide)
    rw [hr, hs, ← hMC]
    rfl
  have hMl : MC.toList = fE (zerosE 33) := by rw [← hMC]; exact madeE 33
  have HMC := Lib.hid (fun w : World => show Sl (w.alloc (.cells MC 38)) (some ⟨w.heap.size, 0, none⟩) 33 33 (fE (zerosE 33)) by rw [← hMl]; exact Sl.lit' MC 38 w.heap.size 33 rfl (by decide))
  clear hMC hMl
  have n1 : gD ≠ W11.heap.size + 1 := by omega
  have n2 : W11.heap.size + 1 ≠ gD := by omega
  have n3 : gD ≠ W11.heap.size := by omega
  have n4 : W11.heap.size ≠ gD := by omega
  go_region_held3 (fun w' => w'.cell? ⟨gD, 0, none⟩ = some (.slice AD3 Z.length cD3) ∧ w'.cell? ⟨gD, 1, none⟩ = some (.slice BD3 q0.length dD3) ∧ w'.cell? ⟨gD, 2, none⟩ = some (.int .i64 (-1)) ∧ w'.cell? ⟨gD, 3, none⟩ = some (.bool false)) (go_keep) ((go_at_call 50; refine (HH.out.2.2.2.2.1 AD3 cD3 BD3 dD3 _ _ _ (sD.ext (by repeat (first | assumption | exact Ext.refl _ | refine Ext.drewN ?_ _ | refine Ext.drew ?_ | refine Ext.alloc ?_ _ | refine Ext.trans ?_ (by assumption)))) (tD.ext (by repeat (first | assumption | exact Ext.refl _ | refine Ext.drewN ?_ _ | refine Ext.drew ?_ | refine Ext.alloc ?_ _ | refine Ext.trans ?_ (by assumption)))) (by first | exact (HMC.out W11).drew | exact ((HMC.out W11).alloc _).drew | simpa using (HMC.out (W11.alloc _)).drew)).mono ?_; rintro e wn ⟨A7, c7, B7, d7, rfl, s7, t7, hxx⟩; obtain ⟨y0, y1, y2, y3, yf, yl⟩ := HBX.out.ext (w' := wn) (by repeat (first | assumption | exact Ext.refl _ | refine Ext.drewN ?_ _ | refine Ext.drew ?_ | refine Ext.alloc ?_ _ | refine Ext.trans ?_ (by assumption))); (first | (refine (have hz : Box4 wn (W11.heap.size + 1) (.slice none 0 0) (.slice none 0 0) (.int .i64 0) (.bool false) := ?_; ?_); exact Box4.ext (Box4.new' (W11.alloc _) _ (by simp) _ _ _ _ _) (Ext.trans (Ext.drew (Ext.refl _)) hxx); obtain ⟨z0, z1, z2, z3, zf, zl⟩ := hz; have zf0 := zf 0; have zf1 := zf 1; have zf2 := zf 2; have zf3 := zf 3) | (refine (have hz : Box4 wn W11.heap.size (.slice none 0 0) (.slice none 0 0) (.int .i64 0) (.bool false) := ?_; ?_); exact Box4.ext ((Box4.new' W11 _ rfl _ _ _ _ _).alloc _) (Ext.trans (Ext.drew (Ext.refl _)) hxx); obtain ⟨z0, z1, z2, z3, zf, zl⟩ := hz; have zf0 := zf 0; have zf1 := zf 1; have zf2 := zf 2; have zf3 := zf 3) | skip)))
  all_goals
    first
      | (refine (have hxy : Ext W11 (wn.alloc (Obj.cells #[.slice A7 mz.length c7, .slice B7 q0.length d7, .int .i64 0, .bool false] 46)) := ?_; ?_)
         · exact ((((Ext.refl W11).alloc _).drew).trans hxx).alloc _
         have HXY := Lib.hid hxy
         clear hxy
         go_upto_region 13 with fail
         have hxy := HXY.out
         obtain ⟨W12, hW12⟩ : ∃ W, W = wn.alloc (Obj.cells #[.slice A7 mz.length c7, .slice B7 q0.length d7, .int .i64 0, .bool false] 46) := ⟨_, rfl⟩
         rw [← hW12] at hxy ⊢
         clear hW12 HXY)
      | (refine (have hxy : Ext W11 (setB wn (W11.heap.size + 1) (.slice A7 mz.length c7) (.slice B7 q0.length d7) (.int .i64 0) (.bool false)) := ?_; ?_)
         · exact Ext.setB (((((Ext.refl W11).alloc _).alloc _).drew).trans hxx) (by omega) _ _ _ _
         have HXY := Lib.hid hxy
         clear hxy
         go_upto_region 13 with fail
         have hxy := HXY.out
         obtain ⟨W12, hW12⟩ : ∃ W, W = setB wn (W11.heap.size + 1) (.slice A7 mz.length c7) (.slice B7 q0.length d7) (.int .i64 0) (.bool false) := ⟨_, rfl⟩
         rw [show ((((wn.setCell ⟨(W11.heap.size + 1), 0, none⟩ (.slice A7 mz.length c7)).setCell ⟨(W11.heap.size + 1), 1, none⟩ (.slice B7 q0.length d7)).setCell ⟨(W11.heap.size + 1), 2, none⟩ (.int .i64 0)).setCell ⟨(W11.heap.size + 1), 3, none⟩ (.bool false)) = setB wn (W11.heap.size + 1) (.slice A7 mz.length c7) (.slice B7 q0.length d7) (.int .i64 0) (.bool false) from rfl, ← hW12]
         rw [← hW12] at hxy
         clear hW12 HXY)
      | (refine (have hxy : Ext W11 (setB wn W11.heap.size (.slice A7 mz.length c7) (.slice B7 q0.length d7) (.int .i64 0) (.bool false)) := ?_; ?_)
         · exact Ext.setB (((((Ext.refl W11).alloc _).alloc _).drew).trans hxx) (by omega) _ _ _ _
         have HXY := Lib.hid hxy
         clear hxy
         go_upto_region 13 with fail
         have hxy := HXY.out
         obtain ⟨W12, hW12⟩ : ∃ W, W = setB wn W11.heap.size (.slice A7 mz.length c7) (.slice B7 q0.length d7) (.int .i64 0) (.bool false) := ⟨_, rfl⟩
         rw [show ((((wn.setCell ⟨W11.heap.size, 0, none⟩ (.slice A7 mz.length c7)).setCell ⟨W11.heap.size, 1, none⟩ (.slice B7 q0.length d7)).setCell ⟨W11.heap.size, 2, none⟩ (.int .i64 0)).setCell ⟨W11.heap.size, 3, none⟩ (.bool false)) = setB wn W11.heap.size (.slice A7 mz.length c7) (.slice B7 q0.length d7) (.int .i64 0) (.bool false) from rfl, ← hW12]
         rw [← hW12] at hxy
         clear hW12 HXY)
    clear y0 y1 y2 y3 yf yl b0 b1 b2 b3 bf bl sD tD n1 n2 n3 n4 hmk HMC HBX
    have hD := HD.out.ext hxy
    replace hQ := hQ.ext hxy
    replace hM := hM.ext hxy
    replace hL := hL.ext hxy
    replace hX := hX.trans hxy
    clear hxy HD
    go_wp2_with fail
    refine (HH.out.2.2.2.2.2.1 _ 1 W12 hL).mono ?_
    rintro e W101 ⟨rfl, hxx⟩
    replace hD := hD.ext hxx
    replace hQ := hQ.ext hxx
    replace hM := hM.ext hxx
    replace hL := hL.ext hxx
    replace hX := hX.trans hxx
    clear hxx
    go_wp2_with fail
    refine (HH.out.2.2.2.2.2.2.1 W101).mono ?_
    rintro e W102 ⟨rfl, hxx⟩
    replace hD := hD.ext hxx
    replace hQ := hQ.ext hxx
    replace hM := hM.ext hxx
    replace hL := hL.ext hxx
    replace hX := hX.trans hxx
    clear hxx
    obtain ⟨AD, cD, BD, dD, bD, sD, tD⟩ := hD
    obtain ⟨b0, b1, b2, b3, bf, bl⟩ := bD
    go_wp2_with fail
    refine (HH.out.2.2.2.2.2.2.2.1 AD cD BD dD W102 sD tD).mono ?_
    rintro e W103 ⟨AS, cS, BS, dS, rfl, sS, tS, hxx⟩
    have hD := DV.mk (Box4.mk b0 b1 b2 b3 bf bl) sD tD
    clear b0 b1 b2 b3 bf bl
    go_upto_region 16 with fail
    have hS := DV.new W103 Z q0 ((-1)) false AS cS BS dS 46 sS tS
    have neDS : gD ≠ W103.heap.size := Nat.ne_of_lt (Nat.lt_of_lt_of_le hD.lt hxx.size)
    have neQS : gQ ≠ W103.heap.size := Nat.ne_of_lt (Nat.lt_of_lt_of_le hQ.lt hxx.size)
    have loS := Nat.le_trans hX.size hxx.size
    replace hxx := Ext.trans hxx ((Ext.refl W103).alloc (Obj.cells #[.slice AS Z.length cS, .slice BS q0.length dS, .int .i64 (-1), .bool false] 46))
    obtain ⟨W104, hW⟩ : ∃ W, W = W103.alloc (Obj.cells #[.slice AS Z.length cS, .slice BS q0.length dS, .int .i64 (-1), .bool false] 46) := ⟨_, rfl⟩
    obtain ⟨gS, hg⟩ : ∃ g, W103.heap.size = g := ⟨_, rfl⟩
    rw [← hW] at hS hxx ⊢
    rw [hg] at hS loS neDS neQS ⊢
    clear hW hg sS tS
    replace hD := hD.ext hxx
    replace hQ := hQ.ext hxx
    replace hM := hM.ext hxx
    replace hL := hL.ext hxx
    replace hX := hX.trans hxx
    clear hxx
    obtain ⟨AQ, cQ, BQ, dQ, bQ, sQ, tQ⟩ := hQ
    obtain ⟨b0, b1, b2, b3, bf, bl⟩ := bQ
    go_wp2_with fail
    refine (HH.out.2.2.2.2.2.2.2.2.1 AQ cQ BQ dQ W104 sQ tQ).mono ?_
    rintro e W105 ⟨A3, c3, rfl, -, hxx⟩
    have hQ := DV.mk (Box4.mk b0 b1 b2 b3 bf bl) sQ tQ
    clear b0 b1 b2 b3 bf bl
    replace hD := hD.ext hxx
    replace hQ := hQ.ext hxx
    replace hS := hS.ext hxx
    replace hM := hM.ext hxx
    replace hL := hL.ext hxx
    replace hX := hX.trans hxx
    clear hxx
    clear hQ neQS
    go_wp2_with fail
    refine (HH.out.2.2.2.2.2.2.2.2.2.1 (some ⟨g, 0, none⟩) 256 (some ⟨gL, 0, none⟩) 1 W105 hM hL).mono ?_
    rintro e W106 ⟨Aa, ca, rfl, hya, hxx⟩
    replace hD := hD.ext hxx
    replace hS := hS.ext hxx
    replace hM := hM.ext hxx
    replace hL := hL.ext hxx
    replace hX := hX.trans hxx
    clear hxx
    go_wp2_with fail
    refine (HH.out.2.2.2.2.2.2.2.2.2.2.1 (some ⟨g, 0, none⟩) 256 (some ⟨gL, 0, none⟩) 1 W106 hM hL).mono ?_
    rintro e W107 ⟨Ab, cb, rfl, hyb, hxx⟩
    replace hD := hD.ext hxx
    replace hS := hS.ext hxx
    replace hM := hM.ext hxx
    replace hL := hL.ext hxx
    replace hya := hya.ext hxx
    replace hX := hX.trans hxx
    clear hxx
    go_wp2_with fail
    refine (HH.out.2.2.2.2.2.2.2.2.2.2.2.1 (some ⟨g, 0, none⟩) 256 (some ⟨gL, 0, none⟩) 1 W107 hM hL).mono ?_
    rintro e W108 ⟨Ac, cc, rfl, hyc, hxx⟩
    replace hD := hD.ext hxx
    replace hS := hS.ext hxx
    replace hM := hM.ext hxx
    replace hL := hL.ext hxx
    replace hya := hya.ext hxx
    replace hyb := hyb.ext hxx
    replace hX := hX.trans hxx
    clear hxx
    go_wp2_with fail
    refine (HH.out.2.2.2.2.2.2.2.2.2.2.2.2.1 (some ⟨g, 0, none⟩) 256 W108 hM).mono ?_
    rintro e W109 ⟨AP, cP, BP, dP, rfl, sP, tP, hxx⟩
    go_upto_region 21 with fail
    have hP := DV.new W109 Z q0 0 true AP cP BP dP 46 sP tP
    have neDP : gD ≠ W109.heap.size := Nat.ne_of_lt (Nat.lt_of_lt_of_le hD.lt hxx.size)
    have neSP : gS ≠ W109.heap.size := Nat.ne_of_lt (Nat.lt_of_lt_of_le hS.lt hxx.size)
    have loP := Nat.le_trans hX.size hxx.size
    replace hxx := Ext.trans hxx ((Ext.refl W109).alloc (Obj.cells #[.slice AP Z.length cP, .slice BP q0.length dP, .int .i64 0, .bool true] 46))
    obtain ⟨W110, hW⟩ : ∃ W, W = W109.alloc (Obj.cells #[.slice AP Z.length cP, .slice BP q0.length dP, .int .i64 0, .bool true] 46) := ⟨_, rfl⟩
    obtain ⟨gP, hg⟩ : ∃ g, W109.heap.size = g := ⟨_, rfl⟩
    rw [← hW] at hP hxx ⊢
    rw [hg] at hP loP neDP neSP ⊢
    clear hW hg sP tP
    replace hD := hD.ext hxx
    replace hS := hS.ext hxx
    replace hM := hM.ext hxx
    replace hL := hL.ext hxx
    replace hya := hya.ext hxx
    replace hyb := hyb.ext hxx
    replace hyc := hyc.ext hxx
    replace hX := hX.trans hxx
    clear hxx
    clear hM hL
    obtain ⟨AS, cS, BS, dS, bS, sS, tS⟩ := hS
    obtain ⟨b0, b1, b2, b3, bf, bl⟩ := bS
    obtain ⟨AD, cD, BD, dD, bD, sD, tD⟩ := hD
    obtain ⟨o0, o1, o2, o3, of, ol⟩ := bD
    go_wp2_with fail
    refine (dSame_yes Z q0 (-1) false AS cS BS dS AD cD BD dD W110 sS tS sD tD).mono ?_
    rintro e W111 ⟨rfl, hxx⟩
    have hS := DV.mk (Box4.mk b0 b1 b2 b3 bf bl) sS tS
    clear b0 b1 b2 b3 bf bl
    have hD := DV.mk (Box4.mk o0 o1 o2 o3 of ol) sD tD
    clear o0 o1 o2 o3 of ol
    replace hD := hD.ext hxx
    replace hS := hS.ext hxx
    replace hP := hP.ext hxx
    replace hya := hya.ext hxx
    replace hyb := hyb.ext hxx
    replace hyc := hyc.ext hxx
    replace hX := hX.trans hxx
    clear hxx
    obtain ⟨ad, y, rfl, hy, g1⟩ := hya.u_at (k := 130) ja
    obtain ⟨ad2, y2, rfl, hy2, g2⟩ := hyb.u_at (k := 130) jb
    obtain ⟨ad3, y3, rfl, hy3, g3⟩ := hyc.u_at (k := 130) jc
    rw [HF.out.2.2.2.2.2.2.2.2.2.1] at hy
    rw [HF.out.2.2.2.2.2.2.2.2.2.2.1] at hy2
    rw [HF.out.2.2.2.2.2.2.2.2.2.2.2] at hy3
    injection hy with hy
    injection hy2 with hy2
    injection hy3 with hy3
    subst hy hy2 hy3
    rw [add_lit_ ad 129] at g1
    rw [add_lit_ ad2 129] at g2
    rw [add_lit_ ad3 129] at g3
    clear hya hyb hyc hS hD
    obtain ⟨AP, cP, BP, dP, bP, sP, tP⟩ := hP
    obtain ⟨p0, p1, p2, p3, pf, pl⟩ := bP
    go_wp2_with fail
    refine (alive12_any _).mono ?_
    rintro e w20 ⟨rfl, hx20⟩
    go_wp2_with fail
    go_ret
    exact ⟨rfl, hX.trans hx20⟩
set_option maxRecDepth 100000 in
theorem atomicNames_lifted (os : Os) (started : os.Started) (H : Type) (enc : TypeId × Value → H) :
    ReturnsInHanded {} Try.checked os 14 .any (Rows.atomicNamesSpec.pre6 enc Try.prog Try.f14 Rows.atomicNamesRow.domain false) (Rows.atomicNamesSpec.post enc Try.prog Try.f14 false true false false) := by
  refine returnsInHanded_of_change (C := Try.checked) own_knob started (by kernel_rfl) Try.func14
    (ChangeSpec.witness6 (enc := enc) (C := Try.checked) false ⟨#[], #[], []⟩ 8 (by kernel_rfl) (by kernel_rfl) (by kernel_rfl) (by kernel_rfl)) ?_
  intro W base args ds gs before hval0 hW hcnd _
  have hval : ∀ (j : Nat) t v, Try.f14.params[j]? = some t → args[j]? = some v → Value.okWide Try.prog W .any base t v := hval0
  have hW' := hW
  obtain ⟨p, q, hA0, hV, rfl, hfz, hnd⟩ := hW
  have hA : DataW.TrodAll enc Try.prog W 0 (fun _ => true) true Try.f14.params.toList args.toList ds p := hA0
  rw [Try.params14] at hA hval
  obtain ⟨rfl, rfl, rfl⟩ := trodAll_none hA
  obtain ⟨rfl, rfl⟩ := trodVars_none hV
  clear hA0 hval0 hval hA
  refine (atomicNames_any W).mono fun e W' ⟨he, hx⟩ => ?_
  subst he
  exact ⟨_, rfl, post_law laid_out (by kernel_rfl) hW' rfl rfl rfl Try.underlying4 hx⟩
theorem atomicNames_holds : Rows.AtomicNamesSaid :=
  OpenClaim.holds_of_wide 14 Try.f14 rfl rfl rfl rfl rfl rfl rfl ⟨rfl, rfl, rfl, rfl, rfl⟩ rfl rfl rfl rfl rfl (by kernel_rfl) Try.func14 (by kernel_rfl)
    (of_decide_eq_true (by kernel_rfl)) (by unfold Func.isWrapper; first | (rw [if_pos (by decide +kernel)]; kernel_rfl) | (rw [if_neg (by decide +kernel)]; exact ⟨rfl, rfl⟩))
    (fun os started H enc _ => atomicNames_lifted os started H enc)
end Go.Proofs.Ytmkcpnklaijkfaa
