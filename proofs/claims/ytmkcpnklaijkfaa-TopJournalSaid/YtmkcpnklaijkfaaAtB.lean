/-
  What After gives for a device with nothing dirty; the examples of chapter 12.
-/
import Derived.Test.YtmkcpnklaijkfaaAtA
namespace Go.Proofs.Ytmkcpnklaijkfaa
open Go.RowKit
section
variable {x : List Int} {l : List (Int × Int)}
theorem at_dev {left : Int} (hs : sizeB x.length = true) (h0 : -1 ≤ left) (h1 : left ≤ 1000000) : devB x [] left false = true := devB_mk hs (by omega) (by omega) (by intro h; cases h) rfl
theorem af_ok (left : Nat) (mask : Int) (hk : chkE l x.length = 0) (wf : WfE l) (h24 : x[24]? = some 0) (hleft : left ≤ 1000000) :
    afE x [] (left : Int) false l mask = 0 ∧ Crs x l left mask (afZ x [] (left : Int) false l mask) ∧ afL x [] (left : Int) false l mask = imgL (afZ x [] (left : Int) false l mask) := by
  have hd : devB x [] (left : Int) false = true := at_dev (chk_iff.1 hk).1 (by omega) (by omega)
  have h0 : chE x [] (left : Int) false l = 0 := chE_yes hd hk h24
  obtain ⟨_, h2, _, h4⟩ := at_crash left mask hk wf h24
  refine ⟨?_, h4, ?_⟩
  · unfold afE; rw [if_pos h0]; exact h2
  · unfold afL; rw [if_pos h0]
theorem af_free (mask : Int) (hk : chkE l x.length = 0) (wf : WfE l) (h24 : x[24]? = some 0) :
    afE x [] (-1) false l mask = 0 ∧ Out (afL x [] (-1) false l mask) (applied x l) := by
  have hs := (chk_iff.1 hk).1
  have hd : devB x [] (-1) false = true := at_dev hs (by omega) (by omega)
  have h0 : chE x [] (-1) false l = 0 := chE_yes hd hk h24
  have ho := chX_out hk h24
  have hz : afZ x [] (-1) false l mask = chX x l := by unfold afZ; rw [at_free hk wf]; rfl
  have hl : (chX x l).length = x.length := ho.1.trans (applied_length ..)
  obtain ⟨i1, i2⟩ := img_zero (x := chX x l) (by rw [hl]; exact hs) (jw_at ho.2.1)
  refine ⟨?_, ?_⟩
  · unfold afE; rw [if_pos h0, hz]; exact i1
  · unfold afL; rw [if_pos h0, hz, i2]; exact ho
theorem Crs.either {left : Nat} {mask : Int} {z : List Int} (h : Crs x l left mask z) : Out (imgL z) x ∨ Out (imgL z) (applied x l) := by
  rcases h with ⟨_, h⟩ | ⟨_, _, h, _⟩ | ⟨_, h⟩
  · exact .inl h
  · exact h
  · exact .inr h
theorem Crs.done {left : Nat} {mask : Int} {z : List Int} (h : Crs x l left mask z) (hl : nJ l + 3 ≤ left) : Out (imgL z) (applied x l) := by
  rcases h with ⟨h1, _⟩ | ⟨_, h1, _⟩ | ⟨_, h⟩
  · omega
  · omega
  · exact h
theorem Crs.early {left : Nat} {mask : Int} {z : List Int} (h : Crs x l left mask z) (hl : left ≤ nJ l) : Out (imgL z) x := by
  rcases h with ⟨_, h⟩ | ⟨h1, _⟩ | ⟨h1, _⟩
  · exact h
  · omega
  · omega
end
theorem al12 : chkE al10_l 256 = 0 ∧ chN al10_l = 13 ∧ nJ al10_l = 4 ∧ (zerosU 256)[24]? = some 0 ∧ (zerosU 256)[130]? = some 0 ∧ (applied (zerosU 256) al10_l)[130]? = some 5 := by decide +kernel
set_option maxRecDepth 100000 in
set_option maxHeartbeats 1600000 in
theorem alive12_any (w : World) : Calls Try.prog 61 #[] w fun e w' => e = .returned (.bool true) ∧ Ext w w' := by
  obtain ⟨f1, f2, f3, f4, f5, f6⟩ := al12
  have wz : WfU (zerosU 256) := wf_zeros 256
  have hk : chkE al10_l (zerosU 256).length = 0 := by rw [zerosU_length]; exact f1
  obtain ⟨a1, a2, a3⟩ := af_ok 4 18446744073709551615 hk al10_wf f4 (by decide)
  have ao := a2.early (by rw [f3]; decide)
  rw [← a3] at ao
  obtain ⟨b1, b2, b3⟩ := af_ok 7 0 hk al10_wf f4 (by decide)
  have bo := b2.done (by rw [f3]; decide)
  rw [← b3] at bo
  have h1 := fun W (h : Sl W (some ⟨w.heap.size + 1, 0, none⟩) al10_l.length 1 (fE al10_l)) => aOps_any al10_l 256 (some ⟨w.heap.size + 1, 0, none⟩) 1 W h al10_wf
  rw [show aoN al10_l 256 = 13 from by unfold aoN; rw [if_pos f1, f2]; rfl, f1] at h1
  have h2 := fun A c W (ha : Sl W A (zerosU 256).length c (fU (zerosU 256))) (he : Sl W (some ⟨w.heap.size + 1, 0, none⟩) al10_l.length 1 (fE al10_l)) => aAfter_any (zerosU 256) [] ((4 : Nat) : Int) false al10_l 18446744073709551615 A c none 0 (some ⟨w.heap.size + 1, 0, none⟩) 1 W ha (Sl.nil_ W) he wz (fun x hx => by cases hx) al10_wf (by unfold InU; decide)
  have h3 := fun A c W (ha : Sl W A (zerosU 256).length c (fU (zerosU 256))) (he : Sl W (some ⟨w.heap.size + 1, 0, none⟩) al10_l.length 1 (fE al10_l)) => aAfter_any (zerosU 256) [] ((7 : Nat) : Int) false al10_l 0 A c none 0 (some ⟨w.heap.size + 1, 0, none⟩) 1 W ha (Sl.nil_ W) he wz (fun x hx => by cases hx) al10_wf (by unfold InU; decide)
  rw [a1] at h2
  rw [b1] at h3
  obtain ⟨Y, hY⟩ : ∃ Y, afL (zerosU 256) [] ((4 : Nat) : Int) false al10_l 18446744073709551615 = Y := ⟨_, rfl⟩
  obtain ⟨X, hX⟩ : ∃ Y, afL (zerosU 256) [] ((7 : Nat) : Int) false al10_l 0 = Y := ⟨_, rfl⟩
  rw [hY] at h2 ao
  rw [hX] at h3 bo
  have y1 : Y.length = 256 := by rw [ao.1, zerosU_length]
  have x1 : X.length = 256 := by rw [bo.1, applied_length, zerosU_length]
  have y2 : Y[130]? = some 0 := by rw [ao.2.2.2 130 (by omega)]; exact f5
  have x2 : X[130]? = some 5 := by rw [bo.2.2.2 130 (by omega)]; exact f6
  have x3 := bo.2.1
  simp only [zerosU_length] at h2 h3
  obtain ⟨Z, hZ⟩ : ∃ X, zerosU 256 = X := ⟨_, rfl⟩
  rw [hZ] at h2 h3
  have HH := Lib.hid (And.intro h1 (And.intro h2 h3))
  have HF := Lib.hid (And.intro hZ (And.intro y2 (And.intro x2 x3)))
  have k1 : ((Y.length : Int) == 256) = true := by rw [y1]; rfl
  have k2 : ((X.length : Int) == 256) = true := by rw [x1]; rfl
  have i1 : (130 : Int) < X.length := by omega
  have j1 : 130 < X.length := by omega
  have i2 : (130 : Int) < Y.length := by omega
  have j2 : 130 < Y.length := by omega
  clear h1 h2 h3 f1 f2 f3 f4 f5 f6 hk a1 a2 a3 ao b1 b2 b3 bo wz hY hX hZ y1 y2 x1 x2 x3
  go_enter Try.func61, Try.ntmps61
  go_wp2_with (at_make; refine wpList_zeros rfl _ _ rfl 256 (by decide) _ _ _ _ rfl rfl rfl rfl ?_; intro w1 hown hx1 hz1)
  have hA := own_sl4 hown
  rw [HF.out.1] at hA
  clear hown
  have hL : Sl (w1.alloc (Obj.cells #[.int .i64 130, .int .u64 5] 38)) (some ⟨w1.heap.size, 0, none⟩) 1 1 (fE al10_l) := Sl.lit' _ _ _ 1 rfl (by decide)
  have hA2 := hA.alloc (Obj.cells #[.int .i64 130, .int .u64 5] 38)
  have hX2 : Ext w (w1.alloc (Obj.cells #[.int .i64 130, .int .u64 5] 38)) := hx1.alloc _
  go_upto_region 3 with fail
  obtain ⟨W2, hW2⟩ : ∃ W, W = w1.alloc (Obj.cells #[.int .i64 130, .int .u64 5] 38) := ⟨_, rfl⟩
  rw [← hW2] at hL hA2 hX2 ⊢
  rw [hz1] at hL
  clear hW2 hA hx1 hz1
  go_wp2_with fail
  refine (HH.out.1 W2 hL).mono ?_
  rintro e w3 ⟨rfl, hx3⟩
  replace hL := hL.ext hx3
  replace hA2 := hA2.ext hx3
  replace hX2 := hX2.trans hx3
  clear hx3
  go_wp2_with fail
  refine (HH.out.2.1 _ _ w3 hA2 hL).mono ?_
  rintro e w4 ⟨A4, c4, rfl, hA4, hx4⟩
  replace hL := hL.ext hx4
  replace hA2 := hA2.ext hx4
  replace hX2 := hX2.trans hx4
  clear hx4
  go_wp2_with fail
  refine (HH.out.2.2 _ _ w4 hA2 hL).mono ?_
  rintro e w5 ⟨A5, c5, rfl, hA5, hx5⟩
  obtain ⟨ad, y, rfl, hy, g1⟩ := (hA4.ext hx5).u_at (k := 130) j2
  obtain ⟨ad2, y2, rfl, hy2, g2⟩ := hA5.u_at (k := 130) j1
  obtain ⟨ad3, y3, had, hy3, g3⟩ := hA5.u_at (k := 24) (by omega)
  injection had with had
  subst had
  rw [HF.out.2.1] at hy
  rw [HF.out.2.2.1] at hy2
  rw [HF.out.2.2.2] at hy3
  injection hy with hy
  injection hy2 with hy2
  injection hy3 with hy3
  subst hy hy2 hy3
  rw [add_lit_ ad 129] at g1
  rw [add_lit_ ad2 129] at g2
  rw [add_lit_ ad2 23] at g3
  have HX := Lib.hid (hX2.trans hx5)
  clear hX2 hx5 hA2 hL hA4 hA5
  go_wp2_with fail
  go_ret
  exact ⟨rfl, HX.out⟩
end Go.Proofs.Ytmkcpnklaijkfaa
