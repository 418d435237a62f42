/-
  TopJournal's example.
-/
import Derived.Test.YtmkcpnklaijkfaaAtB
import Derived.Test.YtmkcpnklaijkfaaGL
namespace Go.Proofs.Ytmkcpnklaijkfaa
open Go.RowKit
theorem al11_f : chkE [(16, 1), (17, 0), (18, 0)] 256 = 0 ∧ prE (applied (zerosU 256) [(16, 1), (17, 0), (18, 0)]) = 0 ∧ (applied (zerosU 256) [(16, 1), (17, 0), (18, 0)])[16]? = some 1 ∧ (zerosU 256)[24]? = some 0 ∧ (applied (zerosU 256) [(16, 1), (17, 0), (18, 0)]).length = 256 := by decide +kernel
/-- Reading a phase asks for the size and for the eight words from 16 on alone. -/
theorem prE_congr {x y : List Int} (hl : x.length = y.length) (h : ∀ i : Nat, 16 ≤ i → i < 24 → x[i]? = y[i]?) : prE x = prE y ∧ ∀ i, 16 ≤ i → i < 24 → prA x i = prA y i := by
  have hg : ∀ i : Nat, 16 ≤ i → i < 24 → x.getD i 0 = y.getD i 0 := fun i h1 h2 => by simp only [List.getD, h i h1 h2]
  have h1 : prE x = prE y := by
    unfold prE okP
    rw [hl, hg 16 (by decide) (by decide), hg 17 (by decide) (by decide), hg 18 (by decide) (by decide), hg 19 (by decide) (by decide), hg 20 (by decide) (by decide), hg 21 (by decide) (by decide), hg 22 (by decide) (by decide), hg 23 (by decide) (by decide)]
  exact ⟨h1, fun i a b => by unfold prA; rw [h1, hg i a b]⟩
theorem af_is {x : List Int} {l : List (Int × Int)} (mask : Int) (hk : chkE l x.length = 0) (wf : WfE l) (h24 : x[24]? = some 0) : afL x [] (-1) false l mask = chX x l := by
  have hs := (chk_iff.1 hk).1
  have hd : devB x [] (-1) false = true := at_dev hs (by omega) (by omega)
  have h0 : chE x [] (-1) false l = 0 := chE_yes hd hk h24
  have ho := chX_out hk h24
  have hz : afZ x [] (-1) false l mask = chX x l := by unfold afZ; rw [at_free hk wf]; rfl
  have hl : (chX x l).length = x.length := ho.1.trans (applied_length ..)
  obtain ⟨_, i2⟩ := img_zero (x := chX x l) (by rw [hl]; exact hs) (jw_at ho.2.1)
  unfold afL
  rw [if_pos h0, hz, i2]
set_option maxRecDepth 100000 in
set_option maxHeartbeats 3200000 in
theorem top12_any (w : World) : Calls Try.prog 20 #[] w fun e w' => e = .returned (.bool true) ∧ Ext w w' := by
  go_enter Try.func20, Try.ntmps20
  go_wp2_with fail
  refine (phWrite_any 1 0 0 _).mono ?_
  rintro e w1 (⟨_, A, k, rfl, _, hl, hx⟩ | ⟨h, _⟩)
  rotate_left
  · exact absurd h (by decide)
  obtain ⟨f1, f2, f3, f4, f5⟩ := al11_f
  have wz : WfU (zerosU 256) := wf_zeros 256
  have wl : WfE [(16, 1), (17, 0), (18, 0)] := by unfold WfE InI InU; decide
  have hk : chkE [(16, 1), (17, 0), (18, 0)] (zerosU 256).length = 0 := by rw [zerosU_length]; exact f1
  obtain ⟨a1, a2⟩ := af_free 0 hk wl f4
  have a3 := af_is 0 hk wl f4
  have h2 := fun A c B d W (ha : Sl W A (zerosU 256).length c (fU (zerosU 256))) (he : Sl W B 3 d (fE [(16, 1), (17, 0), (18, 0)])) => aAfter_any (zerosU 256) [] (-1) false [(16, 1), (17, 0), (18, 0)] 0 A c none 0 B d W ha (Sl.nil_ W) he wz (by intro x hx; cases hx) wl (by unfold InU; decide)
  rw [a1] at h2
  rw [a3] at h2 a2
  have wy := chX_wf hk wz wl
  obtain ⟨Y, hY⟩ : ∃ Y, chX (zerosU 256) [(16, 1), (17, 0), (18, 0)] = Y := ⟨_, rfl⟩
  rw [hY] at h2 a2 wy
  obtain ⟨p1, p2⟩ := prE_congr a2.1 (fun i h1 h3 => a2.2.2.2 i (.inl h3))
  have p3 : prE Y = 0 := p1.trans f2
  have p4 : prA Y 16 = 1 := by
    unfold prA
    rw [p3, if_pos rfl, List.getD, a2.2.2.2 16 (.inl (by decide)), f3]
    rfl
  have h3 := fun A c W (ha : Sl W A Y.length c (fU Y)) => phRead_any Y A c W ha wy
  unfold RdP at h3
  rw [p3, p4] at h3
  rw [zerosU_length] at h2
  obtain ⟨u, hu⟩ : ∃ u, prA Y 17 = u := ⟨_, rfl⟩
  obtain ⟨v, hv⟩ : ∃ u, prA Y 18 = u := ⟨_, rfl⟩
  rw [hu, hv] at h3
  have HH := Lib.hid (And.intro h2 h3)
  clear h2 h3 a1 a2 a3 wy hY p1 p2 p3 p4 hu hv f1 f2 f3 f4 f5 wz wl hk
  go_wp2_with (at_make; refine wpList_zeros rfl _ _ rfl 256 (by decide) _ _ _ _ rfl rfl rfl rfl ?_; intro w2 hown hX hz1)
  refine (HH.out.1 _ _ _ _ w2 (own_sl hown) (hl.ext hX)).mono ?_
  rintro e w3 ⟨A3, c3, rfl, hy, hx3⟩
  have hX3 := hx.trans (hX.trans hx3)
  clear hX hx3 hx hz1 hown hl
  go_wp2_with fail
  refine (HH.out.2 _ _ w3 hy).mono ?_
  rintro e w4 ⟨rfl, hx4⟩
  go_wp2_with fail
  go_ret
  exact ⟨rfl, (hX3.trans hx4).alloc _⟩
end Go.Proofs.Ytmkcpnklaijkfaa
