/-
  The examples of chapter 10.
-/
import Derived.Test.YtmkcpnklaijkfaaWith10
import Derived.Test.YtmkcpnklaijkfaaOp10
import Derived.Test.YtmkcpnklaijkfaaGA
namespace Go.Proofs.Ytmkcpnklaijkfaa
open Go.RowKit
def al10_l : List (Int × Int) := [(130, 5)]
def al10_w : List Int := withL (zerosU 256) al10_l
theorem al10 : (crE (zerosU 256) = 0 ∧ imgL (zerosU 256) = zerosU 256) ∧ chkE al10_l 256 = 0 ∧ al10_w.length = 256 ∧ crE al10_w = 0 ∧ ((imgL al10_w).length = 256 ∧ (imgL al10_w)[130]? = some 5 ∧ (imgL al10_w)[24]? = some 0 ∧ (imgL al10_w)[32]? = some 130) ∧ (opN al10_l = 6 ∧ opE al10_l = 0) := by decide +kernel
theorem al10_wf : WfE al10_l := by unfold al10_l WfE InI InU; decide
set_option maxRecDepth 100000 in
set_option maxHeartbeats 6400000 in
theorem alive10_any (w : World) : Calls Try.prog 44 #[] w fun e w' => e = .returned (.bool true) ∧ Ext w w' := by
  obtain ⟨⟨f1, f2⟩, f3, f4, f5, ⟨f6, f7, f8, f9⟩, f10, f11⟩ := al10
  have wfw : WfU al10_w := withL_wf (m := zerosU 256) (by rw [zerosU_length]; exact f3) (wf_zeros 256) al10_wf
  have h1 := fun A c W (ha : Sl W A (zerosU 256).length c (fU (zerosU 256))) => image10_any (zerosU 256) A c W ha (wf_zeros 256)
  have h2 := fun A c B d W (ha : Sl W A (zerosU 256).length c (fU (zerosU 256))) (hb : Sl W B al10_l.length d (fE al10_l)) => with10_any (zerosU 256) al10_l A c B d W ha hb (by rw [zerosU_length]; exact f3) al10_wf
  have h3 := fun A c W (ha : Sl W A al10_w.length c (fU al10_w)) => image10_any al10_w A c W ha wfw
  have h4 := fun A c W (ha : Sl W A al10_l.length c (fE al10_l)) => ops10_any al10_l A c W ha
  rw [f1, f2] at h1
  rw [show withL (zerosU 256) al10_l = al10_w from rfl] at h2
  simp only [zerosU_length] at h1 h2
  rw [f5] at h3
  rw [f10, f11] at h4
  obtain ⟨X, hX⟩ : ∃ X, imgL al10_w = X := ⟨_, rfl⟩
  obtain ⟨W0, hW0⟩ : ∃ X, al10_w = X := ⟨_, rfl⟩
  rw [hX] at h3 f6 f7 f8 f9
  rw [hW0] at h2 h3 f4
  rw [f4] at h3
  obtain ⟨Z, hZ⟩ : ∃ X, zerosU 256 = X := ⟨_, rfl⟩
  have hzl : Z.length = 256 := by rw [← hZ]; exact zerosU_length 256
  rw [hZ] at h1 h2
  have HH := Lib.hid (And.intro h1 (And.intro h2 (And.intro h3 h4)))
  have HF := Lib.hid (And.intro f7 (And.intro f8 (And.intro f9 (And.intro hzl hZ))))
  have k1 : ((X.length : Int) == 256) = true := by rw [f6]; rfl
  have i1 : (130 : Int) < X.length := by omega
  have j1 : 130 < X.length := by omega
  clear h1 h2 h3 h4 f1 f2 f3 f4 f5 f6 f7 f8 f9 f10 f11 wfw hX hW0 hZ hzl
  go_enter Try.func44, Try.ntmps44
  go_wp2_with (at_make; refine wpList_zeros rfl _ _ rfl 256 (by decide) _ _ _ _ rfl rfl rfl rfl ?_; intro w1 hown hx1 hz1)
  have hA := own_sl4 hown
  rw [HF.out.2.2.2.2] at hA
  clear hown
  have hL : Sl (w1.alloc (Obj.cells #[.int .i64 130, .int .u64 5] 38)) (some ⟨w1.heap.size, 0, none⟩) 1 1 (fE al10_l) := Sl.lit' _ _ _ 1 rfl (by decide)
  have hA2 := hA.alloc (Obj.cells #[.int .i64 130, .int .u64 5] 38)
  have hX2 : Ext w (w1.alloc (Obj.cells #[.int .i64 130, .int .u64 5] 38)) := hx1.alloc _
  go_upto_region 3 with fail
  obtain ⟨W2, hW2⟩ : ∃ W, W = w1.alloc (Obj.cells #[.int .i64 130, .int .u64 5] 38) := ⟨_, rfl⟩
  rw [← hW2] at hL hA2 hX2 ⊢
  rw [hz1] at hL
  clear hW2 hA hx1 hz1
  go_wp2_with fail
  refine (HH.out.1 _ _ W2 hA2).mono ?_
  rintro e w3 ⟨A3, c3, rfl, hA3, hx3⟩
  go_wp2_with fail
  refine (HH.out.2.1 _ _ _ _ w3 (hA2.ext hx3) (hL.ext hx3)).mono ?_
  rintro e w4 ⟨A4, c4, rfl, _, hA4, hx4⟩
  go_wp2_with fail
  refine (HH.out.2.2.1 A4 c4 w4 hA4).mono ?_
  rintro e w5 ⟨A5, c5, rfl, hA5, hx5⟩
  go_wp2_with fail
  refine (HH.out.2.2.2 _ _ w5 (hL.ext (hx3.trans (hx4.trans hx5)))).mono ?_
  rintro e w6 ⟨rfl, hx6⟩
  have hx36 := hx4.trans (hx5.trans hx6)
  rw [HF.out.2.2.2.1] at hA3 ⊢
  go_wp2_with fail
  have hsame := same2_yes Z Z rfl A3 (some ⟨w.heap.size, 0, none⟩) c3 256 w6
  rw [HF.out.2.2.2.1] at hsame
  refine (hsame (hA3.ext hx36) (hA2.ext (hx3.trans hx36))).mono ?_
  rintro e w7 ⟨rfl, hdn⟩
  obtain ⟨ad, y, rfl, hy, g1⟩ := (hA5.ext (hx6.trans hdn.ext)).u_at (k := 130) j1
  obtain ⟨ad2, y2, had, hy2, g2⟩ := (hA5.ext (hx6.trans hdn.ext)).u_at (k := 24) (by omega)
  injection had with had
  subst had
  obtain ⟨ad3, y3, had, hy3, g3⟩ := (hA5.ext (hx6.trans hdn.ext)).u_at (k := 32) (by omega)
  injection had with had
  subst had
  rw [HF.out.1] at hy
  rw [HF.out.2.1] at hy2
  rw [HF.out.2.2.1] at hy3
  injection hy with hy
  injection hy2 with hy2
  injection hy3 with hy3
  subst hy hy2 hy3
  rw [add_lit_ ad 129] at g1
  rw [add_lit_ ad 23] at g2
  rw [add_lit_ ad 31] at g3
  clear hsame
  go_wp2_with fail
  go_ret
  exact ⟨rfl, hX2.trans (hx3.trans (hx36.trans hdn.ext))⟩
end Go.Proofs.Ytmkcpnklaijkfaa
