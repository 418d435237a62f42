/-
  TopJournal: the walk, over the contracts of what it calls.
-/
import Derived.Test.YtmkcpnklaijkfaaTopN
import Derived.Test.YtmkcpnklaijkfaaTopZ
import Derived.Test.YtmkcpnklaijkfaaDV
import Derived.Test.YtmkcpnklaijkfaaWith10
import Derived.Test.YtmkcpnklaijkfaaSup
import Derived.Test.YtmkcpnklaijkfaaGL
import Derived.Deep.DeepCutAuto
import Derived.BigQuiet
namespace Go.Proofs.Ytmkcpnklaijkfaa
open Go.RowKit
theorem run_neqS (a b d e : Int) (w : World) : (binOp .neq 28 (.agg #[.int .i64 a, .int .i64 b]) (.agg #[.int .i64 d, .int .i64 e])).run Try.prog w = .ok (.bool (!(a == d && b == e))) w := by
  rw [run_neq_struct]
  go_simp
  by_cases h : a = d <;> by_cases h' : b = e <;> simp [h, h']
theorem run_neqB2 (w : World) : (binOp .neq 53 (.agg #[.bool true, .bool true]) (.agg #[.bool true, .bool true])).run Try.prog w = .ok (.bool false) w := by kernel_rfl
set_option maxRecDepth 100000 in
set_option maxHeartbeats 12800000 in
theorem topJournal_walk (ty pa pb pc qa qb qc at_ v left mask sp by_ : Int) (W8 M0 M J X m1 z Y last Z : List Int) (L3 L : List (Int × Int)) (q1 q5 : List Dw) (l1 : Int) (n1 : Bool) (nn : Nat) (er f2 f3 : Int) (rs : Bool) (w : World)
    (t0 : 0 ≤ ty) (t1 : ty ≤ 8) (pb1 : pb ≤ 256) (qb1 : qb ≤ 256) (a0 : 128 ≤ at_) (a1 : at_ ≤ 255) (l0 : 0 ≤ left) (l2 : left ≤ 200) (s0 : 0 ≤ sp) (s1 : sp ≤ 15)
    (hp : phE pa pb pc = 0) (hq : phE qa qb qc = 0) (hW8 : W8.length = 8) (hM0 : M0 = W8 ++ W8 ++ zerosU 240) (hM : M.length = 256) (hJ : J.length = 16) (hX : X = (splice M 24 J).set sp.toNat by_) (hL : L = L3 ++ [(at_, v)])
    (k1 : ∀ W, Calls Try.prog 22 #[.agg #[.int .i64 256, .int .i64 ty]] W fun e w' => (∃ g c, e = .returned (.tuple #[.slice (some ⟨g, 0, none⟩) 8 c, .int .i64 0]) ∧ Sl w' (some ⟨g, 0, none⟩) 8 c (fU W8)) ∧ Ext W w')
    (k2 : ∀ A k W, Sl W A 256 k (fU M0) → Calls Try.prog 23 #[.slice A 256 k, .agg #[.int .i64 pa, .int .i64 pb, .int .i64 pc]] W (RetOwn2 W 24 1 256 (fU M) 0))
    (k3 : ∀ W, Calls Try.prog 24 #[.agg #[.int .i64 qa, .int .i64 qb, .int .i64 qc]] W (RetOwn2 W 38 2 3 (fE L3) 0))
    (k4 : ∀ B d W, Sl W B 4 d (fE L) → Calls Try.prog 25 #[.slice B 4 d, .int .i64 256] W fun e w' => e = .returned (.int .i64 0) ∧ Ext W w')
    (k5 : ∀ B d W, Sl W B 4 d (fE L) → Calls Try.prog 26 #[.slice B 4 d, .int .i64 256] W fun e w' => ∃ A c, e = .returned (.tuple #[.slice A 16 c, .int .i64 0]) ∧ Sl w' A 16 c (fU J) ∧ Ext W w')
    (k6 : ∀ A c W, Sl W A 256 c (fU M) → Calls Try.prog 27 #[.slice A 256 c] W (RetOwn W 24 1 256 (fU M)))
    (k7 : ∀ A c W, Sl W A 256 c (fU X) → Calls Try.prog 28 #[.slice A 256 c] W fun e w' => (∃ B d, e = .returned (.tuple #[.slice B 4 d, .int .i64 0])) ∧ Ext W w')
    (k8 : ∀ A c W, Sl W A 256 c (fU X) → Calls Try.prog 29 #[.slice A 256 c, .int .i64 4] W fun e w' => (∃ B d, e = .returned (.tuple #[.slice B 4 d, .int .i64 0])) ∧ Ext W w')
    (k9 : ∀ A c W, Sl W A 256 c (fU X) → Calls Try.prog 30 #[.agg #[.slice A 256 c, .slice none 0 0, .int .i64 left, .bool false]] W (RetV W (m1, q1, l1, n1) 0))
    (k10 : ∀ A c B d W, Sl W A m1.length c (fU m1) → Sl W B q1.length d (fD q1) → Calls Try.prog 31 #[.agg #[.slice A m1.length c, .slice B q1.length d, .int .i64 l1, .bool n1], .int .u64 mask] W (RetV W (z, q5, -1, false) 0))
    (k11 : ∀ A c W, Sl W A z.length c (fU z) → Calls Try.prog 32 #[.slice A z.length c] W fun e w' => (∃ g c, e = .returned (.tuple #[.slice (some ⟨g, 0, none⟩) 256 c, .int .i64 0]) ∧ Sl w' (some ⟨g, 0, none⟩) 256 c (fU Y)) ∧ Ext W w')
    (k12 : ∀ A c W, Sl W A 256 c (fU Y) → Calls Try.prog 33 #[.slice A 256 c] W fun e w' => ∃ A c, e = .returned (.tuple #[.slice A nn c, .int .i64 er]) ∧ Sl w' A nn c (fU last) ∧ Ext W w')
    (k13 : ∀ A c W, Sl W A 256 c (fU X) → Calls Try.prog 34 #[.slice A 8 c] W fun e w' => e = .returned (.tuple #[.agg #[.int .i64 f2, .int .i64 f3], .int .i64 (if rs then 0 else 50)]) ∧ Ext W w')
    (k16 : ∀ A c B d W, Sl W A 256 c (fU M) → Sl W B 4 d (fE L) → Calls Try.prog 37 #[.agg #[.slice A 256 c, .slice none 0 0, .int .i64 (-1), .bool false], .slice B 4 d, .int .u64 mask] W fun e w' => ∃ A c, e = .returned (.tuple #[.slice A 256 c, .int .i64 0]) ∧ Sl w' A 256 c (fU Z) ∧ Ext W w')
    (hZ : Z.length = 256)
    (hc : (sp < 8 ∧ rs = true ∧ (f2 == 256 && f3 == ty) = false) ∨ ((8 ≤ sp ∨ rs = false ∨ (rs = true ∧ f2 = 256 ∧ f3 = ty)) ∧ nn = 256 ∧ er = 0 ∧ last.length = 256 ∧ last[at_.toNat]? = some v ∧
      (∀ A c W, Sl W A 256 c (fU last) → Calls Try.prog 35 #[.slice A 256 c] W fun e w' => e = .returned (.tuple #[.agg #[.int .i64 256, .int .i64 ty], .agg #[.bool true, .bool true], .int .i64 0]) ∧ Ext W w') ∧
      (∀ A c W, Sl W A 256 c (fU last) → Calls Try.prog 36 #[.slice A 256 c] W fun e w' => e = .returned (.tuple #[.agg #[.int .i64 qa, .int .i64 qb, .int .i64 qc], .int .i64 0]) ∧ Ext W w') ∧ Z.take 24 = last.take 24 ∧ Z.drop 96 = last.drop 96)) :
    Calls Try.prog 3 #[.int .i64 ty, .agg #[.int .i64 pa, .int .i64 pb, .int .i64 pc], .agg #[.int .i64 qa, .int .i64 qb, .int .i64 qc], .int .i64 at_, .int .u64 v, .int .i64 left, .int .u64 mask, .int .i64 sp, .int .u64 by_] w fun e w' => e = .returned (.bool true) ∧ Ext w w' := by
  have HK := Lib.hid (And.intro k1 (And.intro k2 (And.intro k3 (And.intro k4 (And.intro k5 (And.intro k6 (And.intro k7 (And.intro k8 (And.intro k9 (And.intro k10 (And.intro k11 (And.intro k12 (And.intro k13 k16)))))))))))))
  have HC := Lib.hid hc
  have HE := Lib.hid (And.intro hp (And.intro hq (And.intro hW8 (And.intro hM0 (And.intro hM (And.intro hJ (And.intro hX (And.intro hL hZ))))))))
  have HB := Lib.hid (box_two w pa pb pc qa qb qc)
  clear k1 k2 k3 k4 k5 k6 k7 k8 k9 k10 k11 k12 k13 k16 hc hp hq hW8 hM0 hM hJ hX hL hZ
  go_enter Try.func3, Try.ntmps3
  go_wp2_with fail
  refine (top12_any _).mono ?_
  rintro e w1 ⟨rfl, hx1⟩
  obtain ⟨p0, p1, p2, pf, pl⟩ := HB.out.1.ext hx1
  go_wp2_with fail
  refine (refCheck11_any pa pb pc _).mono ?_
  rintro e w2 ⟨rfl, hx2⟩
  rw [HE.out.1]
  obtain ⟨q0, q1', q2, qf, ql⟩ := HB.out.2.1.ext (hx1.trans hx2)
  clear p0 p1 p2 pf pl
  go_wp2_with fail
  refine (refCheck11_any qa qb qc _).mono ?_
  rintro e w3 ⟨rfl, hx3⟩
  rw [HE.out.2.1]
  have hX3 := HB.out.2.2.trans ((hx1.trans hx2).trans hx3)
  have hP := HB.out.1.ext ((hx1.trans hx2).trans hx3)
  have hQ := HB.out.2.1.ext ((hx1.trans hx2).trans hx3)
  clear q0 q1' q2 qf ql hx1 hx2 hx3
  obtain ⟨gP, hgP⟩ : ∃ g, w.heap.size = g := ⟨_, rfl⟩
  obtain ⟨gQ, hgQ⟩ : ∃ g, w.heap.size + 1 = g := ⟨_, rfl⟩
  have HG := Lib.hid (And.intro hgP hgQ)
  rw [hgP] at hP
  rw [hgQ] at hQ
  rw [hgQ, hgP]
  have HPQ := Lib.hid (And.intro hP (And.intro hQ hX3))
  obtain ⟨p0, p1, p2, pf, pl⟩ := hP
  obtain ⟨q0, q1', q2, qf, ql⟩ := hQ
  clear hX3
  go_upto_region 5 with fail
  have hS := Box2.new w3 (.int .i64 256) (.int .i64 ty) 28
  have h4 := (Ext.refl w3).alloc (Obj.cells #[.int .i64 256, .int .i64 ty] 28)
  obtain ⟨W4, hW4⟩ : ∃ W, W = w3.alloc (Obj.cells #[.int .i64 256, .int .i64 ty] 28) := ⟨_, rfl⟩
  obtain ⟨gS, hgS⟩ : ∃ g, w3.heap.size = g := ⟨_, rfl⟩
  rw [← hW4] at hS h4 ⊢
  rw [hgS] at hS ⊢
  have H4 := Lib.hid (And.intro (HPQ.out.1.ext h4) (And.intro (HPQ.out.2.1.ext h4) (And.intro hS (HPQ.out.2.2.trans h4))))
  obtain ⟨s0', s1', sf, sl⟩ := hS
  clear hW4 hgS p0 p1 p2 pf pl q0 q1' q2 qf ql HPQ h4
  go_wp2_with fail
  refine (HK.out.1 _).mono ?_
  rintro e w5 ⟨⟨gW, cW, rfl, hW8⟩, hx5⟩
  clear s0' s1' sf sl
  go_upto_region 8 with fail
  go_wp2_with (first
    | (at_builtin; have hx7 : Ext w5 w7 := Below.trans hx6 hbel7; have hown7' : w7.ownsRow w5.heap.size 24 1 v7 16 (fU (W8 ++ W8)) := (by simpa [fU_append] using hown7); refine wpList_app_zeros rfl (.tmp 126) (.const (.int .i64 240)) rfl (v := v7) rfl hown7' (by decide) 240 rfl (by decide) (by decide) hx7.size ?_; intro v8 w8 hown8 hbel8; have hx8 : Ext W4 w8 := hx5.trans (Below.trans hx7 hbel8); obtain ⟨p0, p1, p2, pf, pl⟩ := H4.out.1.ext hx8; rw [← HE.out.2.2.2.1] at hown8; obtain ⟨A8, c8, rfl, hM0⟩ := Sl.of_own hown8; clear hown8 hbel8 hown7' hown7 hbel7 hat7 hgr7 hown6 hbel6 hat6 hgr6)
    | (at_builtin; have hx6 : Ext w5 w6 := Below.trans ((Ext.refl w5).alloc _) hbel6; refine wpList_app EU rfl (.tmp 124) (.tmp 125) rfl rfl hown6 rfl (hW8.ext hx6) (by rw [fU_length, HE.out.2.2.1]) (fU_one W8) (by omega) hx6.size ?_; intro v7 w7 hown7 hbel7 hat7 hgr7)
    | (at_builtin; refine wpList_app EU rfl (.tmp 122) (.tmp 123) rfl rfl (own_lit (w := w5) (base := w5.heap.size) (e := 24) (size := 1) #[] _ 0 (by simp) (Nat.le_refl _) (by decide) rfl) rfl (hW8.alloc _) (by rw [fU_length, HE.out.2.2.1]) (fU_one W8) (by omega) (by simp) ?_; intro v6 w6 hown6 hbel6 hat6 hgr6))
  clear p0 p1 p2 pf pl
  refine (HK.out.2.1 A8 c8 w8 hM0).mono ?_
  rintro e w9 ⟨AM, cM, rfl, -, hM, hx9⟩
  have hX9 : Ext W4 w9 := hx8.trans hx9
  obtain ⟨q0, q1', q2, qf, ql⟩ := H4.out.2.1.ext hX9
  clear hM0 hx9 hx8 hx7 hx6 hW8 hx5
  go_wp2_with fail
  refine (HK.out.2.2.1 _).mono ?_
  rintro e w10 ⟨A3, c3, rfl, hown3, -, hx10⟩
  have hsz10 := hx10.size
  clear q0 q1' q2 qf ql
  go_wp2_with (at_builtin; refine wpList_app EE rfl (.tmp 139) (.tmp 143) rfl rfl (hown3.alloc _) rfl (Sl.lit' _ _ _ _ rfl (by decide)) rfl (fE_one [(at_, v)]) (by decide) (by simp; omega) ?_; intro v11 w11 hown11 hbel11 hat11 hgr11; have hownL : w11.ownsRow w9.heap.size 38 2 v11 4 (fE L) := (by rw [HE.out.2.2.2.2.2.2.2.1, fE_append]; exact hown11); have hX11 : Ext W4 w11 := hX9.trans (Below.trans (hx10.alloc _) hbel11); have hM11 := hM.ext (Below.trans (hx10.alloc _) hbel11); obtain ⟨AL, cL, rfl, hL⟩ := Sl.of_own hownL; clear hownL hown11 hbel11 hat11 hgr11 hown3 hsz10)
  refine (HK.out.2.2.2.1 AL cL w11 hL).mono ?_
  rintro e w12 ⟨rfl, hx12⟩
  go_wp2_with fail
  refine (HK.out.2.2.2.2.1 AL cL w12 (hL.ext hx12)).mono ?_
  rintro e w13 ⟨AJ, cJ, rfl, hJ, hx13⟩
  have hM13 := (hM11.ext hx12).ext hx13
  have hL13 := (hL.ext hx12).ext hx13
  have hX13 := (hX11.trans hx12).trans hx13
  clear hM hM11 hL hX9 hX11 hx10 hx12 hx13
  go_wp2_with fail
  refine (HK.out.2.2.2.2.2.1 AM cM w13 hM13).mono ?_
  rintro e w14 ⟨A6, c6, rfl, hown, -, hx14⟩
  obtain ⟨gF, rfl, hgF⟩ := own_head hown (by omega)
  obtain ⟨adJ, -, rfl, -, -⟩ := hJ.u_at (k := 0) (by rw [HE.out.2.2.2.2.2.1]; omega)
  have H13 := Lib.hid (And.intro hM13 (And.intro hL13 (And.intro hX13 hJ)))
  clear hM13 hL13 hX13 hJ
  go_wp2_with fail
  go_loopw [30] (fun i wr => ∃ k : Nat, k ≤ 16 ∧ i = .int .i64 k ∧ wr.ownsRow w13.heap.size 24 1 (.slice (some ⟨gF, 0, none⟩) 256 c6) 256 (fU (splice M 24 (J.take k))) ∧ Ext w13 wr) (fun i _ => 16 - (intOf i).toNat)
  case atStart => exact ⟨0, Nat.zero_le _, rfl, by rw [show splice M 24 (J.take 0) = M from by simp [splice]]; exact hown, hx14⟩
  case round =>
    clear hown hx14
    obtain ⟨k, hk, rfl, hown, hx⟩ := hrel
    by_cases hlt : k < 16
    · obtain ⟨ad, y, had, hy, g1⟩ := (H13.out.2.2.2.ext hx).u_at (k := k) (by rw [HE.out.2.2.2.2.2.1]; exact hlt)
      injection had with had
      subst had
      have hlen : (splice M 24 (J.take k)).length = 256 := by rw [splice_len (by rw [List.length_take, HE.out.2.2.2.2.2.1, HE.out.2.2.2.2.1]; omega), HE.out.2.2.2.2.1]
      obtain ⟨u, hu, c0, cf⟩ := own_at_U hown (i := 24 + k) (by rw [hlen]; omega)
      have hgl := block_lt_of_cell c0
      have hst := splice_step (m := M) (off := 24) hy (by rw [HE.out.2.2.2.2.1]; omega)
      have HS := Lib.hid hst
      have HO := Lib.hid (And.intro hown hx)
      have hw24 : IntKind.i64.wrap (24 + (k : Int)) = 24 + (k : Int) := by rw [IntKind.wrap_i64]; omega
      have hn24 : (24 + (k : Int)).toNat = 24 + k := by omega
      have hb1 : 24 + (k : Int) < 256 := by omega
      clear hu hlen hst hy hown hx
      go_wp2_with fail
      go_roundw
      case rel => exact ⟨k + 1, by omega, by go_num, by rw [← HS.out]; exact own_set_U HO.out.1 (24 + k) y, HO.out.2.setCell (p := ⟨gF, 24 + k, none⟩) hgF _⟩
      case measure => simp [intOf]; omega
    · obtain rfl : k = 16 := by omega
      rw [show J.take 16 = J from by rw [← HE.out.2.2.2.2.2.1, List.take_length]] at hown
      have hlen : (splice M 24 J).length = 256 := by rw [splice_len (by rw [HE.out.2.2.2.2.2.1, HE.out.2.2.2.2.1]; omega), HE.out.2.2.2.2.1]
      obtain ⟨u, hu, c0, cf⟩ := own_at_U hown (i := sp.toNat) (by rw [hlen]; omega)
      have hgl := block_lt_of_cell c0
      have hb1 : sp < 256 := by omega
      have hownX := own_set_U hown sp.toNat by_
      rw [← HE.out.2.2.2.2.2.2.1] at hownX
      have HO := Lib.hid (And.intro (own_sl hownX) (hx.setCell (p := ⟨gF, sp.toNat, none⟩) hgF (.int .u64 by_)))
      clear hu hlen hown hx hownX
      go_upto_region 23 with fail
      rw [show ((16 : Nat) : Int) = 16 from rfl]
      obtain ⟨W7, hW7⟩ : ∃ W, W = wr.setCell ⟨gF, sp.toNat, none⟩ (.int .u64 by_) := ⟨_, rfl⟩
      obtain ⟨hXs, hx7⟩ := HO.out
      rw [← hW7] at hXs hx7 ⊢
      have hX7 := H13.out.2.2.1.trans hx7
      have hP := H4.out.1.ext hX7
      have hQ := H4.out.2.1.ext hX7
      have hS := H4.out.2.2.1.ext hX7
      have hX := H4.out.2.2.2.trans hX7
      have hM := H13.out.1.ext hx7
      have hL := H13.out.2.1.ext hx7
      clear hW7 HO H4 H13 hX7 hx7 c0 cf hgl hb1
      go_wp2_with fail
      refine (HK.out.2.2.2.2.2.2.1 _ c6 W7 hXs).mono ?_
      rintro e w20 ⟨⟨B7, d7, rfl⟩, hx20⟩
      go_wp2_with fail
      refine (HK.out.2.2.2.2.2.2.2.1 _ c6 w20 (hXs.ext hx20)).mono ?_
      rintro e w21 ⟨⟨B8, d8, rfl⟩, hx21⟩
      have hxx := hx20.trans hx21
      replace hP := hP.ext hxx
      replace hQ := hQ.ext hxx
      replace hS := hS.ext hxx
      replace hM := hM.ext hxx
      replace hL := hL.ext hxx
      replace hXs := hXs.ext hxx
      replace hX := hX.trans hxx
      clear hx20 hx21 hxx
      go_wp2_with fail
      refine (HK.out.2.2.2.2.2.2.2.2.1 _ c6 w21 hXs).mono ?_
      rintro e W101 ⟨AD, cD, BD, dD, rfl, sD, tD, hxx⟩
      go_upto_region 28 with fail
      have hD := DV.new W101 m1 q1 l1 n1 AD cD BD dD 46 sD tD
      have loD := Nat.le_trans hX.size hxx.size
      replace hxx := Ext.trans hxx ((Ext.refl W101).alloc (Obj.cells #[.slice AD m1.length cD, .slice BD q1.length dD, .int .i64 l1, .bool n1] 46))
      obtain ⟨W102, hW⟩ : ∃ W, W = W101.alloc (Obj.cells #[.slice AD m1.length cD, .slice BD q1.length dD, .int .i64 l1, .bool n1] 46) := ⟨_, rfl⟩
      obtain ⟨gD, hg⟩ : ∃ g, W101.heap.size = g := ⟨_, rfl⟩
      rw [← hW] at hD hxx ⊢
      rw [hg] at hD loD  ⊢
      clear hW hg sD tD
      replace hP := hP.ext hxx
      replace hQ := hQ.ext hxx
      replace hS := hS.ext hxx
      replace hM := hM.ext hxx
      replace hL := hL.ext hxx
      replace hXs := hXs.ext hxx
      replace hX := hX.trans hxx
      clear hxx
      obtain ⟨AD, cD, BD, dD, bD, sD, tD⟩ := hD
      obtain ⟨b0, b1, b2, b3, bf, bl⟩ := bD
      go_wp2_with fail
      refine (HK.out.2.2.2.2.2.2.2.2.2.1 AD cD BD dD W102 sD tD).mono ?_
      rintro e W103 ⟨AK, cK, BK, dK, rfl, sK, tK, hxx⟩
      have hD := DV.mk (Box4.mk b0 b1 b2 b3 bf bl) sD tD
      clear b0 b1 b2 b3 bf bl
      go_upto_region 29 with fail
      have hK := DV.new W103 z q5 ((-1)) false AK cK BK dK 46 sK tK
      have neDK : gD ≠ W103.heap.size := Nat.ne_of_lt (Nat.lt_of_lt_of_le hD.lt hxx.size)
      have loK := Nat.le_trans hX.size hxx.size
      replace hxx := Ext.trans hxx ((Ext.refl W103).alloc (Obj.cells #[.slice AK z.length cK, .slice BK q5.length dK, .int .i64 (-1), .bool false] 46))
      obtain ⟨W104, hW⟩ : ∃ W, W = W103.alloc (Obj.cells #[.slice AK z.length cK, .slice BK q5.length dK, .int .i64 (-1), .bool false] 46) := ⟨_, rfl⟩
      obtain ⟨gK, hg⟩ : ∃ g, W103.heap.size = g := ⟨_, rfl⟩
      rw [← hW] at hK hxx ⊢
      rw [hg] at hK loK neDK ⊢
      clear hW hg sK tK
      replace hD := hD.ext hxx
      replace hP := hP.ext hxx
      replace hQ := hQ.ext hxx
      replace hS := hS.ext hxx
      replace hM := hM.ext hxx
      replace hL := hL.ext hxx
      replace hXs := hXs.ext hxx
      replace hX := hX.trans hxx
      clear hxx
      obtain ⟨AK, cK, BK, dK, bK, sK, tK⟩ := hK
      obtain ⟨b0, b1, b2, b3, bf, bl⟩ := bK
      go_wp2_with fail
      refine (HK.out.2.2.2.2.2.2.2.2.2.2.1 AK cK W104 sK).mono ?_
      rintro e W105 ⟨⟨g11, c11, rfl, hH⟩, hxx⟩
      have hK := DV.mk (Box4.mk b0 b1 b2 b3 bf bl) sK tK
      clear b0 b1 b2 b3 bf bl
      replace hD := hD.ext hxx
      replace hK := hK.ext hxx
      replace hP := hP.ext hxx
      replace hQ := hQ.ext hxx
      replace hS := hS.ext hxx
      replace hM := hM.ext hxx
      replace hL := hL.ext hxx
      replace hXs := hXs.ext hxx
      replace hX := hX.trans hxx
      clear hxx
      go_wp2_with fail
      refine (HK.out.2.2.2.2.2.2.2.2.2.2.2.1 _ c11 W105 hH).mono ?_
      rintro e W106 ⟨A12, c12, rfl, hLa, hxx⟩
      replace hD := hD.ext hxx
      replace hK := hK.ext hxx
      replace hP := hP.ext hxx
      replace hQ := hQ.ext hxx
      replace hS := hS.ext hxx
      replace hM := hM.ext hxx
      replace hL := hL.ext hxx
      replace hXs := hXs.ext hxx
      replace hH := hH.ext hxx
      replace hX := hX.trans hxx
      clear hxx
      go_upto_region 33 with fail
      have hc6 : 256 ≤ c6 := hXs.le
      have HX := Lib.hid (And.intro hP (And.intro hQ (And.intro hS (And.intro hM (And.intro hL (And.intro hLa hX))))))
      clear hP hQ hM hL hLa hX hD hK hH
      rcases HC.out with ⟨c1, c2, c3⟩ | ⟨hcs, rfl, rfl, hll, hat, k14, k15, kt, kd⟩
      · have k13 := HK.out.2.2.2.2.2.2.2.2.2.2.2.2.1
        rw [c2, if_pos rfl] at k13
        have hne : ∀ w, (binOp .neq 28 (.agg #[.int .i64 f2, .int .i64 f3]) (.agg #[.int .i64 256, .int .i64 ty])).run Try.prog w = .ok (.bool true) w := fun w => by rw [run_neqS, c3]; rfl
        have H13 := Lib.hid k13
        clear k13 c2 c3 HC HK
        go_wp2_with fail
        refine (H13.out _ c6 W106 hXs).mono ?_
        rintro e w30 ⟨rfl, hx30⟩
        obtain ⟨s0', s1', sf, sl⟩ := hS.ext hx30
        have HX3 := Lib.hid (HX.out.2.2.2.2.2.2.trans hx30)
        clear hS hXs hx30
        go_wp2_with fail
        go_ret
        exact ⟨rfl, HX3.out.alloc _⟩
      · have k13 := HK.out.2.2.2.2.2.2.2.2.2.2.2.2.1
        have HR := Lib.hid (And.intro hll (And.intro hat (And.intro k14 (And.intro k15 (And.intro kt kd)))))
        clear hll hat k14 k15 kt kd
        by_cases h8 : sp < 8
        · rcases hcs with hn | hn | ⟨hn, h9, h10⟩
          · omega
          · rw [hn, if_neg (by decide)] at k13
            have H13 := Lib.hid k13
            clear k13 hn HC
            go_wp2_with fail
            refine (H13.out _ c6 W106 hXs).mono ?_
            rintro e w30 ⟨rfl, hx30⟩
            obtain ⟨s0', s1', sf, sl⟩ := hS.ext hx30
            clear hS hXs
            go_upto_region 37 with fail
            have hxc : Ext W106 (w30.alloc (Obj.cells #[.int .i64 f2, .int .i64 f3] 28)) := hx30.alloc _
            obtain ⟨wc, hwc⟩ : ∃ W, W = w30.alloc (Obj.cells #[.int .i64 f2, .int .i64 f3] 28) := ⟨_, rfl⟩
            rw [← hwc] at hxc ⊢
            clear hwc hx30 s0' s1' sf sl
            have HX2 := Lib.hid (And.intro (HX.out.1.ext hxc) (And.intro (HX.out.2.1.ext hxc) (And.intro (HX.out.2.2.1.ext hxc) (And.intro (HX.out.2.2.2.1.ext hxc) (And.intro (HX.out.2.2.2.2.1.ext hxc) (And.intro (HX.out.2.2.2.2.2.1.ext hxc) (HX.out.2.2.2.2.2.2.trans hxc)))))))
            clear HX hxc
            go_wp2_with fail
            refine (HR.out.2.2.1 A12 c12 wc HX2.out.2.2.2.2.2.1).mono ?_
            rintro e w40 ⟨rfl, hx40⟩
            go_upto_region 38 with fail
            have hT := (Box2.new w40 (.int .i64 256) (.int .i64 ty) 28).ext ((Ext.refl _).alloc (Obj.cells #[.bool true, .bool true] 53))
            have hI := Box2.new (w40.alloc (Obj.cells #[.int .i64 256, .int .i64 ty] 28)) (.bool true) (.bool true) 53
            simp only [World.size_alloc] at hI
            have hx41 := (hx40.alloc (Obj.cells #[.int .i64 256, .int .i64 ty] 28)).alloc (Obj.cells #[.bool true, .bool true] 53)
            obtain ⟨w41, hw41⟩ : ∃ W, W = (w40.alloc (Obj.cells #[.int .i64 256, .int .i64 ty] 28)).alloc (Obj.cells #[.bool true, .bool true] 53) := ⟨_, rfl⟩
            obtain ⟨gI, hgI⟩ : ∃ g, w40.heap.size + 1 = g := ⟨_, rfl⟩
            obtain ⟨gT, hgT⟩ : ∃ g, w40.heap.size = g := ⟨_, rfl⟩
            rw [← hw41] at hT hI hx41 ⊢
            rw [hgI] at hI ⊢
            rw [hgT] at hT ⊢
            have H41 := Lib.hid (And.intro hT (And.intro hI hx41))
            clear hT hI hx41 hw41 hgI hgT hx40
            go_wp2_with fail
            refine (HR.out.2.2.2.1 A12 c12 w41 (HX2.out.2.2.2.2.2.1.ext H41.out.2.2)).mono ?_
            rintro e w42 ⟨rfl, hx42⟩
            go_upto_region 39 with fail
            have hRR := Box3.new w42 (.int .i64 qa) (.int .i64 qb) (.int .i64 qc) 23
            have hx43 := hx42.alloc (Obj.cells #[.int .i64 qa, .int .i64 qb, .int .i64 qc] 23)
            obtain ⟨w43, hw43⟩ : ∃ W, W = w42.alloc (Obj.cells #[.int .i64 qa, .int .i64 qb, .int .i64 qc] 23) := ⟨_, rfl⟩
            obtain ⟨gR, hgR⟩ : ∃ g, w42.heap.size = g := ⟨_, rfl⟩
            rw [← hw43] at hRR hx43 ⊢
            rw [hgR] at hRR ⊢
            have hxx := H41.out.2.2.trans hx43
            obtain ⟨t0', t1', tf, tl⟩ := H41.out.1.ext hx43
            obtain ⟨i0', i1', if', il⟩ := H41.out.2.1.ext hx43
            obtain ⟨r0, r1, r2, rf, rl⟩ := hRR
            obtain ⟨s0', s1', sf, sl⟩ := HX2.out.2.2.1.ext hxx
            obtain ⟨q0, q1', q2, qf, ql⟩ := HX2.out.2.1.ext hxx
            obtain ⟨ad, y, rfl, hy, g1⟩ := (HX2.out.2.2.2.2.2.1.ext hxx).u_at (k := at_.toNat) (by rw [HR.out.1]; omega)
            rw [HR.out.2.1] at hy
            injection hy with hy
            subst hy
            have hgl := block_lt_of_cell g1
            have hn1 : ∀ w, (binOp .neq 28 (.agg #[.int .i64 256, .int .i64 ty]) (.agg #[.int .i64 256, .int .i64 ty])).run Try.prog w = .ok (.bool false) w := fun w => by rw [run_neqS]; simp
            have hn2 := run_neqB2
            have hn3 : ∀ w, (binOp .neq 23 (.agg #[.int .i64 qa, .int .i64 qb, .int .i64 qc]) (.agg #[.int .i64 qa, .int .i64 qb, .int .i64 qc])).run Try.prog w = .ok (.bool false) w := fun w => by rw [run_neqP]; simp [neP]
            have hb1 : at_ < 256 := by omega
            have H43 := Lib.hid (And.intro (HX2.out.2.2.2.1.ext hxx) (And.intro (HX2.out.2.2.2.2.1.ext hxx) (And.intro (HX2.out.2.2.2.2.2.1.ext hxx) (HX2.out.2.2.2.2.2.2.trans hxx))))
            clear hw43 hgR hx43 hx42 hxx HX2 H41
            go_wp2_with fail
            clear t0' t1' tf tl i0' i1' if' il r0 r1 r2 rf rl s0' s1' sf sl q0 q1' q2 qf ql g1 hgl hn1 hn2 hn3 hb1
            refine (HK.out.2.2.2.2.2.2.2.2.2.2.2.2.2 AM cM AL cL w43 H43.out.1 H43.out.2.1).mono ?_
            rintro e w44 ⟨A16, c16, rfl, hZs, hx44⟩
            have hLs := H43.out.2.2.1.ext hx44
            obtain ⟨adZ, -, rfl, -, -⟩ := hZs.u_at (k := 0) (by rw [HE.out.2.2.2.2.2.2.2.2]; omega)
            have hcl := hZs.le
            have hdl := hLs.le
            have hcm := hZs.max
            have hdm := hLs.max
            unfold maxLen at hcm hdm
            have hS1 : ∀ k, Calls Try.prog 38 #[.slice (some adZ) 24 c16, .slice (some ad) 24 c12] (w44.drewN k) fun e w' => e = .returned (.bool true) ∧ Drew (w44.drewN k) w' := fun k => by
              have e1 : (Z.take 24).length = 24 := by rw [List.length_take, HE.out.2.2.2.2.2.2.2.2]; rfl
              have e2 : (last.take 24).length = 24 := by rw [List.length_take, HR.out.1]; rfl
              have h1 := (show Sl w44 (some adZ) Z.length c16 (fU Z) by rw [HE.out.2.2.2.2.2.2.2.2]; exact hZs).u_take (k := 24) (by rw [HE.out.2.2.2.2.2.2.2.2]; omega)
              have h2 := (show Sl w44 (some ad) last.length c12 (fU last) by rw [HR.out.1]; exact hLs).u_take (k := 24) (by rw [HR.out.1]; omega)
              have := same2_yes (Z.take 24) (last.take 24) HR.out.2.2.2.2.1 (some adZ) (some ad) c16 c12 (w44.drewN k) (h1.drewN k) (h2.drewN k)
              rw [e1, e2] at this
              exact this
            have hS2 : ∀ k, Calls Try.prog 38 #[.slice (some (adZ.add 96)) 160 (c16 - 96), .slice (some (ad.add 96)) 160 (c12 - 96)] (w44.drewN k) fun e w' => e = .returned (.bool true) ∧ Drew (w44.drewN k) w' := fun k => by
              have e1 : (Z.drop 96).length = 160 := by rw [List.length_drop, HE.out.2.2.2.2.2.2.2.2]
              have e2 : (last.drop 96).length = 160 := by rw [List.length_drop, HR.out.1]
              have h1 := (show Sl w44 (some adZ) Z.length c16 (fU Z) by rw [HE.out.2.2.2.2.2.2.2.2]; exact hZs).u_drop (k := 96) (by rw [HE.out.2.2.2.2.2.2.2.2]; omega)
              have h2 := (show Sl w44 (some ad) last.length c12 (fU last) by rw [HR.out.1]; exact hLs).u_drop (k := 96) (by rw [HR.out.1]; omega)
              rw [if_neg (by omega)] at h1 h2
              have := same2_yes (Z.drop 96) (last.drop 96) HR.out.2.2.2.2.2 _ _ (c16 - 96) (c12 - 96) (w44.drewN k) (h1.drewN k) (h2.drewN k)
              rw [e1, e2] at this
              exact this
            obtain ⟨KC, hKC⟩ : ∃ K, c16 - 96 = K := ⟨_, rfl⟩
            obtain ⟨KD, hKD⟩ : ∃ K, c12 - 96 = K := ⟨_, rfl⟩
            rw [hKC, hKD] at hS2
            have HS := Lib.hid (And.intro hS1 hS2)
            have HX4 := Lib.hid (H43.out.2.2.2.trans hx44)
            have hc96 : ¬ c16 = 96 := by omega
            have hd96 : ¬ c12 = 96 := by omega
            have hc24 : ¬ c16 = 24 := by omega
            have hd24 : ¬ c12 = 24 := by omega
            clear hS1 hS2 hZs hLs H43 hx44 HR HK HE
            go_wp2_with fail
            go_quiet (first
              | ((go_at_call 38; (with_reducible exact quiet_D (HS.out.1 _))))
              | ((go_at_call 38; exact quiet_D (HS.out.2 _))))
            go_wp2_with fail
            go_ret
            exact ⟨rfl, HX4.out.drewN _⟩
          · rw [hn, if_pos rfl, h9, h10] at k13
            have hne : ∀ w, (binOp .neq 28 (.agg #[.int .i64 256, .int .i64 ty]) (.agg #[.int .i64 256, .int .i64 ty])).run Try.prog w = .ok (.bool false) w := fun w => by rw [run_neqS]; simp
            have H13 := Lib.hid k13
            clear k13 hn h9 h10 HC
            go_wp2_with fail
            refine (H13.out _ c6 W106 hXs).mono ?_
            rintro e w30 ⟨rfl, hx30⟩
            obtain ⟨s0', s1', sf, sl⟩ := hS.ext hx30
            clear hS hXs
            go_upto_region 37 with fail
            have hxc : Ext W106 (w30.alloc (Obj.cells #[.int .i64 256, .int .i64 ty] 28)) := hx30.alloc _
            obtain ⟨wc, hwc⟩ : ∃ W, W = w30.alloc (Obj.cells #[.int .i64 256, .int .i64 ty] 28) := ⟨_, rfl⟩
            rw [← hwc] at hxc ⊢
            clear hwc hx30 s0' s1' sf sl hne
            have HX2 := Lib.hid (And.intro (HX.out.1.ext hxc) (And.intro (HX.out.2.1.ext hxc) (And.intro (HX.out.2.2.1.ext hxc) (And.intro (HX.out.2.2.2.1.ext hxc) (And.intro (HX.out.2.2.2.2.1.ext hxc) (And.intro (HX.out.2.2.2.2.2.1.ext hxc) (HX.out.2.2.2.2.2.2.trans hxc)))))))
            clear HX hxc
            go_wp2_with fail
            refine (HR.out.2.2.1 A12 c12 wc HX2.out.2.2.2.2.2.1).mono ?_
            rintro e w40 ⟨rfl, hx40⟩
            go_upto_region 38 with fail
            have hT := (Box2.new w40 (.int .i64 256) (.int .i64 ty) 28).ext ((Ext.refl _).alloc (Obj.cells #[.bool true, .bool true] 53))
            have hI := Box2.new (w40.alloc (Obj.cells #[.int .i64 256, .int .i64 ty] 28)) (.bool true) (.bool true) 53
            simp only [World.size_alloc] at hI
            have hx41 := (hx40.alloc (Obj.cells #[.int .i64 256, .int .i64 ty] 28)).alloc (Obj.cells #[.bool true, .bool true] 53)
            obtain ⟨w41, hw41⟩ : ∃ W, W = (w40.alloc (Obj.cells #[.int .i64 256, .int .i64 ty] 28)).alloc (Obj.cells #[.bool true, .bool true] 53) := ⟨_, rfl⟩
            obtain ⟨gI, hgI⟩ : ∃ g, w40.heap.size + 1 = g := ⟨_, rfl⟩
            obtain ⟨gT, hgT⟩ : ∃ g, w40.heap.size = g := ⟨_, rfl⟩
            rw [← hw41] at hT hI hx41 ⊢
            rw [hgI] at hI ⊢
            rw [hgT] at hT ⊢
            have H41 := Lib.hid (And.intro hT (And.intro hI hx41))
            clear hT hI hx41 hw41 hgI hgT hx40
            go_wp2_with fail
            refine (HR.out.2.2.2.1 A12 c12 w41 (HX2.out.2.2.2.2.2.1.ext H41.out.2.2)).mono ?_
            rintro e w42 ⟨rfl, hx42⟩
            go_upto_region 39 with fail
            have hRR := Box3.new w42 (.int .i64 qa) (.int .i64 qb) (.int .i64 qc) 23
            have hx43 := hx42.alloc (Obj.cells #[.int .i64 qa, .int .i64 qb, .int .i64 qc] 23)
            obtain ⟨w43, hw43⟩ : ∃ W, W = w42.alloc (Obj.cells #[.int .i64 qa, .int .i64 qb, .int .i64 qc] 23) := ⟨_, rfl⟩
            obtain ⟨gR, hgR⟩ : ∃ g, w42.heap.size = g := ⟨_, rfl⟩
            rw [← hw43] at hRR hx43 ⊢
            rw [hgR] at hRR ⊢
            have hxx := H41.out.2.2.trans hx43
            obtain ⟨t0', t1', tf, tl⟩ := H41.out.1.ext hx43
            obtain ⟨i0', i1', if', il⟩ := H41.out.2.1.ext hx43
            obtain ⟨r0, r1, r2, rf, rl⟩ := hRR
            obtain ⟨s0', s1', sf, sl⟩ := HX2.out.2.2.1.ext hxx
            obtain ⟨q0, q1', q2, qf, ql⟩ := HX2.out.2.1.ext hxx
            obtain ⟨ad, y, rfl, hy, g1⟩ := (HX2.out.2.2.2.2.2.1.ext hxx).u_at (k := at_.toNat) (by rw [HR.out.1]; omega)
            rw [HR.out.2.1] at hy
            injection hy with hy
            subst hy
            have hgl := block_lt_of_cell g1
            have hn1 : ∀ w, (binOp .neq 28 (.agg #[.int .i64 256, .int .i64 ty]) (.agg #[.int .i64 256, .int .i64 ty])).run Try.prog w = .ok (.bool false) w := fun w => by rw [run_neqS]; simp
            have hn2 := run_neqB2
            have hn3 : ∀ w, (binOp .neq 23 (.agg #[.int .i64 qa, .int .i64 qb, .int .i64 qc]) (.agg #[.int .i64 qa, .int .i64 qb, .int .i64 qc])).run Try.prog w = .ok (.bool false) w := fun w => by rw [run_neqP]; simp [neP]
            have hb1 : at_ < 256 := by omega
            have H43 := Lib.hid (And.intro (HX2.out.2.2.2.1.ext hxx) (And.intro (HX2.out.2.2.2.2.1.ext hxx) (And.intro (HX2.out.2.2.2.2.2.1.ext hxx) (HX2.out.2.2.2.2.2.2.trans hxx))))
            clear hw43 hgR hx43 hx42 hxx HX2 H41
            go_wp2_with fail
            clear t0' t1' tf tl i0' i1' if' il r0 r1 r2 rf rl s0' s1' sf sl q0 q1' q2 qf ql g1 hgl hn1 hn2 hn3 hb1
            refine (HK.out.2.2.2.2.2.2.2.2.2.2.2.2.2 AM cM AL cL w43 H43.out.1 H43.out.2.1).mono ?_
            rintro e w44 ⟨A16, c16, rfl, hZs, hx44⟩
            have hLs := H43.out.2.2.1.ext hx44
            obtain ⟨adZ, -, rfl, -, -⟩ := hZs.u_at (k := 0) (by rw [HE.out.2.2.2.2.2.2.2.2]; omega)
            have hcl := hZs.le
            have hdl := hLs.le
            have hcm := hZs.max
            have hdm := hLs.max
            unfold maxLen at hcm hdm
            have hS1 : ∀ k, Calls Try.prog 38 #[.slice (some adZ) 24 c16, .slice (some ad) 24 c12] (w44.drewN k) fun e w' => e = .returned (.bool true) ∧ Drew (w44.drewN k) w' := fun k => by
              have e1 : (Z.take 24).length = 24 := by rw [List.length_take, HE.out.2.2.2.2.2.2.2.2]; rfl
              have e2 : (last.take 24).length = 24 := by rw [List.length_take, HR.out.1]; rfl
              have h1 := (show Sl w44 (some adZ) Z.length c16 (fU Z) by rw [HE.out.2.2.2.2.2.2.2.2]; exact hZs).u_take (k := 24) (by rw [HE.out.2.2.2.2.2.2.2.2]; omega)
              have h2 := (show Sl w44 (some ad) last.length c12 (fU last) by rw [HR.out.1]; exact hLs).u_take (k := 24) (by rw [HR.out.1]; omega)
              have := same2_yes (Z.take 24) (last.take 24) HR.out.2.2.2.2.1 (some adZ) (some ad) c16 c12 (w44.drewN k) (h1.drewN k) (h2.drewN k)
              rw [e1, e2] at this
              exact this
            have hS2 : ∀ k, Calls Try.prog 38 #[.slice (some (adZ.add 96)) 160 (c16 - 96), .slice (some (ad.add 96)) 160 (c12 - 96)] (w44.drewN k) fun e w' => e = .returned (.bool true) ∧ Drew (w44.drewN k) w' := fun k => by
              have e1 : (Z.drop 96).length = 160 := by rw [List.length_drop, HE.out.2.2.2.2.2.2.2.2]
              have e2 : (last.drop 96).length = 160 := by rw [List.length_drop, HR.out.1]
              have h1 := (show Sl w44 (some adZ) Z.length c16 (fU Z) by rw [HE.out.2.2.2.2.2.2.2.2]; exact hZs).u_drop (k := 96) (by rw [HE.out.2.2.2.2.2.2.2.2]; omega)
              have h2 := (show Sl w44 (some ad) last.length c12 (fU last) by rw [HR.out.1]; exact hLs).u_drop (k := 96) (by rw [HR.out.1]; omega)
              rw [if_neg (by omega)] at h1 h2
              have := same2_yes (Z.drop 96) (last.drop 96) HR.out.2.2.2.2.2 _ _ (c16 - 96) (c12 - 96) (w44.drewN k) (h1.drewN k) (h2.drewN k)
              rw [e1, e2] at this
              exact this
            obtain ⟨KC, hKC⟩ : ∃ K, c16 - 96 = K := ⟨_, rfl⟩
            obtain ⟨KD, hKD⟩ : ∃ K, c12 - 96 = K := ⟨_, rfl⟩
            rw [hKC, hKD] at hS2
            have HS := Lib.hid (And.intro hS1 hS2)
            have HX4 := Lib.hid (H43.out.2.2.2.trans hx44)
            have hc96 : ¬ c16 = 96 := by omega
            have hd96 : ¬ c12 = 96 := by omega
            have hc24 : ¬ c16 = 24 := by omega
            have hd24 : ¬ c12 = 24 := by omega
            clear hS1 hS2 hZs hLs H43 hx44 HR HK HE
            go_wp2_with fail
            go_quiet (first
              | ((go_at_call 38; (with_reducible exact quiet_D (HS.out.1 _))))
              | ((go_at_call 38; exact quiet_D (HS.out.2 _))))
            go_wp2_with fail
            go_ret
            exact ⟨rfl, HX4.out.drewN _⟩
        · clear k13 hcs HC hS hXs
          go_upto_region 37 with fail
          have hxc : Ext W106 W106 := Ext.refl _
          obtain ⟨wc, hwc⟩ : ∃ W, W = W106 := ⟨_, rfl⟩
          rw [← hwc] at ⊢
          rw [show Ext W106 W106 = Ext W106 wc from by rw [hwc]] at hxc
          clear hwc
          have HX2 := Lib.hid (And.intro (HX.out.1.ext hxc) (And.intro (HX.out.2.1.ext hxc) (And.intro (HX.out.2.2.1.ext hxc) (And.intro (HX.out.2.2.2.1.ext hxc) (And.intro (HX.out.2.2.2.2.1.ext hxc) (And.intro (HX.out.2.2.2.2.2.1.ext hxc) (HX.out.2.2.2.2.2.2.trans hxc)))))))
          clear HX hxc
          go_wp2_with fail
          refine (HR.out.2.2.1 A12 c12 wc HX2.out.2.2.2.2.2.1).mono ?_
          rintro e w40 ⟨rfl, hx40⟩
          go_upto_region 38 with fail
          have hT := (Box2.new w40 (.int .i64 256) (.int .i64 ty) 28).ext ((Ext.refl _).alloc (Obj.cells #[.bool true, .bool true] 53))
          have hI := Box2.new (w40.alloc (Obj.cells #[.int .i64 256, .int .i64 ty] 28)) (.bool true) (.bool true) 53
          simp only [World.size_alloc] at hI
          have hx41 := (hx40.alloc (Obj.cells #[.int .i64 256, .int .i64 ty] 28)).alloc (Obj.cells #[.bool true, .bool true] 53)
          obtain ⟨w41, hw41⟩ : ∃ W, W = (w40.alloc (Obj.cells #[.int .i64 256, .int .i64 ty] 28)).alloc (Obj.cells #[.bool true, .bool true] 53) := ⟨_, rfl⟩
          obtain ⟨gI, hgI⟩ : ∃ g, w40.heap.size + 1 = g := ⟨_, rfl⟩
          obtain ⟨gT, hgT⟩ : ∃ g, w40.heap.size = g := ⟨_, rfl⟩
          rw [← hw41] at hT hI hx41 ⊢
          rw [hgI] at hI ⊢
          rw [hgT] at hT ⊢
          have H41 := Lib.hid (And.intro hT (And.intro hI hx41))
          clear hT hI hx41 hw41 hgI hgT hx40
          go_wp2_with fail
          refine (HR.out.2.2.2.1 A12 c12 w41 (HX2.out.2.2.2.2.2.1.ext H41.out.2.2)).mono ?_
          rintro e w42 ⟨rfl, hx42⟩
          go_upto_region 39 with fail
          have hRR := Box3.new w42 (.int .i64 qa) (.int .i64 qb) (.int .i64 qc) 23
          have hx43 := hx42.alloc (Obj.cells #[.int .i64 qa, .int .i64 qb, .int .i64 qc] 23)
          obtain ⟨w43, hw43⟩ : ∃ W, W = w42.alloc (Obj.cells #[.int .i64 qa, .int .i64 qb, .int .i64 qc] 23) := ⟨_, rfl⟩
          obtain ⟨gR, hgR⟩ : ∃ g, w42.heap.size = g := ⟨_, rfl⟩
          rw [← hw43] at hRR hx43 ⊢
          rw [hgR] at hRR ⊢
          have hxx := H41.out.2.2.trans hx43
          obtain ⟨t0', t1', tf, tl⟩ := H41.out.1.ext hx43
          obtain ⟨i0', i1', if', il⟩ := H41.out.2.1.ext hx43
          obtain ⟨r0, r1, r2, rf, rl⟩ := hRR
          obtain ⟨s0', s1', sf, sl⟩ := HX2.out.2.2.1.ext hxx
          obtain ⟨q0, q1', q2, qf, ql⟩ := HX2.out.2.1.ext hxx
          obtain ⟨ad, y, rfl, hy, g1⟩ := (HX2.out.2.2.2.2.2.1.ext hxx).u_at (k := at_.toNat) (by rw [HR.out.1]; omega)
          rw [HR.out.2.1] at hy
          injection hy with hy
          subst hy
          have hgl := block_lt_of_cell g1
          have hn1 : ∀ w, (binOp .neq 28 (.agg #[.int .i64 256, .int .i64 ty]) (.agg #[.int .i64 256, .int .i64 ty])).run Try.prog w = .ok (.bool false) w := fun w => by rw [run_neqS]; simp
          have hn2 := run_neqB2
          have hn3 : ∀ w, (binOp .neq 23 (.agg #[.int .i64 qa, .int .i64 qb, .int .i64 qc]) (.agg #[.int .i64 qa, .int .i64 qb, .int .i64 qc])).run Try.prog w = .ok (.bool false) w := fun w => by rw [run_neqP]; simp [neP]
          have hb1 : at_ < 256 := by omega
          have H43 := Lib.hid (And.intro (HX2.out.2.2.2.1.ext hxx) (And.intro (HX2.out.2.2.2.2.1.ext hxx) (And.intro (HX2.out.2.2.2.2.2.1.ext hxx) (HX2.out.2.2.2.2.2.2.trans hxx))))
          clear hw43 hgR hx43 hx42 hxx HX2 H41
          go_wp2_with fail
          clear t0' t1' tf tl i0' i1' if' il r0 r1 r2 rf rl s0' s1' sf sl q0 q1' q2 qf ql g1 hgl hn1 hn2 hn3 hb1
          refine (HK.out.2.2.2.2.2.2.2.2.2.2.2.2.2 AM cM AL cL w43 H43.out.1 H43.out.2.1).mono ?_
          rintro e w44 ⟨A16, c16, rfl, hZs, hx44⟩
          have hLs := H43.out.2.2.1.ext hx44
          obtain ⟨adZ, -, rfl, -, -⟩ := hZs.u_at (k := 0) (by rw [HE.out.2.2.2.2.2.2.2.2]; omega)
          have hcl := hZs.le
          have hdl := hLs.le
          have hcm := hZs.max
          have hdm := hLs.max
          unfold maxLen at hcm hdm
          have hS1 : ∀ k, Calls Try.prog 38 #[.slice (some adZ) 24 c16, .slice (some ad) 24 c12] (w44.drewN k) fun e w' => e = .returned (.bool true) ∧ Drew (w44.drewN k) w' := fun k => by
            have e1 : (Z.take 24).length = 24 := by rw [List.length_take, HE.out.2.2.2.2.2.2.2.2]; rfl
            have e2 : (last.take 24).length = 24 := by rw [List.length_take, HR.out.1]; rfl
            have h1 := (show Sl w44 (some adZ) Z.length c16 (fU Z) by rw [HE.out.2.2.2.2.2.2.2.2]; exact hZs).u_take (k := 24) (by rw [HE.out.2.2.2.2.2.2.2.2]; omega)
            have h2 := (show Sl w44 (some ad) last.length c12 (fU last) by rw [HR.out.1]; exact hLs).u_take (k := 24) (by rw [HR.out.1]; omega)
            have := same2_yes (Z.take 24) (last.take 24) HR.out.2.2.2.2.1 (some adZ) (some ad) c16 c12 (w44.drewN k) (h1.drewN k) (h2.drewN k)
            rw [e1, e2] at this
            exact this
          have hS2 : ∀ k, Calls Try.prog 38 #[.slice (some (adZ.add 96)) 160 (c16 - 96), .slice (some (ad.add 96)) 160 (c12 - 96)] (w44.drewN k) fun e w' => e = .returned (.bool true) ∧ Drew (w44.drewN k) w' := fun k => by
            have e1 : (Z.drop 96).length = 160 := by rw [List.length_drop, HE.out.2.2.2.2.2.2.2.2]
            have e2 : (last.drop 96).length = 160 := by rw [List.length_drop, HR.out.1]
            have h1 := (show Sl w44 (some adZ) Z.length c16 (fU Z) by rw [HE.out.2.2.2.2.2.2.2.2]; exact hZs).u_drop (k := 96) (by rw [HE.out.2.2.2.2.2.2.2.2]; omega)
            have h2 := (show Sl w44 (some ad) last.length c12 (fU last) by rw [HR.out.1]; exact hLs).u_drop (k := 96) (by rw [HR.out.1]; omega)
            rw [if_neg (by omega)] at h1 h2
            have := same2_yes (Z.drop 96) (last.drop 96) HR.out.2.2.2.2.2 _ _ (c16 - 96) (c12 - 96) (w44.drewN k) (h1.drewN k) (h2.drewN k)
            rw [e1, e2] at this
            exact this
          obtain ⟨KC, hKC⟩ : ∃ K, c16 - 96 = K := ⟨_, rfl⟩
          obtain ⟨KD, hKD⟩ : ∃ K, c12 - 96 = K := ⟨_, rfl⟩
          rw [hKC, hKD] at hS2
          have HS := Lib.hid (And.intro hS1 hS2)
          have HX4 := Lib.hid (H43.out.2.2.2.trans hx44)
          have hc96 : ¬ c16 = 96 := by omega
          have hd96 : ¬ c12 = 96 := by omega
          have hc24 : ¬ c16 = 24 := by omega
          have hd24 : ¬ c12 = 24 := by omega
          clear hS1 hS2 hZs hLs H43 hx44 HR HK HE
          go_wp2_with fail
          go_quiet (first
            | ((go_at_call 38; (with_reducible exact quiet_D (HS.out.1 _))))
            | ((go_at_call 38; exact quiet_D (HS.out.2 _))))
          go_wp2_with fail
          go_ret
          exact ⟨rfl, HX4.out.drewN _⟩
end Go.Proofs.Ytmkcpnklaijkfaa
