/-
  The contract of replaying a device on which nothing is committed.
-/
import Derived.Test.YtmkcpnklaijkfaaDev10
import Derived.Deep.RegionHeld3
namespace Go.Proofs.Ytmkcpnklaijkfaa
open Go.RowKit
set_option maxRecDepth 100000 in
set_option maxHeartbeats 6400000 in
theorem dev10_none (m : List Int) (q : List Dw) (left : Int) (down : Bool) (A : Option Addr) (c : Nat) (B : Option Addr) (d : Nat) (w : World) (hA : Sl w A m.length c (fU m)) (hB : Sl w B q.length d (fD q)) (wm : WfU m) (wd : WfD q) (hd : devB m q left down = true) (h0 : crE (wrd m q) = 0) (hn : (crL (wrd m q)).length = 0) :
    Calls Try.prog 30 #[.agg #[.slice A m.length c, .slice B q.length d, .int .i64 left, .bool down]] w (RetV w (m, q, left, down) 0) := by
  have hP := RT.new w m q left down A c B d hA hB
  have hww := wfU_wrd wd wm
  have hql := dirty_le hd
  have hsz := sizeB_bd (devB_bd hd).1
  have h1 := fun A c B d W (ha : Sl W A m.length c (fU m)) (hb : Sl W B q.length d (fD q)) => dView_ok hd A c B d W ha hb
  have h2 := fun A c W (ha : Sl W A (wrd m q).length c (fU (wrd m q))) => commitRead_any (wrd m q) A c W ha hww
  rw [h0] at h2
  obtain ⟨l, hle⟩ : ∃ l, crL (wrd m q) = l := ⟨_, rfl⟩
  rw [hle] at h2 hn
  obtain ⟨V, hV⟩ : ∃ V, wrd m q = V := ⟨_, rfl⟩
  rw [hV] at h1 h2
  have hne0 : ((l.length : Int) == 0) = true := by rw [hn]; rfl
  have HH := Lib.hid (And.intro h1 h2)
  clear h1 h2 hle hV h0 hn hd hww hA hB
  go_enter Try.func30, Try.ntmps30
  go_upto_region 1 with fail
  obtain ⟨W2, hW2⟩ : ∃ W, W = (w.alloc (Obj.cells #[.slice A m.length c, .slice B q.length d, .int .i64 left, .bool down] 46)).alloc (Obj.cells #[.slice none 0 0, .slice none 0 0, .int .i64 0, .bool false] 46) := ⟨_, rfl⟩
  rw [← hW2] at hP ⊢
  clear hW2
  have HP := Lib.hid hP
  obtain ⟨A1, c1, B1, d1, ⟨b0, b1, b2, b3, bf, bl⟩, sA, sB⟩ := hP.d
  clear hP
  go_wp2_with fail
  refine (HH.out.1 A1 c1 B1 d1 _ sA sB).mono ?_
  rintro e w3 ⟨AV, cV, rfl, -, hV, hx3⟩
  go_wp2_with fail
  refine (HH.out.2 AV cV w3 hV).mono ?_
  rintro e w4 ⟨AL, cL, rfl, hL, hx4⟩
  clear b0 b1 b2 b3 bf bl sA sB hV
  have hP := HP.out.ext (hx3.trans hx4)
  have HP4 := Lib.hid hP
  obtain ⟨A1, c1, B1, d1, ⟨b0, b1, b2, b3, bf, bl⟩, sA, sB⟩ := hP.d
  have HB := Lib.hid (Box4.mk b0 b1 b2 b3 bf bl)
  obtain ⟨r0, r1, r2, r3, rf, rl⟩ := hP.r
  clear hP HP hL
  go_wp2_with fail
  go_region_held3 (fun w' => w'.cell? ⟨w.heap.size, 0, none⟩ = some (.slice A1 m.length c1) ∧ w'.cell? ⟨w.heap.size, 1, none⟩ = some (.slice B1 q.length d1) ∧ w'.cell? ⟨w.heap.size, 2, none⟩ = some (.int .i64 left) ∧ w'.cell? ⟨w.heap.size, 3, none⟩ = some (.bool down)) (go_keep)
   (first
    | (refine step_app EU rfl (.const (.slice none 0 0)) (.tmp 29) rfl rfl (own_nil _ _ _ _) rfl (sA.ext (by repeat (first | assumption | exact Ext.refl _ | refine Ext.drewN ?_ _ | refine Ext.drew ?_ | refine Ext.alloc ?_ _ | refine Ext.trans ?_ (by assumption)))) (by simp) (fU_one m) (by omega) (Nat.le_refl _) ?_; intro v5 w5 hown5 hbel5 _ _; have hx5 : Ext _ w5 := hbel5; have hown5' : w5.ownsRow _ 24 1 v5 m.length (fU m) := (by simpa using hown5); obtain ⟨A5, c5, hv5, hA5⟩ := Sl.of_own hown5'; subst hv5; obtain ⟨y0, y1, y2, y3, yf, yl⟩ := HB.out.ext (w' := w5) (by repeat (first | assumption | exact Ext.refl _ | refine Ext.drewN ?_ _ | refine Ext.drew ?_ | refine Ext.alloc ?_ _ | refine Ext.trans ?_ (by assumption))); obtain ⟨z0, z1, z2, z3, zf, zl⟩ := HP4.out.r.ext (w' := w5) (by repeat (first | assumption | exact Ext.refl _ | refine Ext.drewN ?_ _ | refine Ext.drew ?_ | refine Ext.alloc ?_ _ | refine Ext.trans ?_ (by assumption))))
    | (refine step_app ED rfl (.const (.slice none 0 0)) (.tmp 32) rfl rfl (own_nil _ _ _ _) rfl (sB.ext (by repeat (first | assumption | exact Ext.refl _ | refine Ext.drewN ?_ _ | refine Ext.drew ?_ | refine Ext.alloc ?_ _ | refine Ext.trans ?_ (by assumption)))) (fD_length q) (fD_one q) (by omega) (Nat.le_refl _) ?_; intro v6 w6 hown6 hbel6 _ _; have hx6 : Ext _ w6 := hbel6; have hown6' : w6.ownsRow _ 88 3 v6 q.length (fD q) := (by simpa using hown6); obtain ⟨B6, d6, hv6, hB6⟩ := Sl.of_own hown6'; subst hv6; obtain ⟨y0, y1, y2, y3, yf, yl⟩ := HB.out.ext (w' := w6) (by repeat (first | assumption | exact Ext.refl _ | refine Ext.drewN ?_ _ | refine Ext.drew ?_ | refine Ext.alloc ?_ _ | refine Ext.trans ?_ (by assumption))); obtain ⟨z0, z1, z2, z3, zf, zl⟩ := HP4.out.r.ext (w' := w6) (by repeat (first | assumption | exact Ext.refl _ | refine Ext.drewN ?_ _ | refine Ext.drew ?_ | refine Ext.alloc ?_ _ | refine Ext.trans ?_ (by assumption)))))
  all_goals
    go_wp2_with fail
    refine bodyPost_ret (v := .tuple #[.agg #[.slice A5 m.length c5, .slice B6 q.length d6, .int .i64 left, .bool down], .int .i64 0]) (by simp [results, Try.results30, go_sem, z0, z1, z2, z3]) rfl ?_
    first
      | exact (HP4.out.ext (w' := w6) (by repeat (first | assumption | exact Ext.refl _ | refine Ext.drewN ?_ _ | refine Ext.drew ?_ | refine Ext.alloc ?_ _ | refine Ext.trans ?_ (by assumption)))).retV (hA5.ext (by repeat (first | assumption | exact Ext.refl _ | refine Ext.drewN ?_ _ | refine Ext.drew ?_ | refine Ext.alloc ?_ _ | refine Ext.trans ?_ (by assumption)))) hB6 left down 0
      | exact (HP4.out.ext (w' := w5) (by repeat (first | assumption | exact Ext.refl _ | refine Ext.drewN ?_ _ | refine Ext.drew ?_ | refine Ext.alloc ?_ _ | refine Ext.trans ?_ (by assumption)))).retV hA5 (hB6.ext (by repeat (first | assumption | exact Ext.refl _ | refine Ext.drewN ?_ _ | refine Ext.drew ?_ | refine Ext.alloc ?_ _ | refine Ext.trans ?_ (by assumption)))) left down 0
end Go.Proofs.Ytmkcpnklaijkfaa
