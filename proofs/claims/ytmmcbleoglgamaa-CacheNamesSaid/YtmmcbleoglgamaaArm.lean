/-
  The contracts of arming a device.
-/
import Derived.Test.YtmmcbleoglgamaaKeep
import Derived.Deep.RegionHeld3
namespace Go.Proofs.Ytmmcbleoglgamaa
open Go.RowKit
/-- Arming. -/
def armE (m : List Int) (q : List Dw) (left : Int) (down : Bool) (n : Int) : Int := if devE m q left down = 0 then (if n < -1 ∨ 1000000 < n then 2 else 0) else 8
def armV (m : List Int) (q : List Dw) (left : Int) (down : Bool) (n : Int) : Dev4 := if armE m q left down n = 0 then (m, q, n, false) else zeroV
theorem armE_ok {m : List Int} {q : List Dw} {left : Int} {down : Bool} {n : Int} (h : armE m q left down n = 0) : devE m q left down = 0 ∧ -1 ≤ n ∧ n ≤ 1000000 := by
  unfold armE at h
  split at h
  · split at h
    · cases h
    · exact ⟨by assumption, by omega, by omega⟩
  · cases h
set_option maxHeartbeats 3200000 in
theorem dArm_any (m : List Int) (q : List Dw) (left : Int) (down : Bool) (n : Int) (A : Option Addr) (c : Nat) (B : Option Addr) (d : Nat) (w : World) (hA : Sl w A m.length c (fU m)) (hB : Sl w B q.length d (fD q)) :
    Calls Try.prog 23 #[.agg #[.slice A m.length c, .slice B q.length d, .int .i64 left, .bool down], .int .i64 n] w (RetV w (armV m q left down n) (armE m q left down n)) := by
  have hbx : Box4 ((w.alloc (Obj.cells #[.slice A m.length c, .slice B q.length d, .int .i64 left, .bool down] 25)).alloc (Obj.cells #[.slice none 0 0, .slice none 0 0, .int .i64 0, .bool false] 25)) w.heap.size (.slice A m.length c) (.slice B q.length d) (.int .i64 left) (.bool down) := (Box4.new w _ _ _ _ _).alloc _
  have hrx : Box4 ((w.alloc (Obj.cells #[.slice A m.length c, .slice B q.length d, .int .i64 left, .bool down] 25)).alloc (Obj.cells #[.slice none 0 0, .slice none 0 0, .int .i64 0, .bool false] 25)) (w.heap.size + 1) (.slice none 0 0) (.slice none 0 0) (.int .i64 0) (.bool false) := Box4.new' _ _ (by simp) _ _ _ _ _
  cases hd : devB m q left down with
  | false =>
    have h0 := devE_no hd
    have he : armE m q left down n = 8 := by simp [armE, h0]
    have hv : armV m q left down n = zeroV := by simp [armV, he]
    rw [hv, he]
    have H0 := Lib.hid h0
    clear h0 hv hd he hbx
    go_enter Try.func23, Try.ntmps23
    go_wp2_with fail
    refine (dCheck_any m q left down A c B d _ ((hB.alloc _).alloc _)).mono ?_
    rintro e w1 ⟨rfl, hx1⟩
    rw [H0.out]
    replace hrx := hrx.ext hx1
    have hX1 : Ext w w1 := Ext.trans (((Ext.refl w).alloc _).alloc _) hx1
    obtain ⟨r0, r1, r2, r3, rf, rl⟩ := hrx
    go_wp2_with fail
    exact bodyPost_ret (v := .tuple #[.agg #[.slice none 0 0, .slice none 0 0, .int .i64 0, .bool false], .int .i64 8]) (by simp [results, Try.results23, go_sem, r0, r1, r2, r3]) rfl (retV_zero (set4_ext hX1 (Nat.le_succ _) _ _ _ _))
  | true =>
    have h0 := devE_yes hd
    obtain ⟨k1, k2, k3, k4, hasc⟩ := devB_bd hd
    have hsz := sizeB_bd k1
    have hql := dirty_le hd
    have H0 := Lib.hid h0
    by_cases hn : n < -1 ∨ 1000000 < n
    · have he : armE m q left down n = 2 := by simp [armE, h0, hn]
      have hv : armV m q left down n = zeroV := by simp [armV, he]
      rw [hv, he]
      clear h0 hv hd he hbx hasc k1 k4
      by_cases h1 : n < -1
      · go_enter Try.func23, Try.ntmps23
        go_wp2_with fail
        refine (dCheck_any m q left down A c B d _ ((hB.alloc _).alloc _)).mono ?_
        rintro e w1 ⟨rfl, hx1⟩
        rw [H0.out]
        replace hrx := hrx.ext hx1
        have hX1 : Ext w w1 := Ext.trans (((Ext.refl w).alloc _).alloc _) hx1
        obtain ⟨r0, r1, r2, r3, rf, rl⟩ := hrx
        go_wp2_with fail
        exact bodyPost_ret (v := .tuple #[.agg #[.slice none 0 0, .slice none 0 0, .int .i64 0, .bool false], .int .i64 2]) (by simp [results, Try.results23, go_sem, r0, r1, r2, r3]) rfl (retV_zero (set4_ext hX1 (Nat.le_succ _) _ _ _ _))
      · have h2 : 1000000 < n := by omega
        go_enter Try.func23, Try.ntmps23
        go_wp2_with fail
        refine (dCheck_any m q left down A c B d _ ((hB.alloc _).alloc _)).mono ?_
        rintro e w1 ⟨rfl, hx1⟩
        rw [H0.out]
        replace hrx := hrx.ext hx1
        have hX1 : Ext w w1 := Ext.trans (((Ext.refl w).alloc _).alloc _) hx1
        obtain ⟨r0, r1, r2, r3, rf, rl⟩ := hrx
        go_wp2_with fail
        exact bodyPost_ret (v := .tuple #[.agg #[.slice none 0 0, .slice none 0 0, .int .i64 0, .bool false], .int .i64 2]) (by simp [results, Try.results23, go_sem, r0, r1, r2, r3]) rfl (retV_zero (set4_ext hX1 (Nat.le_succ _) _ _ _ _))
    · have he : armE m q left down n = 0 := by simp [armE, h0, hn]
      have hv : armV m q left down n = (m, q, n, false) := by simp [armV, he]
      rw [hv, he]
      have h1 : ¬ n < -1 := by omega
      have h2 : ¬ 1000000 < n := by omega
      clear h0 hv hd he hasc k1 k4 hn
      go_enter Try.func23, Try.ntmps23
      go_wp2_with fail
      refine (dCheck_any m q left down A c B d _ ((hB.alloc _).alloc _)).mono ?_
      rintro e w1 ⟨rfl, hx1⟩
      rw [H0.out]
      replace hbx := hbx.ext hx1
      replace hrx := hrx.ext hx1
      have hX1 : Ext w w1 := Ext.trans (((Ext.refl w).alloc _).alloc _) hx1
      obtain ⟨b0, b1, b2, b3, bf, bl⟩ := hbx
      obtain ⟨r0, r1, r2, r3, rf, rl⟩ := hrx
      have rf0 := rf 0
      have rf1 := rf 1
      have rf2 := rf 2
      have rf3 := rf 3
      have hA1 := hA.ext hX1
      have hB1 := hB.ext hX1
      clear hx1 bf rf
      go_wp2_with fail
      go_region_held3 (fun w' => w'.cell? ⟨w.heap.size, 0, none⟩ = some (.slice A m.length c) ∧ w'.cell? ⟨w.heap.size, 1, none⟩ = some (.slice B q.length d)) (go_keep)
        (first
          | (go_at_call 46; refine (cloneU_any m A c _ (hA1.ext (by repeat (first | assumption | exact Ext.refl _ | refine Ext.drewN ?_ _ | refine Ext.drew ?_ | refine Ext.alloc ?_ _ | refine Ext.trans ?_ (by assumption)))) (by omega)).mono ?_; rintro e wn ⟨A2, c2, rfl, hown2, hA2, hxn⟩; have farU := own_far (b := w.heap.size + 1) hown2 (Nat.lt_of_lt_of_le rl (Ext.size (a := w1) (by repeat (first | assumption | exact Ext.refl _ | refine Ext.drewN ?_ _ | refine Ext.drew ?_ | refine Ext.alloc ?_ _ | refine Ext.trans ?_ (by assumption))))); have t0 := hxn.cell (p := ⟨w.heap.size, 0, none⟩) (by assumption); have t1 := hxn.cell (p := ⟨w.heap.size, 1, none⟩) (by assumption); have t2 := hxn.cell (p := ⟨w.heap.size, 2, none⟩) (by assumption); have t3 := hxn.cell (p := ⟨w.heap.size, 3, none⟩) (by assumption); have z0 := hxn.frz (p := ⟨w.heap.size + 1, 0, none⟩) (by assumption) (by assumption); have z1 := hxn.frz (p := ⟨w.heap.size + 1, 1, none⟩) (by assumption) (by assumption); have z2 := hxn.frz (p := ⟨w.heap.size + 1, 2, none⟩) (by assumption) (by assumption); have z3 := hxn.frz (p := ⟨w.heap.size + 1, 3, none⟩) (by assumption) (by assumption); have s0 := hxn.cell (p := ⟨w.heap.size + 1, 0, none⟩) (by assumption); have s1 := hxn.cell (p := ⟨w.heap.size + 1, 1, none⟩) (by assumption); have s2 := hxn.cell (p := ⟨w.heap.size + 1, 2, none⟩) (by assumption); have s3 := hxn.cell (p := ⟨w.heap.size + 1, 3, none⟩) (by assumption))
          | (go_at_call 48; refine (cloneD_any q B d _ (hB1.ext (by repeat (first | assumption | exact Ext.refl _ | refine Ext.drewN ?_ _ | refine Ext.drew ?_ | refine Ext.alloc ?_ _ | refine Ext.trans ?_ (by assumption)))) (by omega)).mono ?_; rintro e wn ⟨B2, d2, rfl, hown3, hB2, hxn⟩; have farD := own_far (b := w.heap.size + 1) hown3 (Nat.lt_of_lt_of_le rl (Ext.size (a := w1) (by repeat (first | assumption | exact Ext.refl _ | refine Ext.drewN ?_ _ | refine Ext.drew ?_ | refine Ext.alloc ?_ _ | refine Ext.trans ?_ (by assumption))))); have t0 := hxn.cell (p := ⟨w.heap.size, 0, none⟩) (by assumption); have t1 := hxn.cell (p := ⟨w.heap.size, 1, none⟩) (by assumption); have t2 := hxn.cell (p := ⟨w.heap.size, 2, none⟩) (by assumption); have t3 := hxn.cell (p := ⟨w.heap.size, 3, none⟩) (by assumption); have z0 := hxn.frz (p := ⟨w.heap.size + 1, 0, none⟩) (by assumption) (by assumption); have z1 := hxn.frz (p := ⟨w.heap.size + 1, 1, none⟩) (by assumption) (by assumption); have z2 := hxn.frz (p := ⟨w.heap.size + 1, 2, none⟩) (by assumption) (by assumption); have z3 := hxn.frz (p := ⟨w.heap.size + 1, 3, none⟩) (by assumption) (by assumption); have s0 := hxn.cell (p := ⟨w.heap.size + 1, 0, none⟩) (by assumption); have s1 := hxn.cell (p := ⟨w.heap.size + 1, 1, none⟩) (by assumption); have s2 := hxn.cell (p := ⟨w.heap.size + 1, 2, none⟩) (by assumption); have s3 := hxn.cell (p := ⟨w.heap.size + 1, 3, none⟩) (by assumption)))
      all_goals
        go_wp2_with fail
        refine bodyPost_ret (v := .tuple #[.agg #[.slice A2 m.length c2, .slice B2 q.length d2, .int .i64 n, .bool false], .int .i64 0]) (by simp [results, Try.results23, go_sem, s0, s1, s2, s3]) rfl ?_
        exact ⟨_, _, _, _, rfl, set4_sl (hA2.ext (by repeat (first | assumption | exact Ext.refl _ | refine Ext.drewN ?_ _ | refine Ext.drew ?_ | refine Ext.alloc ?_ _ | refine Ext.trans ?_ (by assumption)))) farU _ _ _ _, set4_sl (hB2.ext (by repeat (first | assumption | exact Ext.refl _ | refine Ext.drewN ?_ _ | refine Ext.drew ?_ | refine Ext.alloc ?_ _ | refine Ext.trans ?_ (by assumption)))) farD _ _ _ _, set4_ext (a := w) (by repeat (first | assumption | exact Ext.refl _ | refine Ext.drewN ?_ _ | refine Ext.drew ?_ | refine Ext.alloc ?_ _ | refine Ext.trans ?_ (by assumption))) (Nat.le_succ _) _ _ _ _⟩
set_option maxHeartbeats 3200000 in
theorem dRArm_any (m : List Int) (q : List Dw) (left : Int) (down : Bool) (n : Int) (A : Option Addr) (c : Nat) (B : Option Addr) (d : Nat) (w : World) (hA : Sl w A m.length c (fU m)) (hB : Sl w B q.length d (fD q)) :
    Calls Try.prog 28 #[.agg #[.slice A m.length c, .slice B q.length d, .int .i64 left, .bool down], .int .i64 n] w (RetV w (armV m q left down n) (armE m q left down n)) := by
  have hbx : Box4 ((w.alloc (Obj.cells #[.slice A m.length c, .slice B q.length d, .int .i64 left, .bool down] 25)).alloc (Obj.cells #[.slice none 0 0, .slice none 0 0, .int .i64 0, .bool false] 25)) w.heap.size (.slice A m.length c) (.slice B q.length d) (.int .i64 left) (.bool down) := (Box4.new w _ _ _ _ _).alloc _
  have hrx : Box4 ((w.alloc (Obj.cells #[.slice A m.length c, .slice B q.length d, .int .i64 left, .bool down] 25)).alloc (Obj.cells #[.slice none 0 0, .slice none 0 0, .int .i64 0, .bool false] 25)) (w.heap.size + 1) (.slice none 0 0) (.slice none 0 0) (.int .i64 0) (.bool false) := Box4.new' _ _ (by simp) _ _ _ _ _
  cases hd : devB m q left down with
  | false =>
    have h0 := devE_no hd
    have he : armE m q left down n = 8 := by simp [armE, h0]
    have hv : armV m q left down n = zeroV := by simp [armV, he]
    rw [hv, he]
    have H0 := Lib.hid h0
    clear h0 hv hd he hbx
    go_enter Try.func28, Try.ntmps28
    go_wp2_with fail
    refine (dRefCk_any m q left down A c B d _ ((hB.alloc _).alloc _)).mono ?_
    rintro e w1 ⟨rfl, hx1⟩
    rw [H0.out]
    replace hrx := hrx.ext hx1
    have hX1 : Ext w w1 := Ext.trans (((Ext.refl w).alloc _).alloc _) hx1
    obtain ⟨r0, r1, r2, r3, rf, rl⟩ := hrx
    go_wp2_with fail
    exact bodyPost_ret (v := .tuple #[.agg #[.slice none 0 0, .slice none 0 0, .int .i64 0, .bool false], .int .i64 8]) (by simp [results, Try.results28, go_sem, r0, r1, r2, r3]) rfl (retV_zero (set4_ext hX1 (Nat.le_succ _) _ _ _ _))
  | true =>
    have h0 := devE_yes hd
    obtain ⟨k1, k2, k3, k4, hasc⟩ := devB_bd hd
    have hsz := sizeB_bd k1
    have hql := dirty_le hd
    have H0 := Lib.hid h0
    by_cases hn : n < -1 ∨ 1000000 < n
    · have he : armE m q left down n = 2 := by simp [armE, h0, hn]
      have hv : armV m q left down n = zeroV := by simp [armV, he]
      rw [hv, he]
      clear h0 hv hd he hbx hasc k1 k4
      by_cases h1 : n < -1
      · go_enter Try.func28, Try.ntmps28
        go_wp2_with fail
        refine (dRefCk_any m q left down A c B d _ ((hB.alloc _).alloc _)).mono ?_
        rintro e w1 ⟨rfl, hx1⟩
        rw [H0.out]
        replace hrx := hrx.ext hx1
        have hX1 : Ext w w1 := Ext.trans (((Ext.refl w).alloc _).alloc _) hx1
        obtain ⟨r0, r1, r2, r3, rf, rl⟩ := hrx
        go_wp2_with fail
        exact bodyPost_ret (v := .tuple #[.agg #[.slice none 0 0, .slice none 0 0, .int .i64 0, .bool false], .int .i64 2]) (by simp [results, Try.results28, go_sem, r0, r1, r2, r3]) rfl (retV_zero (set4_ext hX1 (Nat.le_succ _) _ _ _ _))
      · have h2 : 1000000 < n := by omega
        go_enter Try.func28, Try.ntmps28
        go_wp2_with fail
        refine (dRefCk_any m q left down A c B d _ ((hB.alloc _).alloc _)).mono ?_
        rintro e w1 ⟨rfl, hx1⟩
        rw [H0.out]
        replace hrx := hrx.ext hx1
        have hX1 : Ext w w1 := Ext.trans (((Ext.refl w).alloc _).alloc _) hx1
        obtain ⟨r0, r1, r2, r3, rf, rl⟩ := hrx
        go_wp2_with fail
        exact bodyPost_ret (v := .tuple #[.agg #[.slice none 0 0, .slice none 0 0, .int .i64 0, .bool false], .int .i64 2]) (by simp [results, Try.results28, go_sem, r0, r1, r2, r3]) rfl (retV_zero (set4_ext hX1 (Nat.le_succ _) _ _ _ _))
    · have he : armE m q left down n = 0 := by simp [armE, h0, hn]
      have hv : armV m q left down n = (m, q, n, false) := by simp [armV, he]
      rw [hv, he]
      have h1 : ¬ n < -1 := by omega
      have h2 : ¬ 1000000 < n := by omega
      clear h0 hv hd he hasc k1 k4 hn
      go_enter Try.func28, Try.ntmps28
      go_wp2_with fail
      refine (dRefCk_any m q left down A c B d _ ((hB.alloc _).alloc _)).mono ?_
      rintro e w1 ⟨rfl, hx1⟩
      rw [H0.out]
      replace hbx := hbx.ext hx1
      replace hrx := hrx.ext hx1
      have hX1 : Ext w w1 := Ext.trans (((Ext.refl w).alloc _).alloc _) hx1
      obtain ⟨b0, b1, b2, b3, bf, bl⟩ := hbx
      go_wp2_with fail
      refine (dRTwin_any m q left down A c B d w1 (hA.ext hX1) (hB.ext hX1) (by omega) (by omega)).mono ?_
      rintro e w2 ⟨A2, c2, B2, d2, rfl, hown2, hown3, hx2⟩
      have hX2 := hX1.trans hx2
      have farU := own_far (b := w.heap.size + 1) hown2 hrx.lt
      have farD := own_far (b := w.heap.size + 1) hown3 hrx.lt
      replace hrx := hrx.ext hx2
      have hA2 := own_sl4 hown2
      have hB2 := own_sl4 hown3
      clear b0 b1 b2 b3 bf bl hx1 hX1 hx2 hown2 hown3
      obtain ⟨r0, r1, r2, r3, rf, rl⟩ := hrx
      go_wp2_with fail
      refine bodyPost_ret (v := .tuple #[.agg #[.slice A2 m.length c2, .slice B2 q.length d2, .int .i64 n, .bool false], .int .i64 0]) (by simp [results, Try.results28, go_sem, r0, r1, r2, r3, rl]) rfl ?_
      exact ⟨_, _, _, _, rfl, (set4_sl hA2 farU _ _ _ _).alloc _, (set4_sl hB2 farD _ _ _ _).alloc _, (set4_ext hX2 (Nat.le_succ _) _ _ _ _).alloc _⟩
end Go.Proofs.Ytmmcbleoglgamaa
