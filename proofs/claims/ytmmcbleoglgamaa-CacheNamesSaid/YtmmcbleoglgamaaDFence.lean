/-
  The contract of fencing.
-/
import Derived.Test.YtmmcbleoglgamaaDDel
namespace Go.Proofs.Ytmmcbleoglgamaa
open Go.RowKit
theorem idx_nil (w : World) (F : Value) : Calls Try.prog 74 #[.slice none 0 0, F] w fun e w' => e = .returned (.int .i64 (-1)) ∧ w = w' := by
  go_enter Try.func74, Try.ntmps74
  go_wp2_with fail
  go_loopw [8] (fun i wr => i = .int .i64 0 ∧ wr = w) (fun _ _ => 1)
  case atStart => exact ⟨rfl, rfl⟩
  case round =>
    obtain ⟨rfl, rfl⟩ := hrel
    go_wp2_with fail
    go_ret
    exact ⟨rfl, rfl⟩
theorem del_nil (w : World) (F : Value) : Calls Try.prog 61 #[.slice none 0 0, F] w fun e w' => e = .returned (.slice none 0 0) ∧ w = w' := by
  go_enter Try.func61, Try.ntmps61
  go_wp2_with fail
  refine (idx_nil _ _).mono ?_
  rintro e w1 ⟨rfl, rfl⟩
  go_wp2_with fail
  go_ret
  exact ⟨rfl, rfl⟩
set_option maxRecDepth 100000 in
set_option maxHeartbeats 6400000 in
theorem dFence_1 (m : List Int) (q : List Dw) (left : Int) (down : Bool) (A : Option Addr) (c : Nat) (B : Option Addr) (d : Nat) (w : World) (hA : Sl w A m.length c (fU m)) (hB : Sl w B q.length d (fD q)) (h0 : devE m q left down = 0) (hl : left ≠ 0) :
    Calls Try.prog 41 #[.agg #[.slice A m.length c, .slice B q.length d, .int .i64 left, .bool down]] w (RetV w (fenM m q, fenD q, spL left, down) 0) := by
  have hbx : Box4 ((w.alloc (Obj.cells #[.slice A m.length c, .slice B q.length d, .int .i64 left, .bool down] 25)).alloc (Obj.cells #[.slice none 0 0, .slice none 0 0, .int .i64 0, .bool false] 25)) w.heap.size (.slice A m.length c) (.slice B q.length d) (.int .i64 left) (.bool down) := (Box4.new w _ _ _ _ _).alloc _
  have hrx : Box4 ((w.alloc (Obj.cells #[.slice A m.length c, .slice B q.length d, .int .i64 left, .bool down] 25)).alloc (Obj.cells #[.slice none 0 0, .slice none 0 0, .int .i64 0, .bool false] 25)) (w.heap.size + 1) (.slice none 0 0) (.slice none 0 0) (.int .i64 0) (.bool false) := Box4.new' _ _ (by simp) _ _ _ _ _
  have hd := devE_ok h0
  obtain ⟨k1, k2, k3, k4, hasc⟩ := devB_bd hd
  have hsz := sizeB_bd k1
  have hql := dirty_le hd
  have H0 := Lib.hid (And.intro h0 (And.intro hasc k4))
  clear hd hasc k1 k4 h0
  have hlb : decide (left ≠ 0) = true := decide_eq_true hl
  go_enter Try.func41, Try.ntmps41
  go_wp2_with fail
  refine (dCheck_any m q left down A c B d _ ((hB.alloc _).alloc _)).mono ?_
  rintro e w1 ⟨rfl, hx1⟩
  rw [H0.out.1]
  replace hbx := hbx.ext hx1
  replace hrx := hrx.ext hx1
  have hX1 : Ext w w1 := Ext.trans (((Ext.refl w).alloc _).alloc _) hx1
  obtain ⟨b0, b1, b2, b3, bf, bl⟩ := hbx
  go_wp2_with fail
  refine (dSpend_any m q left down A c B d w1 (hA.ext hX1) (hB.ext hX1) (by omega) (by omega) k3).mono ?_
  rw [spD_ne hl, hlb]
  rintro e w2 ⟨A1, c1, B1, d1, rfl, hown1, hown2, hx2⟩
  obtain ⟨L, hL⟩ : ∃ L, spL left = L := ⟨_, rfl⟩
  simp only [hL]
  have HL := Lib.hid hL
  clear hL
  have hX2 := hX1.trans hx2
  have hl1 : w.heap.size + 2 ≤ w1.heap.size := hrx.lt
  replace hbx := (Box4.mk b0 b1 b2 b3 bf bl).ext hx2
  replace hrx := hrx.ext hx2
  clear b0 b1 b2 b3 bf bl
  obtain ⟨b0, b1, b2, b3, bf, bl⟩ := hbx
  go_upto_region 5 with fail
  obtain ⟨W2, hW2⟩ : ∃ W2, W2 = ((((w2.setCell ⟨w.heap.size, 0, none⟩ (.slice A1 m.length c1)).setCell ⟨w.heap.size, 1, none⟩ (.slice B1 q.length d1)).setCell ⟨w.heap.size, 2, none⟩ (.int .i64 L)).setCell ⟨w.heap.size, 3, none⟩ (.bool down)) := ⟨_, rfl⟩
  rw [← hW2]
  replace hbx := Box4.set4 (Box4.mk b0 b1 b2 b3 bf bl) (.slice A1 m.length c1) (.slice B1 q.length d1) (.int .i64 L) (.bool down)
  replace hrx := Box4.far4 hrx (g := w.heap.size) (by omega) (.slice A1 m.length c1) (.slice B1 q.length d1) (.int .i64 L) (.bool down)
  have hX3 := set4_ext hX2 (b := w.heap.size) (Nat.le_refl _) (.slice A1 m.length c1) (.slice B1 q.length d1) (.int .i64 L) (.bool down)
  have hA1 := own_set4 (own_base hown1 hl1) (b := w.heap.size) (by omega) (.slice A1 m.length c1) (.slice B1 q.length d1) (.int .i64 L) (.bool down)
  have hB1 := own_set4 (own_base hown2 hl1) (b := w.heap.size) (by omega) (.slice A1 m.length c1) (.slice B1 q.length d1) (.int .i64 L) (.bool down)
  rw [← hW2] at hbx hrx hX3 hA1 hB1
  clear b0 b1 b2 b3 bf bl hW2 hX1 hx1 hX2 hx2 hown1 hown2 hA hB
  obtain ⟨ga, rfl, -⟩ := own_head hA1 (by show 0 < m.length; omega)
  rcases hB1.2 with ⟨hv, hz⟩ | ⟨g, cap, cur, hv, -, -, -⟩
  · injection hv with e1 _ e3
    subst e1 e3
    have hq := List.eq_nil_of_length_eq_zero hz
    subst hq
    clear hB1 hz
    simp only [List.length_nil] at hbx
    obtain ⟨b0, b1, b2, b3, bf, bl⟩ := hbx
    obtain ⟨r0, r1, r2, r3, rf, rl⟩ := hrx
    go_wp2_with fail
    refine (del_nil _ _).mono ?_
    rintro e w3 ⟨rfl, rfl⟩
    go_wp2_with fail
    refine bodyPost_ret (v := .tuple #[.agg #[.slice (some ⟨ga, 0, none⟩) m.length c1, .slice none 0 0, .int .i64 L, .bool down], .int .i64 0]) (by simp [results, Try.results41, go_sem, r0, r1, r2, r3]) rfl ?_
    exact retV_at rfl rfl HL.out (own_sl4 (own_set4 (own_cell hA1 (b := w.heap.size) (by omega) 1 _) (b := w.heap.size + 1) (by omega) _ _ _ _)) (Sl.nil_ _) (set4_ext (hX3.setCell (p := ⟨w.heap.size, 1, none⟩) (Nat.le_refl _) _) (Nat.le_succ _) _ _ _ _)
  · injection hv with e1 e2 e3
    clear e2
    subst e1 e3
    have hS : FS w W2 w.heap.size ga g m.length c1 q.length d1 m q.length q L down := ⟨hbx, hrx, hA1, hB1, hX3, Nat.le_refl _⟩
    have HD := Lib.hid (del_any W2 hS H0.out.2.1 (by omega) (by omega))
    obtain ⟨b0, b1, b2, b3, bf, bl⟩ := hbx
    clear hS hA1 hB1 hX3 hrx
    go_wp2_with fail
    refine HD.out.mono ?_
    rintro e w3 ⟨i, rfl, hS⟩
    clear b0 b1 b2 b3 bf bl HD
    have hil := hS.len
    obtain ⟨b0, b1, b2, b3, bf, bl⟩ := hS.o
    have hrx3 := hS.r.far (p := ⟨w.heap.size, 1, none⟩) (by simp) (.slice (some ⟨g, 0, none⟩) i d1)
    have hbx3 := hS.o.set1 (.slice (some ⟨g, 0, none⟩) i d1)
    have hA3 := own_cell hS.img (b := w.heap.size) (by omega) 1 (.slice (some ⟨g, 0, none⟩) i d1)
    have hB3 := own_cell hS.row (b := w.heap.size) (by omega) 1 (.slice (some ⟨g, 0, none⟩) i d1)
    have hX3 := hS.x.setCell (p := ⟨w.heap.size, 1, none⟩) (Nat.le_refl _) (.slice (some ⟨g, 0, none⟩) i d1)
    have HIL := Lib.hid hil
    clear hS hil
    go_upto_region 8 with fail
    obtain ⟨W6, hW6⟩ : ∃ W, W = w3.setCell ⟨w.heap.size, 1, none⟩ (.slice (some ⟨g, 0, none⟩) i d1) := ⟨_, rfl⟩
    rw [← hW6] at hrx3 hbx3 hA3 hB3 hX3 ⊢
    clear hW6 b0 b1 b2 b3 bf bl
    obtain ⟨b0, b1, b2, b3, bf, bl⟩ := hbx3
    obtain ⟨r0, r1, r2, r3, rf, rl⟩ := hrx3
    go_wp2_with fail
    refine bodyPost_ret (v := .tuple #[.agg #[.slice (some ⟨ga, 0, none⟩) m.length c1, .slice (some ⟨g, 0, none⟩) i d1, .int .i64 L, .bool down], .int .i64 0]) (by simp [results, Try.results41, go_sem, r0, r1, r2, r3]) rfl ?_
    exact retV_at (fenM_length q m) HIL.out HL.out (own_sl4 (own_set4 hA3 (b := w.heap.size + 1) (by omega) _ _ _ _)) (own_sl4 (own_set4 hB3 (b := w.heap.size + 1) (by omega) _ _ _ _)) (set4_ext hX3 (Nat.le_succ _) _ _ _ _)
set_option maxHeartbeats 3200000 in
theorem dFence_0 (m : List Int) (q : List Dw) (down : Bool) (A : Option Addr) (c : Nat) (B : Option Addr) (d : Nat) (w : World) (hA : Sl w A m.length c (fU m)) (hB : Sl w B q.length d (fD q)) (h0 : devE m q 0 down = 0) :
    Calls Try.prog 41 #[.agg #[.slice A m.length c, .slice B q.length d, .int .i64 0, .bool down]] w (RetV w (m, q, 0, true) 0) := by
  have hbx : Box4 ((w.alloc (Obj.cells #[.slice A m.length c, .slice B q.length d, .int .i64 0, .bool down] 25)).alloc (Obj.cells #[.slice none 0 0, .slice none 0 0, .int .i64 0, .bool false] 25)) w.heap.size (.slice A m.length c) (.slice B q.length d) (.int .i64 0) (.bool down) := (Box4.new w _ _ _ _ _).alloc _
  have hrx : Box4 ((w.alloc (Obj.cells #[.slice A m.length c, .slice B q.length d, .int .i64 0, .bool down] 25)).alloc (Obj.cells #[.slice none 0 0, .slice none 0 0, .int .i64 0, .bool false] 25)) (w.heap.size + 1) (.slice none 0 0) (.slice none 0 0) (.int .i64 0) (.bool false) := Box4.new' _ _ (by simp) _ _ _ _ _
  have hd := devE_ok h0
  obtain ⟨k1, k2, k3, k4, hasc⟩ := devB_bd hd
  have hsz := sizeB_bd k1
  have hql := dirty_le hd
  have H0 := Lib.hid (And.intro h0 (And.intro hasc k4))
  clear hd hasc k1 k4 h0
  go_enter Try.func41, Try.ntmps41
  go_wp2_with fail
  refine (dCheck_any m q 0 down A c B d _ ((hB.alloc _).alloc _)).mono ?_
  rintro e w1 ⟨rfl, hx1⟩
  rw [H0.out.1]
  replace hbx := hbx.ext hx1
  replace hrx := hrx.ext hx1
  have hX1 : Ext w w1 := Ext.trans (((Ext.refl w).alloc _).alloc _) hx1
  obtain ⟨b0, b1, b2, b3, bf, bl⟩ := hbx
  go_wp2_with fail
  refine (dSpend_any m q 0 down A c B d w1 (hA.ext hX1) (hB.ext hX1) (by omega) (by omega) (by decide)).mono ?_
  rw [spD_0]
  rintro e w2 ⟨A1, c1, B1, d1, rfl, hown1, hown2, hx2⟩
  rw [show (decide ((0 : Int) ≠ 0)) = false from rfl]
  have hX2 := hX1.trans hx2
  have hf1 := own_far (b := w.heap.size) hown1 bl
  have hf2 := own_far (b := w.heap.size) hown2 bl
  have hg1 := own_far (b := w.heap.size + 1) hown1 hrx.lt
  have hg2 := own_far (b := w.heap.size + 1) hown2 hrx.lt
  replace hbx := (Box4.mk b0 b1 b2 b3 bf bl).ext hx2
  replace hrx := hrx.ext hx2
  clear b0 b1 b2 b3 bf bl
  obtain ⟨b0, b1, b2, b3, bf, bl⟩ := hbx
  go_upto_region 5 with fail
  obtain ⟨W2, hW2⟩ : ∃ W2, W2 = ((((w2.setCell ⟨w.heap.size, 0, none⟩ (.slice A1 m.length c1)).setCell ⟨w.heap.size, 1, none⟩ (.slice B1 q.length d1)).setCell ⟨w.heap.size, 2, none⟩ (.int .i64 0)).setCell ⟨w.heap.size, 3, none⟩ (.bool true)) := ⟨_, rfl⟩
  rw [← hW2]
  replace hbx := Box4.set4 (Box4.mk b0 b1 b2 b3 bf bl) (.slice A1 m.length c1) (.slice B1 q.length d1) (.int .i64 0) (.bool true)
  replace hrx := Box4.far4 hrx (g := w.heap.size) (by omega) (.slice A1 m.length c1) (.slice B1 q.length d1) (.int .i64 0) (.bool true)
  have hX3 := set4_ext hX2 (b := w.heap.size) (Nat.le_refl _) (.slice A1 m.length c1) (.slice B1 q.length d1) (.int .i64 0) (.bool true)
  have hA1 := set4_sl (own_sl4 hown1) hf1 (.slice A1 m.length c1) (.slice B1 q.length d1) (.int .i64 0) (.bool true)
  have hB1 := set4_sl (own_sl4 hown2) hf2 (.slice A1 m.length c1) (.slice B1 q.length d1) (.int .i64 0) (.bool true)
  rw [← hW2] at hbx hrx hX3 hA1 hB1
  clear b0 b1 b2 b3 bf bl hW2 hX1 hx1 hX2 hx2 hown1 hown2
  obtain ⟨b0, b1, b2, b3, bf, bl⟩ := hbx
  obtain ⟨r0, r1, r2, r3, rf, rl⟩ := hrx
  go_wp2_with fail
  exact bodyPost_ret (v := .tuple #[.agg #[.slice A1 m.length c1, .slice B1 q.length d1, .int .i64 0, .bool true], .int .i64 0]) (by simp [results, Try.results41, go_sem, r0, r1, r2, r3]) rfl ⟨_, _, _, _, rfl, set4_sl hA1 hg1 _ _ _ _, set4_sl hB1 hg2 _ _ _ _, set4_ext hX3 (Nat.le_succ _) _ _ _ _⟩
set_option maxHeartbeats 3200000 in
theorem dFence_bad (m : List Int) (q : List Dw) (left : Int) (down : Bool) (A : Option Addr) (c : Nat) (B : Option Addr) (d : Nat) (w : World) (hB : Sl w B q.length d (fD q)) (h0 : devE m q left down ≠ 0) :
    Calls Try.prog 41 #[.agg #[.slice A m.length c, .slice B q.length d, .int .i64 left, .bool down]] w (RetV w zeroV (devE m q left down)) := by
  have hbx : Box4 ((w.alloc (Obj.cells #[.slice A m.length c, .slice B q.length d, .int .i64 left, .bool down] 25)).alloc (Obj.cells #[.slice none 0 0, .slice none 0 0, .int .i64 0, .bool false] 25)) w.heap.size (.slice A m.length c) (.slice B q.length d) (.int .i64 left) (.bool down) := (Box4.new w _ _ _ _ _).alloc _
  have hrx : Box4 ((w.alloc (Obj.cells #[.slice A m.length c, .slice B q.length d, .int .i64 left, .bool down] 25)).alloc (Obj.cells #[.slice none 0 0, .slice none 0 0, .int .i64 0, .bool false] 25)) (w.heap.size + 1) (.slice none 0 0) (.slice none 0 0) (.int .i64 0) (.bool false) := Box4.new' _ _ (by simp) _ _ _ _ _
  have hb : (devE m q left down != 0) = true := by simpa using h0
  go_enter Try.func41, Try.ntmps41
  go_wp2_with fail
  refine (dCheck_any m q left down A c B d _ ((hB.alloc _).alloc _)).mono ?_
  rintro e w1 ⟨rfl, hx1⟩
  replace hrx := hrx.ext hx1
  have hX1 : Ext w w1 := Ext.trans (((Ext.refl w).alloc _).alloc _) hx1
  obtain ⟨r0, r1, r2, r3, rf, rl⟩ := hrx
  clear hbx
  go_wp2_with fail
  exact bodyPost_ret (v := .tuple #[.agg #[.slice none 0 0, .slice none 0 0, .int .i64 0, .bool false], .int .i64 (devE m q left down)]) (by simp [results, Try.results41, go_sem, r0, r1, r2, r3]) rfl (retV_zero (set4_ext hX1 (Nat.le_succ _) _ _ _ _))
theorem dFence_any (m : List Int) (q : List Dw) (left : Int) (down : Bool) (A : Option Addr) (c : Nat) (B : Option Addr) (d : Nat) (w : World) (hA : Sl w A m.length c (fU m)) (hB : Sl w B q.length d (fD q)) :
    Calls Try.prog 41 #[.agg #[.slice A m.length c, .slice B q.length d, .int .i64 left, .bool down]] w (RetV w (fenceV m q left down) (devE m q left down)) := by
  by_cases h0 : devE m q left down = 0
  · by_cases hl : left = 0
    · subst hl
      rw [show fenceV m q 0 down = (m, q, 0, true) from by simp [fenceV, h0], h0]
      exact dFence_0 m q down A c B d w hA hB h0
    · rw [show fenceV m q left down = (fenM m q, fenD q, spL left, down) from by simp [fenceV, h0, hl], h0]
      exact dFence_1 m q left down A c B d w hA hB h0 hl
  · rw [show fenceV m q left down = zeroV from by simp [fenceV, h0]]
    exact dFence_bad m q left down A c B d w hB h0
end Go.Proofs.Ytmmcbleoglgamaa
