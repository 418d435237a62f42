/-
  The contract of storing.
-/
import Derived.Test.YtmmcbleoglgamaaDSto
namespace Go.Proofs.Ytmmcbleoglgamaa
open Go.RowKit
set_option maxHeartbeats 3200000 in
theorem dStore_0 (m : List Int) (q : List Dw) (down : Bool) (a v : Int) (A : Option Addr) (c : Nat) (B : Option Addr) (d : Nat) (w : World) (hA : Sl w A m.length c (fU m)) (hB : Sl w B q.length d (fD q)) (h0 : askE m q 0 down a = 0) :
    Calls Try.prog 37 #[.agg #[.slice A m.length c, .slice B q.length d, .int .i64 0, .bool down], .int .i64 a, .int .u64 v] w (RetV w (m, q, 0, true) 0) := by
  have hbx : Box4 ((w.alloc (Obj.cells #[.slice A m.length c, .slice B q.length d, .int .i64 0, .bool down] 25)).alloc (Obj.cells #[.slice none 0 0, .slice none 0 0, .int .i64 0, .bool false] 25)) w.heap.size (.slice A m.length c) (.slice B q.length d) (.int .i64 0) (.bool down) := (Box4.new w _ _ _ _ _).alloc _
  have hrx : Box4 ((w.alloc (Obj.cells #[.slice A m.length c, .slice B q.length d, .int .i64 0, .bool down] 25)).alloc (Obj.cells #[.slice none 0 0, .slice none 0 0, .int .i64 0, .bool false] 25)) (w.heap.size + 1) (.slice none 0 0) (.slice none 0 0) (.int .i64 0) (.bool false) := Box4.new' _ _ (by simp) _ _ _ _ _
  obtain ⟨hd, a0, a1⟩ := askE_ok h0
  obtain ⟨k1, k2, k3, k4, hasc⟩ := devB_bd hd
  have hsz := sizeB_bd k1
  have hql := dirty_le hd
  have H0 := Lib.hid (And.intro h0 (And.intro hasc k4))
  clear hd hasc k1 k4 h0
  go_enter Try.func37, Try.ntmps37
  go_wp2_with fail
  refine (dAsk_any m q 0 down a A c B d _ ((hB.alloc _).alloc _)).mono ?_
  rintro e w1 ⟨rfl, hx1⟩
  rw [H0.out.1]
  replace hbx := hbx.ext hx1
  replace hrx := hrx.ext hx1
  have hX1 : Ext w w1 := Ext.trans (((Ext.refl w).alloc _).alloc _) hx1
  obtain ⟨b0, b1, b2, b3, bf, bl⟩ := hbx
  go_wp2_with fail
  refine (dSpend_any m q 0 down A c B d w1 (hA.ext hX1) (hB.ext hX1) (by omega) (by omega) (by decide)).mono ?_
  rw [spD_0]
  rintro e w2 ⟨A1, c1, B1, d1, rfl, hown1, hown2, hx2⟩
  rw [show (decide ((0 : Int) ≠ 0)) = false from rfl]
  have hX2 := hX1.trans hx2
  have hf1 := own_far (b := w.heap.size) hown1 bl
  have hf2 := own_far (b := w.heap.size) hown2 bl
  have hg1 := own_far (b := w.heap.size + 1) hown1 hrx.lt
  have hg2 := own_far (b := w.heap.size + 1) hown2 hrx.lt
  replace hbx := (Box4.mk b0 b1 b2 b3 bf bl).ext hx2
  replace hrx := hrx.ext hx2
  clear b0 b1 b2 b3 bf bl
  obtain ⟨b0, b1, b2, b3, bf, bl⟩ := hbx
  go_upto_region 5 with fail
  obtain ⟨W2, hW2⟩ : ∃ W2, W2 = ((((w2.setCell ⟨w.heap.size, 0, none⟩ (.slice A1 m.length c1)).setCell ⟨w.heap.size, 1, none⟩ (.slice B1 q.length d1)).setCell ⟨w.heap.size, 2, none⟩ (.int .i64 0)).setCell ⟨w.heap.size, 3, none⟩ (.bool true)) := ⟨_, rfl⟩
  rw [← hW2]
  replace hbx := Box4.set4 (Box4.mk b0 b1 b2 b3 bf bl) (.slice A1 m.length c1) (.slice B1 q.length d1) (.int .i64 0) (.bool true)
  replace hrx := Box4.far4 hrx (g := w.heap.size) (by omega) (.slice A1 m.length c1) (.slice B1 q.length d1) (.int .i64 0) (.bool true)
  have hX3 := set4_ext hX2 (b := w.heap.size) (Nat.le_refl _) (.slice A1 m.length c1) (.slice B1 q.length d1) (.int .i64 0) (.bool true)
  have hA1 := set4_sl (own_sl4 hown1) hf1 (.slice A1 m.length c1) (.slice B1 q.length d1) (.int .i64 0) (.bool true)
  have hB1 := set4_sl (own_sl4 hown2) hf2 (.slice A1 m.length c1) (.slice B1 q.length d1) (.int .i64 0) (.bool true)
  rw [← hW2] at hbx hrx hX3 hA1 hB1
  clear b0 b1 b2 b3 bf bl hW2 hX1 hx1 hX2 hx2 hown1 hown2
  obtain ⟨b0, b1, b2, b3, bf, bl⟩ := hbx
  obtain ⟨r0, r1, r2, r3, rf, rl⟩ := hrx
  go_wp2_with fail
  exact bodyPost_ret (v := .tuple #[.agg #[.slice A1 m.length c1, .slice B1 q.length d1, .int .i64 0, .bool true], .int .i64 0]) (by simp [results, Try.results37, go_sem, r0, r1, r2, r3]) rfl ⟨_, _, _, _, rfl, set4_sl hA1 hg1 _ _ _ _, set4_sl hB1 hg2 _ _ _ _, set4_ext hX3 (Nat.le_succ _) _ _ _ _⟩
set_option maxHeartbeats 3200000 in
theorem dStore_bad (m : List Int) (q : List Dw) (left : Int) (down : Bool) (a v : Int) (A : Option Addr) (c : Nat) (B : Option Addr) (d : Nat) (w : World) (hB : Sl w B q.length d (fD q)) (h0 : askE m q left down a ≠ 0) :
    Calls Try.prog 37 #[.agg #[.slice A m.length c, .slice B q.length d, .int .i64 left, .bool down], .int .i64 a, .int .u64 v] w (RetV w zeroV (askE m q left down a)) := by
  have hbx : Box4 ((w.alloc (Obj.cells #[.slice A m.length c, .slice B q.length d, .int .i64 left, .bool down] 25)).alloc (Obj.cells #[.slice none 0 0, .slice none 0 0, .int .i64 0, .bool false] 25)) w.heap.size (.slice A m.length c) (.slice B q.length d) (.int .i64 left) (.bool down) := (Box4.new w _ _ _ _ _).alloc _
  have hrx : Box4 ((w.alloc (Obj.cells #[.slice A m.length c, .slice B q.length d, .int .i64 left, .bool down] 25)).alloc (Obj.cells #[.slice none 0 0, .slice none 0 0, .int .i64 0, .bool false] 25)) (w.heap.size + 1) (.slice none 0 0) (.slice none 0 0) (.int .i64 0) (.bool false) := Box4.new' _ _ (by simp) _ _ _ _ _
  have hb : (askE m q left down a != 0) = true := by simpa using h0
  go_enter Try.func37, Try.ntmps37
  go_wp2_with fail
  refine (dAsk_any m q left down a A c B d _ ((hB.alloc _).alloc _)).mono ?_
  rintro e w1 ⟨rfl, hx1⟩
  replace hrx := hrx.ext hx1
  have hX1 : Ext w w1 := Ext.trans (((Ext.refl w).alloc _).alloc _) hx1
  obtain ⟨r0, r1, r2, r3, rf, rl⟩ := hrx
  clear hbx
  go_wp2_with fail
  exact bodyPost_ret (v := .tuple #[.agg #[.slice none 0 0, .slice none 0 0, .int .i64 0, .bool false], .int .i64 (askE m q left down a)]) (by simp [results, Try.results37, go_sem, r0, r1, r2, r3]) rfl (retV_zero (set4_ext hX1 (Nat.le_succ _) _ _ _ _))
theorem dStore_any (m : List Int) (q : List Dw) (left : Int) (down : Bool) (a v : Int) (A : Option Addr) (c : Nat) (B : Option Addr) (d : Nat) (w : World) (hA : Sl w A m.length c (fU m)) (hB : Sl w B q.length d (fD q)) :
    Calls Try.prog 37 #[.agg #[.slice A m.length c, .slice B q.length d, .int .i64 left, .bool down], .int .i64 a, .int .u64 v] w (RetV w (storeV m q left down a v) (askE m q left down a)) := by
  by_cases h0 : askE m q left down a = 0
  · by_cases hl : left = 0
    · subst hl
      rw [show storeV m q 0 down a v = (m, q, 0, true) from by simp [storeV, h0], h0]
      exact dStore_0 m q down a v A c B d w hA hB h0
    · rw [show storeV m q left down a v = (m, insD a v q, spL left, down) from by simp [storeV, h0, hl], h0]
      exact dStore_1 m q left down a v A c B d w hA hB h0 hl
  · rw [show storeV m q left down a v = zeroV from by simp [storeV, h0]]
    exact dStore_bad m q left down a v A c B d w hB h0
end Go.Proofs.Ytmmcbleoglgamaa
