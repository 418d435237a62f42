/-
  The reference's Stored and Fenced on a device that has no operation left.
-/
import Derived.Test.YtmmcbleoglgamaaDRFlush
namespace Go.Proofs.Ytmmcbleoglgamaa
open Go.RowKit
set_option maxHeartbeats 1600000 in
theorem dRFenced_0 (m : List Int) (q : List Dw) (down : Bool) (A : Option Addr) (c : Nat) (B : Option Addr) (d : Nat) (w : World) (hA : Sl w A m.length c (fU m)) (hB : Sl w B q.length d (fD q)) (hd : devB m q 0 down = true) :
    Calls Try.prog 63 #[.agg #[.slice A m.length c, .slice B q.length d, .int .i64 0, .bool down]] w (RetW w (m, q, 0, true)) := by
  have hrx : Box4 ((w.alloc (Obj.cells #[.slice A m.length c, .slice B q.length d, .int .i64 0, .bool down] 25)).alloc (Obj.cells #[.slice none 0 0, .slice none 0 0, .int .i64 0, .bool false] 25)) (w.heap.size + 1) (.slice none 0 0) (.slice none 0 0) (.int .i64 0) (.bool false) := Box4.new' _ _ (by simp) _ _ _ _ _
  obtain ⟨k1, k2, k3, k4, hasc⟩ := devB_bd hd
  have hsz := sizeB_bd k1
  have hql := dirty_le hd
  clear hasc k4 k1 hd
  go_enter Try.func63, Try.ntmps63
  go_wp2_with fail
  refine (dRSpent_any m q 0 down A c B d _ ((hA.alloc _).alloc _) ((hB.alloc _).alloc _) (by omega) (by omega) (by decide)).mono ?_
  rw [spD_0, show (decide ((0 : Int) ≠ 0)) = false from rfl]
  rintro e w1 ⟨A1, c1, B1, d1, rfl, hown1, hown2, hx1⟩
  have hX1 : Ext w w1 := Ext.trans (((Ext.refl w).alloc _).alloc _) hx1
  replace hrx := hrx.ext hx1
  have hs : ((w.alloc (Obj.cells #[.slice A m.length c, .slice B q.length d, .int .i64 0, .bool down] 25)).alloc (Obj.cells #[.slice none 0 0, .slice none 0 0, .int .i64 0, .bool false] 25)).heap.size = w.heap.size + 2 := by simp
  rw [hs] at hown1 hown2
  have hl1 : w.heap.size + 1 < w1.heap.size := hrx.lt
  have hox := Box4.new w1 (.slice A1 m.length c1) (.slice B1 q.length d1) (.int .i64 0) (.bool true) 25
  have hrx2 := hrx.alloc (Obj.cells #[.slice A1 m.length c1, .slice B1 q.length d1, .int .i64 0, .bool true] 25)
  have hX2 := hX1.alloc (Obj.cells #[.slice A1 m.length c1, .slice B1 q.length d1, .int .i64 0, .bool true] 25)
  have hB2 : (w1.alloc (Obj.cells #[.slice A1 m.length c1, .slice B1 q.length d1, .int .i64 0, .bool true] 25)).ownsRow (w.heap.size + 2) 44 3 (.slice B1 q.length d1) q.length (fD q) := hown2.alloc _
  have hA2 : (w1.alloc (Obj.cells #[.slice A1 m.length c1, .slice B1 q.length d1, .int .i64 0, .bool true] 25)).ownsRow (w.heap.size + 2) 26 1 (.slice A1 m.length c1) m.length (fU m) := hown1.alloc _
  clear hx1 hX1 hrx hs hown1 hown2 hA hB
  go_upto_region 2 with fail
  obtain ⟨W2, hW2⟩ : ∃ W, W = w1.alloc (Obj.cells #[.slice A1 m.length c1, .slice B1 q.length d1, .int .i64 0, .bool true] 25) := ⟨_, rfl⟩
  obtain ⟨g0, hg0⟩ : ∃ g, w1.heap.size = g := ⟨_, rfl⟩
  rw [← hW2] at hox hrx2 hX2 hB2 hA2 ⊢
  rw [hg0] at hox hl1 ⊢
  clear hW2 hg0
  obtain ⟨b0, b1, b2, b3, bf, bl⟩ := hox
  obtain ⟨r0, r1, r2, r3, rf, rl⟩ := hrx2
  go_wp2_with fail
  refine bodyPost_ret (v := .agg #[.slice A1 m.length c1, .slice B1 q.length d1, .int .i64 0, .bool true]) (by simp [results, Try.results63, go_sem, r0, r1, r2, r3]) rfl ?_
  have hA3 := own_set4 hA2 (b := w.heap.size + 1) (by omega) (.slice A1 m.length c1) (.slice B1 q.length d1) (.int .i64 0) (.bool true)
  have hB3 := own_set4 hB2 (b := w.heap.size + 1) (by omega) (.slice A1 m.length c1) (.slice B1 q.length d1) (.int .i64 0) (.bool true)
  exact retW_at rfl rfl rfl (own_sl4 hA3) (own_sl4 hB3) (own_new hA3 (by omega)) (own_new hB3 (by omega)) (set4_ext hX2 (Nat.le_succ _) _ _ _ _)
set_option maxHeartbeats 1600000 in
theorem dRStored_0 (m : List Int) (q : List Dw) (down : Bool) (a v : Int) (A : Option Addr) (c : Nat) (B : Option Addr) (d : Nat) (w : World) (hA : Sl w A m.length c (fU m)) (hB : Sl w B q.length d (fD q)) (hd : devB m q 0 down = true) :
    Calls Try.prog 59 #[.agg #[.slice A m.length c, .slice B q.length d, .int .i64 0, .bool down], .int .i64 a, .int .u64 v] w (RetW w (m, q, 0, true)) := by
  have hrx : Box4 ((w.alloc (Obj.cells #[.slice A m.length c, .slice B q.length d, .int .i64 0, .bool down] 25)).alloc (Obj.cells #[.slice none 0 0, .slice none 0 0, .int .i64 0, .bool false] 25)) (w.heap.size + 1) (.slice none 0 0) (.slice none 0 0) (.int .i64 0) (.bool false) := Box4.new' _ _ (by simp) _ _ _ _ _
  obtain ⟨k1, k2, k3, k4, hasc⟩ := devB_bd hd
  have hsz := sizeB_bd k1
  have hql := dirty_le hd
  clear hasc k4 k1 hd
  go_enter Try.func59, Try.ntmps59
  go_wp2_with fail
  refine (dRSpent_any m q 0 down A c B d _ ((hA.alloc _).alloc _) ((hB.alloc _).alloc _) (by omega) (by omega) (by decide)).mono ?_
  rw [spD_0, show (decide ((0 : Int) ≠ 0)) = false from rfl]
  rintro e w1 ⟨A1, c1, B1, d1, rfl, hown1, hown2, hx1⟩
  have hX1 : Ext w w1 := Ext.trans (((Ext.refl w).alloc _).alloc _) hx1
  replace hrx := hrx.ext hx1
  have hs : ((w.alloc (Obj.cells #[.slice A m.length c, .slice B q.length d, .int .i64 0, .bool down] 25)).alloc (Obj.cells #[.slice none 0 0, .slice none 0 0, .int .i64 0, .bool false] 25)).heap.size = w.heap.size + 2 := by simp
  rw [hs] at hown1 hown2
  have hl1 : w.heap.size + 1 < w1.heap.size := hrx.lt
  have hox := Box4.new w1 (.slice A1 m.length c1) (.slice B1 q.length d1) (.int .i64 0) (.bool true) 25
  have hrx2 := hrx.alloc (Obj.cells #[.slice A1 m.length c1, .slice B1 q.length d1, .int .i64 0, .bool true] 25)
  have hX2 := hX1.alloc (Obj.cells #[.slice A1 m.length c1, .slice B1 q.length d1, .int .i64 0, .bool true] 25)
  have hB2 : (w1.alloc (Obj.cells #[.slice A1 m.length c1, .slice B1 q.length d1, .int .i64 0, .bool true] 25)).ownsRow (w.heap.size + 2) 44 3 (.slice B1 q.length d1) q.length (fD q) := hown2.alloc _
  have hA2 : (w1.alloc (Obj.cells #[.slice A1 m.length c1, .slice B1 q.length d1, .int .i64 0, .bool true] 25)).ownsRow (w.heap.size + 2) 26 1 (.slice A1 m.length c1) m.length (fU m) := hown1.alloc _
  clear hx1 hX1 hrx hs hown1 hown2 hA hB
  go_upto_region 2 with fail
  obtain ⟨W2, hW2⟩ : ∃ W, W = w1.alloc (Obj.cells #[.slice A1 m.length c1, .slice B1 q.length d1, .int .i64 0, .bool true] 25) := ⟨_, rfl⟩
  obtain ⟨g0, hg0⟩ : ∃ g, w1.heap.size = g := ⟨_, rfl⟩
  rw [← hW2] at hox hrx2 hX2 hB2 hA2 ⊢
  rw [hg0] at hox hl1 ⊢
  clear hW2 hg0
  obtain ⟨b0, b1, b2, b3, bf, bl⟩ := hox
  obtain ⟨r0, r1, r2, r3, rf, rl⟩ := hrx2
  go_wp2_with fail
  refine bodyPost_ret (v := .agg #[.slice A1 m.length c1, .slice B1 q.length d1, .int .i64 0, .bool true]) (by simp [results, Try.results59, go_sem, r0, r1, r2, r3]) rfl ?_
  have hA3 := own_set4 hA2 (b := w.heap.size + 1) (by omega) (.slice A1 m.length c1) (.slice B1 q.length d1) (.int .i64 0) (.bool true)
  have hB3 := own_set4 hB2 (b := w.heap.size + 1) (by omega) (.slice A1 m.length c1) (.slice B1 q.length d1) (.int .i64 0) (.bool true)
  exact retW_at rfl rfl rfl (own_sl4 hA3) (own_sl4 hB3) (own_new hA3 (by omega)) (own_new hB3 (by omega)) (set4_ext hX2 (Nat.le_succ _) _ _ _ _)
end Go.Proofs.Ytmmcbleoglgamaa
