/-
  The contracts of the copies of devices, and of beginning an operation.
-/
import Derived.Test.YtmmcbleoglgamaaBox
import Derived.Deep.Cut
namespace Go.Proofs.Ytmmcbleoglgamaa
open Go.RowKit
/-- The call returned a device of its own. -/
def RetT (w0 : World) (D : Dev4) (en : Ending) (w' : World) : Prop :=
  ∃ A c B k, en = .returned (.agg #[.slice A D.1.length c, .slice B D.2.1.length k, .int .i64 D.2.2.1, .bool D.2.2.2]) ∧ w'.ownsRow w0.heap.size 26 1 (.slice A D.1.length c) D.1.length (fU D.1) ∧ w'.ownsRow w0.heap.size 44 3 (.slice B D.2.1.length k) D.2.1.length (fD D.2.1) ∧ Ext w0 w'
/-- The call returned a device of its own and a bool. -/
def RetTb (w0 : World) (D : Dev4) (b : Bool) (en : Ending) (w' : World) : Prop :=
  ∃ A c B k, en = .returned (.tuple #[.agg #[.slice A D.1.length c, .slice B D.2.1.length k, .int .i64 D.2.2.1, .bool D.2.2.2], .bool b]) ∧ w'.ownsRow w0.heap.size 26 1 (.slice A D.1.length c) D.1.length (fU D.1) ∧ w'.ownsRow w0.heap.size 44 3 (.slice B D.2.1.length k) D.2.1.length (fD D.2.1) ∧ Ext w0 w'
set_option maxHeartbeats 1600000 in
theorem dTwin_any (m : List Int) (q : List Dw) (left : Int) (down : Bool) (A : Option Addr) (c : Nat) (B : Option Addr) (d : Nat) (w : World) (hA : Sl w A m.length c (fU m)) (hB : Sl w B q.length d (fD q)) (hm : m.length ≤ 100000) (hq : q.length ≤ 100000) :
    Calls Try.prog 70 #[.agg #[.slice A m.length c, .slice B q.length d, .int .i64 left, .bool down]] w (RetT w (m, q, left, down)) := by
  have hbx : Box4 ((w.alloc (Obj.cells #[.slice A m.length c, .slice B q.length d, .int .i64 left, .bool down] 25)).alloc (Obj.cells #[.slice none 0 0, .slice none 0 0, .int .i64 0, .bool false] 25)) w.heap.size (.slice A m.length c) (.slice B q.length d) (.int .i64 left) (.bool down) := (Box4.new w _ _ _ _ _).alloc _
  have hrx : Box4 ((w.alloc (Obj.cells #[.slice A m.length c, .slice B q.length d, .int .i64 left, .bool down] 25)).alloc (Obj.cells #[.slice none 0 0, .slice none 0 0, .int .i64 0, .bool false] 25)) (w.heap.size + 1) (.slice none 0 0) (.slice none 0 0) (.int .i64 0) (.bool false) := Box4.new' _ _ (by simp) _ _ _ _ _
  go_enter Try.func70, Try.ntmps70
  go_wp2_with fail
  refine (cloneU_any m A c _ ((hA.alloc _).alloc _) hm).mono ?_
  rintro e w1 ⟨A1, c1, rfl, hown1, hA1, hx1⟩
  replace hbx := hbx.ext hx1
  replace hrx := hrx.ext hx1
  have hX1 : Ext w w1 := Ext.trans (((Ext.refl w).alloc _).alloc _) hx1
  obtain ⟨b0, b1, b2, b3, bf, bl⟩ := hbx
  go_wp2_with fail
  replace hbx := Box4.set0 (Box4.mk b0 b1 b2 b3 bf bl) (.slice A1 m.length c1)
  replace hrx := hrx.far (p := ⟨w.heap.size, 0, none⟩) (by simp) (.slice A1 m.length c1)
  have hX2 : Ext w (w1.setCell ⟨w.heap.size, 0, none⟩ (.slice A1 m.length c1)) := hX1.setCell (Nat.le_refl _) _
  have hown2 := own_cell (b := w.heap.size) hown1 (by simp; omega) 0 (.slice A1 m.length c1)
  clear b0 b1 b2 b3 bf bl hown1 hA1 hx1 hX1
  refine (cloneD_any q B d _ (hB.ext hX2) hq).mono ?_
  rintro e w2 ⟨B2, d2, rfl, hown3, hB2, hx2⟩
  have hsz3 := hrx.lt
  replace hbx := hbx.ext hx2
  replace hrx := hrx.ext hx2
  have hX3 := hX2.trans hx2
  replace hown2 := own_ext hown2 hx2
  obtain ⟨b0, b1, b2, b3, bf, bl⟩ := hbx
  obtain ⟨r0, r1, r2, r3, rf, rl⟩ := hrx
  go_wp2_with fail
  refine bodyPost_ret (v := .agg #[.slice A1 m.length c1, .slice B2 q.length d2, .int .i64 left, .bool down]) (by simp [results, Try.results70, go_sem, r0, r1, r2, r3]) rfl ?_
  refine ⟨_, _, _, _, rfl, own_base (own_set4 (own_cell (b := w.heap.size) hown2 (by simp; omega) 1 (.slice B2 q.length d2)) (b := w.heap.size + 1) (by simp) _ _ _ _) (by simp; omega), own_base (own_set4 (own_cell (b := w.heap.size) hown3 (by omega) 1 (.slice B2 q.length d2)) (b := w.heap.size + 1) hsz3 _ _ _ _) (by omega), set4_ext (hX3.setCell (p := ⟨w.heap.size, 1, none⟩) (Nat.le_refl _) _) (Nat.le_succ _) _ _ _ _⟩
/-- A device on which an operation begins. -/
def spD (m : List Int) (q : List Dw) (left : Int) (down : Bool) : Dev4 := if left = 0 then (m, q, 0, true) else (m, q, spL left, down)
theorem spD_0 (m : List Int) (q : List Dw) (down : Bool) : spD m q 0 down = (m, q, 0, true) := by simp [spD]
theorem spD_p {left : Int} (h : 0 < left) (m : List Int) (q : List Dw) (down : Bool) : spD m q left down = (m, q, left - 1, down) := by
  have : left ≠ 0 := by omega
  simp [spD, spL, this, h]
theorem spD_n {left : Int} (h : left < 0) (m : List Int) (q : List Dw) (down : Bool) : spD m q left down = (m, q, left, down) := by
  have h1 : left ≠ 0 := by omega
  have h2 : ¬ 0 < left := by omega
  simp [spD, spL, h1, h2]
set_option maxHeartbeats 1600000 in
theorem dSpend_0 (m : List Int) (q : List Dw)  (down : Bool) (A : Option Addr) (c : Nat) (B : Option Addr) (d : Nat) (w : World) (hA : Sl w A m.length c (fU m)) (hB : Sl w B q.length d (fD q)) (hm : m.length ≤ 100000) (hq : q.length ≤ 100000)  :
    Calls Try.prog 57 #[.agg #[.slice A m.length c, .slice B q.length d, .int .i64 0, .bool down]] w (RetTb w (m, q, 0, true) false) := by
  have hbx : Box4 ((w.alloc (Obj.cells #[.slice A m.length c, .slice B q.length d, .int .i64 0, .bool down] 25)).alloc (Obj.cells #[.slice none 0 0, .slice none 0 0, .int .i64 0, .bool false] 25)) w.heap.size (.slice A m.length c) (.slice B q.length d) (.int .i64 0) (.bool down) := (Box4.new w _ _ _ _ _).alloc _
  have hrx : Box4 ((w.alloc (Obj.cells #[.slice A m.length c, .slice B q.length d, .int .i64 0, .bool down] 25)).alloc (Obj.cells #[.slice none 0 0, .slice none 0 0, .int .i64 0, .bool false] 25)) (w.heap.size + 1) (.slice none 0 0) (.slice none 0 0) (.int .i64 0) (.bool false) := Box4.new' _ _ (by simp) _ _ _ _ _
  skip
  go_enter Try.func57, Try.ntmps57
  go_wp2_with fail
  refine (dTwin_any m q 0 down A c B d _ ((hA.alloc _).alloc _) ((hB.alloc _).alloc _) hm hq).mono ?_
  rintro e w1 ⟨A1, c1, B1, d1, rfl, hown1, hown2, hx1⟩
  have hX1 : Ext w w1 := Ext.trans (((Ext.refl w).alloc _).alloc _) hx1
  replace hbx := hbx.ext hx1
  replace hrx := hrx.ext hx1
  obtain ⟨b0, b1, b2, b3, bf, bl⟩ := hbx
  go_upto_region 2 with fail
  obtain ⟨W2, hW2⟩ : ∃ W2, W2 = ((((w1.setCell ⟨w.heap.size, 0, none⟩ (.slice A1 m.length c1)).setCell ⟨w.heap.size, 1, none⟩ (.slice B1 q.length d1)).setCell ⟨w.heap.size, 2, none⟩ (.int .i64 0)).setCell ⟨w.heap.size, 3, none⟩ (.bool down)) := ⟨_, rfl⟩
  rw [← hW2]
  replace hbx := Box4.set4 (Box4.mk b0 b1 b2 b3 bf bl) (.slice A1 m.length c1) (.slice B1 q.length d1) (.int .i64 0) (.bool down)
  replace hrx := Box4.far4 hrx (g := w.heap.size) (by omega) (.slice A1 m.length c1) (.slice B1 q.length d1) (.int .i64 0) (.bool down)
  have hX2 := set4_ext hX1 (b := w.heap.size) (Nat.le_refl _) (.slice A1 m.length c1) (.slice B1 q.length d1) (.int .i64 0) (.bool down)
  replace hown1 := own_set4 (b := w.heap.size) hown1 (by simp; omega) (.slice A1 m.length c1) (.slice B1 q.length d1) (.int .i64 0) (.bool down)
  replace hown2 := own_set4 (b := w.heap.size) hown2 (by simp; omega) (.slice A1 m.length c1) (.slice B1 q.length d1) (.int .i64 0) (.bool down)
  rw [← hW2] at hbx hrx hX2 hown1 hown2
  clear b0 b1 b2 b3 bf bl hW2 hX1 hx1
  obtain ⟨b0, b1, b2, b3, bf, bl⟩ := hbx
  obtain ⟨r0, r1, r2, r3, rf, rl⟩ := hrx
  go_wp2_with fail
  refine bodyPost_ret (v := .tuple #[.agg #[.slice A1 m.length c1, .slice B1 q.length d1, .int .i64 0, .bool true], .bool false]) (by simp [results, Try.results57, go_sem, r0, r1, r2, r3]) rfl ?_
  refine ⟨_, _, _, _, rfl, own_base (own_set4 (own_cell (b := w.heap.size) hown1 (by simp; omega) 3 _) (b := w.heap.size + 1) (by simp) _ _ _ _) (by simp; omega), own_base (own_set4 (own_cell (b := w.heap.size) hown2 (by simp; omega) 3 _) (b := w.heap.size + 1) (by simp) _ _ _ _) (by simp; omega), set4_ext (Ext.setCell hX2 (p := ⟨w.heap.size, 3, none⟩) (Nat.le_refl _) _) (Nat.le_succ _) _ _ _ _⟩
set_option maxHeartbeats 1600000 in
theorem dSpend_1 (m : List Int) (q : List Dw) (left : Int) (down : Bool) (A : Option Addr) (c : Nat) (B : Option Addr) (d : Nat) (w : World) (hA : Sl w A m.length c (fU m)) (hB : Sl w B q.length d (fD q)) (hm : m.length ≤ 100000) (hq : q.length ≤ 100000) (hl : 0 < left) (hl2 : left ≤ 1000000) :
    Calls Try.prog 57 #[.agg #[.slice A m.length c, .slice B q.length d, .int .i64 left, .bool down]] w (RetTb w (m, q, left - 1, down) true) := by
  have hbx : Box4 ((w.alloc (Obj.cells #[.slice A m.length c, .slice B q.length d, .int .i64 left, .bool down] 25)).alloc (Obj.cells #[.slice none 0 0, .slice none 0 0, .int .i64 0, .bool false] 25)) w.heap.size (.slice A m.length c) (.slice B q.length d) (.int .i64 left) (.bool down) := (Box4.new w _ _ _ _ _).alloc _
  have hrx : Box4 ((w.alloc (Obj.cells #[.slice A m.length c, .slice B q.length d, .int .i64 left, .bool down] 25)).alloc (Obj.cells #[.slice none 0 0, .slice none 0 0, .int .i64 0, .bool false] 25)) (w.heap.size + 1) (.slice none 0 0) (.slice none 0 0) (.int .i64 0) (.bool false) := Box4.new' _ _ (by simp) _ _ _ _ _
  have hl0 : (left == 0) = false := beq_eq_false_iff_ne.2 (by omega)
  go_enter Try.func57, Try.ntmps57
  go_wp2_with fail
  refine (dTwin_any m q left down A c B d _ ((hA.alloc _).alloc _) ((hB.alloc _).alloc _) hm hq).mono ?_
  rintro e w1 ⟨A1, c1, B1, d1, rfl, hown1, hown2, hx1⟩
  have hX1 : Ext w w1 := Ext.trans (((Ext.refl w).alloc _).alloc _) hx1
  replace hbx := hbx.ext hx1
  replace hrx := hrx.ext hx1
  obtain ⟨b0, b1, b2, b3, bf, bl⟩ := hbx
  go_upto_region 2 with fail
  obtain ⟨W2, hW2⟩ : ∃ W2, W2 = ((((w1.setCell ⟨w.heap.size, 0, none⟩ (.slice A1 m.length c1)).setCell ⟨w.heap.size, 1, none⟩ (.slice B1 q.length d1)).setCell ⟨w.heap.size, 2, none⟩ (.int .i64 left)).setCell ⟨w.heap.size, 3, none⟩ (.bool down)) := ⟨_, rfl⟩
  rw [← hW2]
  replace hbx := Box4.set4 (Box4.mk b0 b1 b2 b3 bf bl) (.slice A1 m.length c1) (.slice B1 q.length d1) (.int .i64 left) (.bool down)
  replace hrx := Box4.far4 hrx (g := w.heap.size) (by omega) (.slice A1 m.length c1) (.slice B1 q.length d1) (.int .i64 left) (.bool down)
  have hX2 := set4_ext hX1 (b := w.heap.size) (Nat.le_refl _) (.slice A1 m.length c1) (.slice B1 q.length d1) (.int .i64 left) (.bool down)
  replace hown1 := own_set4 (b := w.heap.size) hown1 (by simp; omega) (.slice A1 m.length c1) (.slice B1 q.length d1) (.int .i64 left) (.bool down)
  replace hown2 := own_set4 (b := w.heap.size) hown2 (by simp; omega) (.slice A1 m.length c1) (.slice B1 q.length d1) (.int .i64 left) (.bool down)
  rw [← hW2] at hbx hrx hX2 hown1 hown2
  clear b0 b1 b2 b3 bf bl hW2 hX1 hx1
  obtain ⟨b0, b1, b2, b3, bf, bl⟩ := hbx
  obtain ⟨r0, r1, r2, r3, rf, rl⟩ := hrx
  go_wp2_with fail
  refine bodyPost_ret (v := .tuple #[.agg #[.slice A1 m.length c1, .slice B1 q.length d1, .int .i64 (left - 1), .bool down], .bool true]) (by simp [results, Try.results57, go_sem, r0, r1, r2, r3]) rfl ?_
  refine ⟨_, _, _, _, rfl, own_base (own_set4 (own_cell (b := w.heap.size) hown1 (by simp; omega) 2 _) (b := w.heap.size + 1) (by simp) _ _ _ _) (by simp; omega), own_base (own_set4 (own_cell (b := w.heap.size) hown2 (by simp; omega) 2 _) (b := w.heap.size + 1) (by simp) _ _ _ _) (by simp; omega), set4_ext (Ext.setCell hX2 (p := ⟨w.heap.size, 2, none⟩) (Nat.le_refl _) _) (Nat.le_succ _) _ _ _ _⟩
set_option maxHeartbeats 1600000 in
theorem dSpend_2 (m : List Int) (q : List Dw) (left : Int) (down : Bool) (A : Option Addr) (c : Nat) (B : Option Addr) (d : Nat) (w : World) (hA : Sl w A m.length c (fU m)) (hB : Sl w B q.length d (fD q)) (hm : m.length ≤ 100000) (hq : q.length ≤ 100000) (hl : left < 0) :
    Calls Try.prog 57 #[.agg #[.slice A m.length c, .slice B q.length d, .int .i64 left, .bool down]] w (RetTb w (m, q, left, down) true) := by
  have hbx : Box4 ((w.alloc (Obj.cells #[.slice A m.length c, .slice B q.length d, .int .i64 left, .bool down] 25)).alloc (Obj.cells #[.slice none 0 0, .slice none 0 0, .int .i64 0, .bool false] 25)) w.heap.size (.slice A m.length c) (.slice B q.length d) (.int .i64 left) (.bool down) := (Box4.new w _ _ _ _ _).alloc _
  have hrx : Box4 ((w.alloc (Obj.cells #[.slice A m.length c, .slice B q.length d, .int .i64 left, .bool down] 25)).alloc (Obj.cells #[.slice none 0 0, .slice none 0 0, .int .i64 0, .bool false] 25)) (w.heap.size + 1) (.slice none 0 0) (.slice none 0 0) (.int .i64 0) (.bool false) := Box4.new' _ _ (by simp) _ _ _ _ _
  have hl0 : (left == 0) = false := beq_eq_false_iff_ne.2 (by omega)
  go_enter Try.func57, Try.ntmps57
  go_wp2_with fail
  refine (dTwin_any m q left down A c B d _ ((hA.alloc _).alloc _) ((hB.alloc _).alloc _) hm hq).mono ?_
  rintro e w1 ⟨A1, c1, B1, d1, rfl, hown1, hown2, hx1⟩
  have hX1 : Ext w w1 := Ext.trans (((Ext.refl w).alloc _).alloc _) hx1
  replace hbx := hbx.ext hx1
  replace hrx := hrx.ext hx1
  obtain ⟨b0, b1, b2, b3, bf, bl⟩ := hbx
  go_upto_region 2 with fail
  obtain ⟨W2, hW2⟩ : ∃ W2, W2 = ((((w1.setCell ⟨w.heap.size, 0, none⟩ (.slice A1 m.length c1)).setCell ⟨w.heap.size, 1, none⟩ (.slice B1 q.length d1)).setCell ⟨w.heap.size, 2, none⟩ (.int .i64 left)).setCell ⟨w.heap.size, 3, none⟩ (.bool down)) := ⟨_, rfl⟩
  rw [← hW2]
  replace hbx := Box4.set4 (Box4.mk b0 b1 b2 b3 bf bl) (.slice A1 m.length c1) (.slice B1 q.length d1) (.int .i64 left) (.bool down)
  replace hrx := Box4.far4 hrx (g := w.heap.size) (by omega) (.slice A1 m.length c1) (.slice B1 q.length d1) (.int .i64 left) (.bool down)
  have hX2 := set4_ext hX1 (b := w.heap.size) (Nat.le_refl _) (.slice A1 m.length c1) (.slice B1 q.length d1) (.int .i64 left) (.bool down)
  replace hown1 := own_set4 (b := w.heap.size) hown1 (by simp; omega) (.slice A1 m.length c1) (.slice B1 q.length d1) (.int .i64 left) (.bool down)
  replace hown2 := own_set4 (b := w.heap.size) hown2 (by simp; omega) (.slice A1 m.length c1) (.slice B1 q.length d1) (.int .i64 left) (.bool down)
  rw [← hW2] at hbx hrx hX2 hown1 hown2
  clear b0 b1 b2 b3 bf bl hW2 hX1 hx1
  obtain ⟨b0, b1, b2, b3, bf, bl⟩ := hbx
  obtain ⟨r0, r1, r2, r3, rf, rl⟩ := hrx
  go_wp2_with fail
  refine bodyPost_ret (v := .tuple #[.agg #[.slice A1 m.length c1, .slice B1 q.length d1, .int .i64 left, .bool down], .bool true]) (by simp [results, Try.results57, go_sem, r0, r1, r2, r3]) rfl ?_
  refine ⟨_, _, _, _, rfl, own_base (own_set4  hown1  (b := w.heap.size + 1) (by simp) _ _ _ _) (by simp; omega), own_base (own_set4  hown2  (b := w.heap.size + 1) (by simp) _ _ _ _) (by simp; omega), set4_ext  hX2  (Nat.le_succ _) _ _ _ _⟩
theorem dSpend_any (m : List Int) (q : List Dw) (left : Int) (down : Bool) (A : Option Addr) (c : Nat) (B : Option Addr) (d : Nat) (w : World) (hA : Sl w A m.length c (fU m)) (hB : Sl w B q.length d (fD q)) (hm : m.length ≤ 100000) (hq : q.length ≤ 100000) (hl : left ≤ 1000000) :
    Calls Try.prog 57 #[.agg #[.slice A m.length c, .slice B q.length d, .int .i64 left, .bool down]] w (RetTb w (spD m q left down) (decide (left ≠ 0))) := by
  by_cases h0 : left = 0
  · subst h0
    rw [spD_0]
    exact dSpend_0 m q down A c B d w hA hB hm hq
  · rw [decide_eq_true h0]
    by_cases h1 : 0 < left
    · rw [spD_p h1]
      exact dSpend_1 m q left down A c B d w hA hB hm hq h1 hl
    · rw [spD_n (by omega)]
      exact dSpend_2 m q left down A c B d w hA hB hm hq (by omega)
end Go.Proofs.Ytmmcbleoglgamaa
