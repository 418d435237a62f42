/-
  The contracts of the reference's copies of devices, and of beginning an operation.
-/
import Derived.Test.YtmmcbleoglgamaaDTwin
namespace Go.Proofs.Ytmmcbleoglgamaa
open Go.RowKit
theorem own_ne_hi {w : World} {base : Nat} {e : TypeId} {size n : Nat} {A : Option Addr} {c b : Nat} {xs : List Value} (h : w.ownsRow base e size (.slice A n c) n xs) (hb : w.heap.size ≤ b) : ∀ ad, A = some ad → ad.block ≠ b := by
  rintro ad rfl
  have := (h.lt ad.block rfl).2
  omega
theorem own_cellF {w : World} {base : Nat} {e : TypeId} {size n : Nat} {A : Option Addr} {c : Nat} {xs : List Value} (h : w.ownsRow base e size (.slice A n c) n xs) {b : Nat} (hb : ∀ ad, A = some ad → ad.block ≠ b) (o : Nat) (v : Value) : (w.setCell ⟨b, o, none⟩ v).ownsRow base e size (.slice A n c) n xs := by
  have hg : w.grownBy (w.setCell ⟨b, o, none⟩ v) (some b) := ⟨rfl, rfl, rfl, by simp, fun k _ hk => heap_setCell_other w ⟨b, o, none⟩ k v (fun e => hk (by simp [e]))⟩
  refine h.kept hg ?_
  cases A with
  | none => exact .inl rfl
  | some ad =>
    refine .inr ?_
    have := hb ad rfl
    simp only [Value.ownBlock, ne_eq, Option.some.injEq]
    exact this
set_option maxHeartbeats 1600000 in
theorem dRTwin_any (m : List Int) (q : List Dw) (left : Int) (down : Bool) (A : Option Addr) (c : Nat) (B : Option Addr) (d : Nat) (w : World) (hA : Sl w A m.length c (fU m)) (hB : Sl w B q.length d (fD q)) (hm : m.length ≤ 100000) (hq : q.length ≤ 100000) :
    Calls Try.prog 27 #[.agg #[.slice A m.length c, .slice B q.length d, .int .i64 left, .bool down]] w (RetT w (m, q, left, down)) := by
  have hbx : Box4 ((w.alloc (Obj.cells #[.slice A m.length c, .slice B q.length d, .int .i64 left, .bool down] 25)).alloc (Obj.cells #[.slice none 0 0, .slice none 0 0, .int .i64 0, .bool false] 25)) w.heap.size (.slice A m.length c) (.slice B q.length d) (.int .i64 left) (.bool down) := (Box4.new w _ _ _ _ _).alloc _
  have hrx : Box4 ((w.alloc (Obj.cells #[.slice A m.length c, .slice B q.length d, .int .i64 left, .bool down] 25)).alloc (Obj.cells #[.slice none 0 0, .slice none 0 0, .int .i64 0, .bool false] 25)) (w.heap.size + 1) (.slice none 0 0) (.slice none 0 0) (.int .i64 0) (.bool false) := Box4.new' _ _ (by simp) _ _ _ _ _
  go_enter Try.func27, Try.ntmps27
  go_wp2_with fail
  refine (twin2_any m A c _ ((hA.alloc _).alloc _) hm).mono ?_
  rintro e w1 ⟨A1, c1, rfl, hown1, hA1, hx1⟩
  replace hbx := hbx.ext hx1
  replace hrx := hrx.ext hx1
  have hX1 : Ext w w1 := Ext.trans (((Ext.refl w).alloc _).alloc _) hx1
  obtain ⟨b0, b1, b2, b3, bf, bl⟩ := hbx
  go_upto_region 2 with fail
  obtain ⟨W2, hW2⟩ : ∃ W2, W2 = w1.setCell ⟨w.heap.size, 0, none⟩ (.slice A1 m.length c1) := ⟨_, rfl⟩
  rw [← hW2]
  replace hbx := Box4.set0 (Box4.mk b0 b1 b2 b3 bf bl) (.slice A1 m.length c1)
  replace hrx := hrx.far (p := ⟨w.heap.size, 0, none⟩) (by simp) (.slice A1 m.length c1)
  have hX2 : Ext w (w1.setCell ⟨w.heap.size, 0, none⟩ (.slice A1 m.length c1)) := hX1.setCell (Nat.le_refl _) _
  have hown2 := own_cell (b := w.heap.size) hown1 (by simp; omega) 0 (.slice A1 m.length c1)
  rw [← hW2] at hbx hrx hX2 hown2
  clear b0 b1 b2 b3 bf bl hown1 hA1 hx1 hX1 hW2
  have hsz := hrx.lt
  obtain ⟨b0, b1, b2, b3, bf, bl⟩ := hbx
  obtain ⟨r0, r1, r2, r3, rf, rl⟩ := hrx
  go_wp2_with (at_builtin; refine wpList_app ED rfl (.tmp 7) (.tmp 9) rfl rfl (own_lit (w := W2) (base := W2.heap.size) (e := 44) (size := 3) #[] _ 0 (by simp) (Nat.le_refl _) (by decide) rfl) rfl ((hB.ext hX2).alloc _) (fD_length q) (fD_one q) (by omega) (by simp) ?_; intro v' w2 hown' hbel hat hgr; have hown3 : w2.ownsRow W2.heap.size 44 3 v' q.length (fD q) := (by simpa using hown'); obtain ⟨B2, d2, hv, hB2⟩ := Sl.of_own hown3; subst hv; clear hown' hat hgr; have hx2 : Ext W2 w2 := Below.trans ((Ext.refl W2).alloc _) hbel; obtain ⟨b0', b1', b2', b3', bf', bl'⟩ := (Box4.mk b0 b1 b2 b3 bf bl).ext hx2; obtain ⟨r0', r1', r2', r3', rf', rl'⟩ := (Box4.mk r0 r1 r2 r3 rf rl).ext hx2; clear b0 b1 b2 b3 bf bl r0 r1 r2 r3 rf rl)
  have hX3 := hX2.trans hx2
  replace hown2 := own_ext hown2 hx2
  refine bodyPost_ret (v := .agg #[.slice A1 m.length c1, .slice B2 q.length d2, .int .i64 left, .bool down]) (by simp [results, Try.results27, go_sem, r0', r1', r2', r3']) rfl ?_
  refine ⟨_, _, _, _, rfl, own_base (own_set4 (own_cell (b := w.heap.size) hown2 (by simp; omega) 1 (.slice B2 q.length d2)) (b := w.heap.size + 1) (by simp) _ _ _ _) (by simp; omega), own_base (own_set4 (own_cell (b := w.heap.size) hown3 (by omega) 1 (.slice B2 q.length d2)) (b := w.heap.size + 1) hsz _ _ _ _) (by omega), set4_ext (hX3.setCell (p := ⟨w.heap.size, 1, none⟩) (Nat.le_refl _) _) (Nat.le_succ _) _ _ _ _⟩
set_option maxHeartbeats 1600000 in
theorem dRSpent_0 (m : List Int) (q : List Dw)  (down : Bool) (A : Option Addr) (c : Nat) (B : Option Addr) (d : Nat) (w : World) (hA : Sl w A m.length c (fU m)) (hB : Sl w B q.length d (fD q)) (hm : m.length ≤ 100000) (hq : q.length ≤ 100000)  :
    Calls Try.prog 73 #[.agg #[.slice A m.length c, .slice B q.length d, .int .i64 0, .bool down]] w (RetTb w (m, q, 0, true) false) := by
  have hbx : Box4 ((w.alloc (Obj.cells #[.slice A m.length c, .slice B q.length d, .int .i64 0, .bool down] 25)).alloc (Obj.cells #[.slice none 0 0, .slice none 0 0, .int .i64 0, .bool false] 25)) w.heap.size (.slice A m.length c) (.slice B q.length d) (.int .i64 0) (.bool down) := (Box4.new w _ _ _ _ _).alloc _
  have hrx : Box4 ((w.alloc (Obj.cells #[.slice A m.length c, .slice B q.length d, .int .i64 0, .bool down] 25)).alloc (Obj.cells #[.slice none 0 0, .slice none 0 0, .int .i64 0, .bool false] 25)) (w.heap.size + 1) (.slice none 0 0) (.slice none 0 0) (.int .i64 0) (.bool false) := Box4.new' _ _ (by simp) _ _ _ _ _
  skip
  go_enter Try.func73, Try.ntmps73
  go_wp2_with fail
  refine (dRTwin_any m q 0 down A c B d _ ((hA.alloc _).alloc _) ((hB.alloc _).alloc _) hm hq).mono ?_
  rintro e w1 ⟨A1, c1, B1, d1, rfl, hown1, hown2, hx1⟩
  have hX1 : Ext w w1 := Ext.trans (((Ext.refl w).alloc _).alloc _) hx1
  replace hbx := hbx.ext hx1
  replace hrx := hrx.ext hx1
  go_upto_region 2 with fail
  obtain ⟨W2, hW2⟩ : ∃ W2, W2 = w1.alloc (Obj.cells #[.slice A1 m.length c1, .slice B1 q.length d1, .int .i64 0, .bool down] 25) := ⟨_, rfl⟩
  rw [← hW2]
  have hox := Box4.new w1 (.slice A1 m.length c1) (.slice B1 q.length d1) (.int .i64 0) (.bool down) 25
  have hx2 := (Ext.refl w1).alloc (Obj.cells #[.slice A1 m.length c1, .slice B1 q.length d1, .int .i64 0, .bool down] 25)
  have hl1 := hrx.lt
  rw [← hW2] at hox hx2
  replace hbx := hbx.ext hx2
  replace hrx := hrx.ext hx2
  have hX2 := hX1.trans hx2
  have hf1 := own_ne_hi hown1 (Nat.le_refl _)
  have hf2 := own_ne_hi hown2 (Nat.le_refl _)
  replace hown1 := own_ext hown1 hx2
  replace hown2 := own_ext hown2 hx2
  obtain ⟨g, hg⟩ : ∃ g, w1.heap.size = g := ⟨_, rfl⟩
  rw [hg] at hox hl1 hf1 hf2 ⊢
  have hn1 : g ≠ w.heap.size := by omega
  have hn2 : g ≠ w.heap.size + 1 := by omega
  clear hW2 hX1 hx1 hx2 hg
  obtain ⟨b0, b1, b2, b3, bf, bl⟩ := hbx
  obtain ⟨r0, r1, r2, r3, rf, rl⟩ := hrx
  obtain ⟨o0, o1, o2, o3, of, ol⟩ := hox
  go_wp2_with fail
  refine bodyPost_ret (v := .tuple #[.agg #[.slice A1 m.length c1, .slice B1 q.length d1, .int .i64 0, .bool true], .bool false]) (by simp [results, Try.results73, go_sem, r0, r1, r2, r3]) rfl ?_
  refine ⟨_, _, _, _, rfl, own_base (own_set4 (own_cellF hown1 hf1 3 _) (b := w.heap.size + 1) (by simp) _ _ _ _) (by simp; omega), own_base (own_set4 (own_cellF hown2 hf2 3 _) (b := w.heap.size + 1) (by simp) _ _ _ _) (by simp; omega), set4_ext (hX2.setCell (p := ⟨g, 3, none⟩) (by show w.heap.size ≤ g; omega) _) (Nat.le_succ _) _ _ _ _⟩
set_option maxHeartbeats 1600000 in
theorem dRSpent_1 (m : List Int) (q : List Dw) (left : Int) (down : Bool) (A : Option Addr) (c : Nat) (B : Option Addr) (d : Nat) (w : World) (hA : Sl w A m.length c (fU m)) (hB : Sl w B q.length d (fD q)) (hm : m.length ≤ 100000) (hq : q.length ≤ 100000) (hl : 0 < left) (hl2 : left ≤ 1000000) :
    Calls Try.prog 73 #[.agg #[.slice A m.length c, .slice B q.length d, .int .i64 left, .bool down]] w (RetTb w (m, q, left - 1, down) true) := by
  have hbx : Box4 ((w.alloc (Obj.cells #[.slice A m.length c, .slice B q.length d, .int .i64 left, .bool down] 25)).alloc (Obj.cells #[.slice none 0 0, .slice none 0 0, .int .i64 0, .bool false] 25)) w.heap.size (.slice A m.length c) (.slice B q.length d) (.int .i64 left) (.bool down) := (Box4.new w _ _ _ _ _).alloc _
  have hrx : Box4 ((w.alloc (Obj.cells #[.slice A m.length c, .slice B q.length d, .int .i64 left, .bool down] 25)).alloc (Obj.cells #[.slice none 0 0, .slice none 0 0, .int .i64 0, .bool false] 25)) (w.heap.size + 1) (.slice none 0 0) (.slice none 0 0) (.int .i64 0) (.bool false) := Box4.new' _ _ (by simp) _ _ _ _ _
  have hl0 : (left == 0) = false := beq_eq_false_iff_ne.2 (by omega)
  go_enter Try.func73, Try.ntmps73
  go_wp2_with fail
  refine (dRTwin_any m q left down A c B d _ ((hA.alloc _).alloc _) ((hB.alloc _).alloc _) hm hq).mono ?_
  rintro e w1 ⟨A1, c1, B1, d1, rfl, hown1, hown2, hx1⟩
  have hX1 : Ext w w1 := Ext.trans (((Ext.refl w).alloc _).alloc _) hx1
  replace hbx := hbx.ext hx1
  replace hrx := hrx.ext hx1
  go_upto_region 2 with fail
  obtain ⟨W2, hW2⟩ : ∃ W2, W2 = w1.alloc (Obj.cells #[.slice A1 m.length c1, .slice B1 q.length d1, .int .i64 left, .bool down] 25) := ⟨_, rfl⟩
  rw [← hW2]
  have hox := Box4.new w1 (.slice A1 m.length c1) (.slice B1 q.length d1) (.int .i64 left) (.bool down) 25
  have hx2 := (Ext.refl w1).alloc (Obj.cells #[.slice A1 m.length c1, .slice B1 q.length d1, .int .i64 left, .bool down] 25)
  have hl1 := hrx.lt
  rw [← hW2] at hox hx2
  replace hbx := hbx.ext hx2
  replace hrx := hrx.ext hx2
  have hX2 := hX1.trans hx2
  have hf1 := own_ne_hi hown1 (Nat.le_refl _)
  have hf2 := own_ne_hi hown2 (Nat.le_refl _)
  replace hown1 := own_ext hown1 hx2
  replace hown2 := own_ext hown2 hx2
  obtain ⟨g, hg⟩ : ∃ g, w1.heap.size = g := ⟨_, rfl⟩
  rw [hg] at hox hl1 hf1 hf2 ⊢
  have hn1 : g ≠ w.heap.size := by omega
  have hn2 : g ≠ w.heap.size + 1 := by omega
  clear hW2 hX1 hx1 hx2 hg
  obtain ⟨b0, b1, b2, b3, bf, bl⟩ := hbx
  obtain ⟨r0, r1, r2, r3, rf, rl⟩ := hrx
  obtain ⟨o0, o1, o2, o3, of, ol⟩ := hox
  go_wp2_with fail
  refine bodyPost_ret (v := .tuple #[.agg #[.slice A1 m.length c1, .slice B1 q.length d1, .int .i64 (left - 1), .bool down], .bool true]) (by simp [results, Try.results73, go_sem, r0, r1, r2, r3]) rfl ?_
  refine ⟨_, _, _, _, rfl, own_base (own_set4 (own_cellF hown1 hf1 2 _) (b := w.heap.size + 1) (by simp) _ _ _ _) (by simp; omega), own_base (own_set4 (own_cellF hown2 hf2 2 _) (b := w.heap.size + 1) (by simp) _ _ _ _) (by simp; omega), set4_ext (hX2.setCell (p := ⟨g, 2, none⟩) (by show w.heap.size ≤ g; omega) _) (Nat.le_succ _) _ _ _ _⟩
set_option maxHeartbeats 1600000 in
theorem dRSpent_2 (m : List Int) (q : List Dw) (left : Int) (down : Bool) (A : Option Addr) (c : Nat) (B : Option Addr) (d : Nat) (w : World) (hA : Sl w A m.length c (fU m)) (hB : Sl w B q.length d (fD q)) (hm : m.length ≤ 100000) (hq : q.length ≤ 100000) (hl : left < 0) :
    Calls Try.prog 73 #[.agg #[.slice A m.length c, .slice B q.length d, .int .i64 left, .bool down]] w (RetTb w (m, q, left, down) true) := by
  have hbx : Box4 ((w.alloc (Obj.cells #[.slice A m.length c, .slice B q.length d, .int .i64 left, .bool down] 25)).alloc (Obj.cells #[.slice none 0 0, .slice none 0 0, .int .i64 0, .bool false] 25)) w.heap.size (.slice A m.length c) (.slice B q.length d) (.int .i64 left) (.bool down) := (Box4.new w _ _ _ _ _).alloc _
  have hrx : Box4 ((w.alloc (Obj.cells #[.slice A m.length c, .slice B q.length d, .int .i64 left, .bool down] 25)).alloc (Obj.cells #[.slice none 0 0, .slice none 0 0, .int .i64 0, .bool false] 25)) (w.heap.size + 1) (.slice none 0 0) (.slice none 0 0) (.int .i64 0) (.bool false) := Box4.new' _ _ (by simp) _ _ _ _ _
  have hl0 : (left == 0) = false := beq_eq_false_iff_ne.2 (by omega)
  go_enter Try.func73, Try.ntmps73
  go_wp2_with fail
  refine (dRTwin_any m q left down A c B d _ ((hA.alloc _).alloc _) ((hB.alloc _).alloc _) hm hq).mono ?_
  rintro e w1 ⟨A1, c1, B1, d1, rfl, hown1, hown2, hx1⟩
  have hX1 : Ext w w1 := Ext.trans (((Ext.refl w).alloc _).alloc _) hx1
  replace hbx := hbx.ext hx1
  replace hrx := hrx.ext hx1
  go_upto_region 2 with fail
  obtain ⟨W2, hW2⟩ : ∃ W2, W2 = w1.alloc (Obj.cells #[.slice A1 m.length c1, .slice B1 q.length d1, .int .i64 left, .bool down] 25) := ⟨_, rfl⟩
  rw [← hW2]
  have hox := Box4.new w1 (.slice A1 m.length c1) (.slice B1 q.length d1) (.int .i64 left) (.bool down) 25
  have hx2 := (Ext.refl w1).alloc (Obj.cells #[.slice A1 m.length c1, .slice B1 q.length d1, .int .i64 left, .bool down] 25)
  have hl1 := hrx.lt
  rw [← hW2] at hox hx2
  replace hbx := hbx.ext hx2
  replace hrx := hrx.ext hx2
  have hX2 := hX1.trans hx2
  have hf1 := own_ne_hi hown1 (Nat.le_refl _)
  have hf2 := own_ne_hi hown2 (Nat.le_refl _)
  replace hown1 := own_ext hown1 hx2
  replace hown2 := own_ext hown2 hx2
  obtain ⟨g, hg⟩ : ∃ g, w1.heap.size = g := ⟨_, rfl⟩
  rw [hg] at hox hl1 hf1 hf2 ⊢
  have hn1 : g ≠ w.heap.size := by omega
  have hn2 : g ≠ w.heap.size + 1 := by omega
  clear hW2 hX1 hx1 hx2 hg
  obtain ⟨b0, b1, b2, b3, bf, bl⟩ := hbx
  obtain ⟨r0, r1, r2, r3, rf, rl⟩ := hrx
  obtain ⟨o0, o1, o2, o3, of, ol⟩ := hox
  go_wp2_with fail
  refine bodyPost_ret (v := .tuple #[.agg #[.slice A1 m.length c1, .slice B1 q.length d1, .int .i64 left, .bool down], .bool true]) (by simp [results, Try.results73, go_sem, r0, r1, r2, r3]) rfl ?_
  refine ⟨_, _, _, _, rfl, own_base (own_set4 hown1 (b := w.heap.size + 1) (by simp) _ _ _ _) (by simp; omega), own_base (own_set4 hown2 (b := w.heap.size + 1) (by simp) _ _ _ _) (by simp; omega), set4_ext hX2 (Nat.le_succ _) _ _ _ _⟩
theorem dRSpent_any (m : List Int) (q : List Dw) (left : Int) (down : Bool) (A : Option Addr) (c : Nat) (B : Option Addr) (d : Nat) (w : World) (hA : Sl w A m.length c (fU m)) (hB : Sl w B q.length d (fD q)) (hm : m.length ≤ 100000) (hq : q.length ≤ 100000) (hl : left ≤ 1000000) :
    Calls Try.prog 73 #[.agg #[.slice A m.length c, .slice B q.length d, .int .i64 left, .bool down]] w (RetTb w (spD m q left down) (decide (left ≠ 0))) := by
  by_cases h0 : left = 0
  · subst h0
    rw [spD_0]
    exact dRSpent_0 m q down A c B d w hA hB hm hq
  · rw [decide_eq_true h0]
    by_cases h1 : 0 < left
    · rw [spD_p h1]
      exact dRSpent_1 m q left down A c B d w hA hB hm hq h1 hl
    · rw [spD_n (by omega)]
      exact dRSpent_2 m q left down A c B d w hA hB hm hq (by omega)
end Go.Proofs.Ytmmcbleoglgamaa
