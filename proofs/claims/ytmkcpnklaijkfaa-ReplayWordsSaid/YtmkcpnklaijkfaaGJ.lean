/-
  Several texts in one: DSto, DSto2, DFen, DIdx, DDel, DFence.
-/
import Derived.Test.YtmkcpnklaijkfaaGG
import Derived.Test.YtmkcpnklaijkfaaGI
/-
  The contract of storing.
-/
namespace Go.Proofs.Ytmkcpnklaijkfaa
open Go.RowKit
set_option maxRecDepth 100000 in
set_option maxHeartbeats 6400000 in
theorem dStore_1 (m : List Int) (q : List Dw) (left : Int) (down : Bool) (a v : Int) (A : Option Addr) (c : Nat) (B : Option Addr) (d : Nat) (w : World) (hA : Sl w A m.length c (fU m)) (hB : Sl w B q.length d (fD q)) (h0 : askE m q left down a = 0) (hl : left ≠ 0) :
    Calls Try.prog 96 #[.agg #[.slice A m.length c, .slice B q.length d, .int .i64 left, .bool down], .int .i64 a, .int .u64 v] w (RetV w (m, insD a v q, spL left, down) 0) := by
  have hbx : Box4 ((w.alloc (Obj.cells #[.slice A m.length c, .slice B q.length d, .int .i64 left, .bool down] 46)).alloc (Obj.cells #[.slice none 0 0, .slice none 0 0, .int .i64 0, .bool false] 46)) w.heap.size (.slice A m.length c) (.slice B q.length d) (.int .i64 left) (.bool down) := (Box4.new w _ _ _ _ _).alloc _
  have hrx : Box4 ((w.alloc (Obj.cells #[.slice A m.length c, .slice B q.length d, .int .i64 left, .bool down] 46)).alloc (Obj.cells #[.slice none 0 0, .slice none 0 0, .int .i64 0, .bool false] 46)) (w.heap.size + 1) (.slice none 0 0) (.slice none 0 0) (.int .i64 0) (.bool false) := Box4.new' _ _ (by simp) _ _ _ _ _
  obtain ⟨hd, a0, a1⟩ := askE_ok h0
  obtain ⟨k1, k2, k3, k4, hasc⟩ := devB_bd hd
  have hsz := sizeB_bd k1
  have hql := dirty_le hd
  have H0 := Lib.hid (And.intro h0 (And.intro hasc k4))
  clear hd hasc k1 k4 h0
  have hlb : decide (left ≠ 0) = true := decide_eq_true hl
  go_enter Try.func96, Try.ntmps96
  go_wp2_with fail
  refine (dAsk_any m q left down a A c B d _ ((hB.alloc _).alloc _)).mono ?_
  rintro e w1 ⟨rfl, hx1⟩
  rw [H0.out.1]
  replace hbx := hbx.ext hx1
  replace hrx := hrx.ext hx1
  have hX1 : Ext w w1 := Ext.trans (((Ext.refl w).alloc _).alloc _) hx1
  obtain ⟨b0, b1, b2, b3, bf, bl⟩ := hbx
  go_wp2_with fail
  refine (dSpend_any m q left down A c B d w1 (hA.ext hX1) (hB.ext hX1) (by omega) (by omega) k3).mono ?_
  rw [spD_ne hl, hlb]
  rintro e w2 ⟨A1, c1, B1, d1, rfl, hown1, hown2, hx2⟩
  obtain ⟨L, hL⟩ : ∃ L, spL left = L := ⟨_, rfl⟩
  simp only [hL]
  have HL := Lib.hid hL
  clear hL
  have hX2 := hX1.trans hx2
  have hl1 : w.heap.size + 2 ≤ w1.heap.size := hrx.lt
  replace hbx := (Box4.mk b0 b1 b2 b3 bf bl).ext hx2
  replace hrx := hrx.ext hx2
  clear b0 b1 b2 b3 bf bl
  obtain ⟨b0, b1, b2, b3, bf, bl⟩ := hbx
  go_upto_region 5 with fail
  obtain ⟨W2, hW2⟩ : ∃ W2, W2 = ((((w2.setCell ⟨w.heap.size, 0, none⟩ (.slice A1 m.length c1)).setCell ⟨w.heap.size, 1, none⟩ (.slice B1 q.length d1)).setCell ⟨w.heap.size, 2, none⟩ (.int .i64 L)).setCell ⟨w.heap.size, 3, none⟩ (.bool down)) := ⟨_, rfl⟩
  rw [← hW2]
  replace hbx := Box4.set4 (Box4.mk b0 b1 b2 b3 bf bl) (.slice A1 m.length c1) (.slice B1 q.length d1) (.int .i64 L) (.bool down)
  replace hrx := Box4.far4 hrx (g := w.heap.size) (by omega) (.slice A1 m.length c1) (.slice B1 q.length d1) (.int .i64 L) (.bool down)
  have hX3 := set4_ext hX2 (b := w.heap.size) (Nat.le_refl _) (.slice A1 m.length c1) (.slice B1 q.length d1) (.int .i64 L) (.bool down)
  have hA1 := own_set4 (own_base hown1 hl1) (b := w.heap.size) (by omega) (.slice A1 m.length c1) (.slice B1 q.length d1) (.int .i64 L) (.bool down)
  have hB1 := own_set4 (own_base hown2 hl1) (b := w.heap.size) (by omega) (.slice A1 m.length c1) (.slice B1 q.length d1) (.int .i64 L) (.bool down)
  rw [← hW2] at hbx hrx hX3 hA1 hB1
  clear b0 b1 b2 b3 bf bl hW2 hX1 hx1 hX2 hx2 hown1 hown2 hA hB
  go_upto_region 8 with fail
  have hgw1 : w.heap.size + 2 ≤ W2.heap.size := hrx.lt
  have hbx := hbx.alloc (Obj.cells #[.int .i64 a, .int .u64 v, .bool false] 88)
  have hrx := hrx.alloc (Obj.cells #[.int .i64 a, .int .u64 v, .bool false] 88)
  have hA1 := hA1.alloc (Obj.cells #[.int .i64 a, .int .u64 v, .bool false] 88)
  have hB1 := hB1.alloc (Obj.cells #[.int .i64 a, .int .u64 v, .bool false] 88)
  have hX3 := hX3.alloc (Obj.cells #[.int .i64 a, .int .u64 v, .bool false] 88)
  have c0 : (W2.alloc (Obj.cells #[.int .i64 a, .int .u64 v, .bool false] 88)).cell? ⟨W2.heap.size, 0, none⟩ = some (.int .i64 a) := by simp [go_sem]
  have c1' : (W2.alloc (Obj.cells #[.int .i64 a, .int .u64 v, .bool false] 88)).cell? ⟨W2.heap.size, 1, none⟩ = some (.int .u64 v) := by simp [go_sem]
  have c2 : (W2.alloc (Obj.cells #[.int .i64 a, .int .u64 v, .bool false] 88)).cell? ⟨W2.heap.size, 2, none⟩ = some (.bool false) := by simp [go_sem]
  obtain ⟨W3, hW3⟩ : ∃ W, W = W2.alloc (Obj.cells #[.int .i64 a, .int .u64 v, .bool false] 88) := ⟨_, rfl⟩
  have hgw : W2.heap.size < W3.heap.size := by rw [hW3]; simp
  rw [← hW3] at hbx hrx hA1 hB1 hX3 c0 c1' c2 ⊢
  obtain ⟨gw, hgw0⟩ : ∃ g, W2.heap.size = g := ⟨_, rfl⟩
  rw [hgw0] at hgw hgw1 c0 c1' c2 ⊢
  clear hW3 hgw0
  obtain ⟨b0, b1, b2, b3, bf, bl⟩ := hbx
  go_wp2_with fail
  refine (dFind_any m q L down a A1 c1 B1 d1 W3 (own_sl4 hB1) H0.out.2.1 (by omega)).mono ?_
  rintro e w4 ⟨rfl, hx4⟩
  replace hX3 := hX3.trans hx4
  replace hbx := (Box4.mk b0 b1 b2 b3 bf bl).ext hx4
  replace hrx := hrx.ext hx4
  replace hA1 := own_ext hA1 hx4
  replace hB1 := own_ext hB1 hx4
  replace c0 := hx4.cell c0
  replace c1' := hx4.cell c1'
  replace c2 := hx4.cell c2
  replace hgw := Nat.lt_of_lt_of_le hgw hx4.size
  clear b0 b1 b2 b3 bf bl hx4
  have hct := cntLt_le a q
  cases hf : fndD a q with
  | true =>
    obtain ⟨x, hq1, -⟩ := fnd_at hf
    have hins := insD_fnd (v := v) hf
    obtain ⟨t, ht⟩ : ∃ t, cntLt a q = t := ⟨_, rfl⟩
    rw [ht] at hq1 hins hct ⊢
    have HIN := Lib.hid hins
    have hlt := (List.getElem?_eq_some_iff.1 hq1).1
    have i1 : (t : Int) < q.length := by omega
    obtain ⟨g, rfl, hg⟩ := own_head hB1 (by omega)
    have hap := own_apart hA1 hB1 (by decide)
    have hgl := (hB1.lt g rfl).2
    obtain ⟨y, hy, g0, g1, g2, gf⟩ := own_at_D hB1 hlt
    have ne1 : g ≠ w.heap.size := by omega
    have ne2 : g ≠ w.heap.size + 1 := by omega
    have hB2 := own_set_D3 hB1 hlt (a, v, false)
    have hA2 := own_cellF (own_cellF (own_cellF hA1 hap (t * 3) (.int .i64 a)) hap (t * 3 + 1) (.int .u64 v)) hap (t * 3 + 2) (.bool false)
    have hbx2 := ((hbx.far (p := ⟨g, t * 3, none⟩) ne1 (.int .i64 a)).far (p := ⟨g, t * 3 + 1, none⟩) ne1 (.int .u64 v)).far (p := ⟨g, t * 3 + 2, none⟩) ne1 (.bool false)
    have hrx2 := ((hrx.far (p := ⟨g, t * 3, none⟩) ne2 (.int .i64 a)).far (p := ⟨g, t * 3 + 1, none⟩) ne2 (.int .u64 v)).far (p := ⟨g, t * 3 + 2, none⟩) ne2 (.bool false)
    have hX4 := ((hX3.setCell (p := ⟨g, t * 3, none⟩) (by show w.heap.size ≤ g; omega) (.int .i64 a)).setCell (p := ⟨g, t * 3 + 1, none⟩) (by show w.heap.size ≤ g; omega) (.int .u64 v)).setCell (p := ⟨g, t * 3 + 2, none⟩) (by show w.heap.size ≤ g; omega) (.bool false)
    have HQ := Lib.hid hB2
    obtain ⟨b0, b1, b2, b3, bf, bl⟩ := hbx
    clear hf ht hq1 hins hy hB2
    go_upto_region 12 with fail
    have hB2 := HQ.out
    obtain ⟨W5, hW5⟩ : ∃ W, W = ((w4.setCell ⟨g, t * 3, none⟩ (.int .i64 a)).setCell ⟨g, t * 3 + 1, none⟩ (.int .u64 v)).setCell ⟨g, t * 3 + 2, none⟩ (.bool false) := ⟨_, rfl⟩
    rw [← hW5] at hB2 hA2 hbx2 hrx2 hX4 ⊢
    clear hW5 b0 b1 b2 b3 bf bl c0 c1' c2 g0 g1 g2 gf HQ hB1 hA1 hX3 hrx
    obtain ⟨b0, b1, b2, b3, bf, bl⟩ := hbx2
    obtain ⟨r0, r1, r2, r3, rf, rl⟩ := hrx2
    go_wp2_with fail
    refine bodyPost_ret (v := .tuple #[.agg #[.slice A1 m.length c1, .slice (some ⟨g, 0, none⟩) q.length d1, .int .i64 L, .bool down], .int .i64 0]) (by simp [results, Try.results96, go_sem, r0, r1, r2, r3]) rfl ?_
    rw [HIN.out]
    exact retV_at rfl (List.length_set ..) HL.out (own_sl4 (own_set4 hA2 (b := w.heap.size + 1) (by omega) _ _ _ _)) (own_sl4 (own_set4 hB2 (b := w.heap.size + 1) (by omega) _ _ _ _)) (set4_ext hX4 (Nat.le_succ _) _ _ _ _)
  | false =>
    have hins := insD_not (v := v) hf
    obtain ⟨t, ht⟩ : ∃ t, cntLt a q = t := ⟨_, rfl⟩
    rw [ht] at hins hct ⊢
    have HIN := Lib.hid hins
    have i1 : (t : Int) ≤ q.length := by omega
    have hB0 := hB1.alloc (Obj.cells (fD [(a, v, false)]).toArray 88)
    have hins2 := ins_any q t hct (a, v, false) B1 d1 (w.heap.size + 2) w4.heap.size 88 _ hB0 (heap_alloc_new w4 _) (fun ad e he => by subst e; have := (hB1.lt ad.block rfl).2; omega) (by simp; omega) (by omega)
    have HI := Lib.hid hins2
    have HL1 := Lib.hid (show (q.take t ++ (a, v, false) :: q.drop t).length = q.length + 1 by simp; omega)
    obtain ⟨b0, b1, b2, b3, bf, bl⟩ := hbx
    clear hf ht hins hB0 hins2
    go_wp2_with fail
    refine (HI.out).mono ?_
    rintro e w5 ⟨B5, d5, rfl, hown5, hgr⟩
    have hrow : ∀ k, (Value.slice B1 q.length d1).ownBlock = some k → w.heap.size + 2 ≤ k := fun k hk => (hB1.lt k hk).1
    have hx5 : Below (w.heap.size + 2) (w4.alloc (Obj.cells (fD [(a, v, false)]).toArray 88)) w5 := (Below.refl _ _).grown hgr (by simp; omega) hrow
    have hapn : (Value.slice A1 m.length c1).ownBlock = none ∨ (Value.slice A1 m.length c1).ownBlock ≠ (Value.slice B1 q.length d1).ownBlock := by
      cases B1 with
      | none => cases A1 with
        | none => exact .inl rfl
        | some aa => exact .inr (by simp [Value.ownBlock])
      | some bb =>
        obtain ⟨g, h1, -⟩ : ∃ g, some bb = some ⟨g, 0, none⟩ ∧ True := by
          rcases hB1.2 with ⟨hv, _⟩ | ⟨g, cap, cur, hv, _⟩
          · cases hv
          · injection hv with e1 _ _
            exact ⟨g, e1, trivial⟩
        rw [h1] at hB1 ⊢
        have hap := own_apart hA1 hB1 (by decide)
        cases A1 with
        | none => exact .inl rfl
        | some aa => exact .inr (by have := hap aa rfl; simpa [Value.ownBlock] using this)
    have hA5 := (hA1.alloc (Obj.cells (fD [(a, v, false)]).toArray 88)).kept hgr hapn
    have hbx5 := (Box4.alloc (Box4.mk b0 b1 b2 b3 bf bl) (Obj.cells (fD [(a, v, false)]).toArray 88)).blw hx5 (by omega)
    have hrx5 := (hrx.alloc (Obj.cells (fD [(a, v, false)]).toArray 88)).blw hx5 (by omega)
    have hX5 : Ext w w5 := Below.trans (hX3.alloc _) (Below.mono hx5 (by omega))
    clear b0 b1 b2 b3 bf bl c0 c1' c2 hrx hA1 hB1 hX3 hx5 hgr hapn hrow
    obtain ⟨b0, b1, b2, b3, bf, bl⟩ := hbx5
    go_upto_region 12 with fail
    have hbx6 := (Box4.mk b0 b1 b2 b3 bf bl).set1 (.slice B5 (q.length + 1) d5)
    have hrx6 := hrx5.far (p := ⟨w.heap.size, 1, none⟩) (by simp) (.slice B5 (q.length + 1) d5)
    have hA6 := own_cell hA5 (b := w.heap.size) (by omega) 1 (.slice B5 (q.length + 1) d5)
    have hB6 := own_cell hown5 (b := w.heap.size) (by omega) 1 (.slice B5 (q.length + 1) d5)
    have hX6 := hX5.setCell (p := ⟨w.heap.size, 1, none⟩) (Nat.le_refl _) (.slice B5 (q.length + 1) d5)
    obtain ⟨W6, hW6⟩ : ∃ W, W = w5.setCell ⟨w.heap.size, 1, none⟩ (.slice B5 (q.length + 1) d5) := ⟨_, rfl⟩
    rw [← hW6] at hbx6 hrx6 hA6 hB6 hX6 ⊢
    clear hW6 b0 b1 b2 b3 bf bl hrx5 hA5 hown5 hX5
    obtain ⟨b0, b1, b2, b3, bf, bl⟩ := hbx6
    obtain ⟨r0, r1, r2, r3, rf, rl⟩ := hrx6
    go_wp2_with fail
    refine bodyPost_ret (v := .tuple #[.agg #[.slice A1 m.length c1, .slice B5 (q.length + 1) d5, .int .i64 L, .bool down], .int .i64 0]) (by simp [results, Try.results96, go_sem, r0, r1, r2, r3]) rfl ?_
    rw [HIN.out]
    exact retV_at rfl HL1.out HL.out (own_sl4 (own_set4 hA6 (b := w.heap.size + 1) (by omega) _ _ _ _)) (own_sl4 (own_set4 hB6 (b := w.heap.size + 1) (by omega) _ _ _ _)) (set4_ext hX6 (Nat.le_succ _) _ _ _ _)
end Go.Proofs.Ytmkcpnklaijkfaa
/-
  The contract of storing.
-/
namespace Go.Proofs.Ytmkcpnklaijkfaa
open Go.RowKit
set_option maxHeartbeats 3200000 in
theorem dStore_0 (m : List Int) (q : List Dw) (down : Bool) (a v : Int) (A : Option Addr) (c : Nat) (B : Option Addr) (d : Nat) (w : World) (hA : Sl w A m.length c (fU m)) (hB : Sl w B q.length d (fD q)) (h0 : askE m q 0 down a = 0) :
    Calls Try.prog 96 #[.agg #[.slice A m.length c, .slice B q.length d, .int .i64 0, .bool down], .int .i64 a, .int .u64 v] w (RetV w (m, q, 0, true) 0) := by
  have hbx : Box4 ((w.alloc (Obj.cells #[.slice A m.length c, .slice B q.length d, .int .i64 0, .bool down] 46)).alloc (Obj.cells #[.slice none 0 0, .slice none 0 0, .int .i64 0, .bool false] 46)) w.heap.size (.slice A m.length c) (.slice B q.length d) (.int .i64 0) (.bool down) := (Box4.new w _ _ _ _ _).alloc _
  have hrx : Box4 ((w.alloc (Obj.cells #[.slice A m.length c, .slice B q.length d, .int .i64 0, .bool down] 46)).alloc (Obj.cells #[.slice none 0 0, .slice none 0 0, .int .i64 0, .bool false] 46)) (w.heap.size + 1) (.slice none 0 0) (.slice none 0 0) (.int .i64 0) (.bool false) := Box4.new' _ _ (by simp) _ _ _ _ _
  obtain ⟨hd, a0, a1⟩ := askE_ok h0
  obtain ⟨k1, k2, k3, k4, hasc⟩ := devB_bd hd
  have hsz := sizeB_bd k1
  have hql := dirty_le hd
  have H0 := Lib.hid (And.intro h0 (And.intro hasc k4))
  clear hd hasc k1 k4 h0
  go_enter Try.func96, Try.ntmps96
  go_wp2_with fail
  refine (dAsk_any m q 0 down a A c B d _ ((hB.alloc _).alloc _)).mono ?_
  rintro e w1 ⟨rfl, hx1⟩
  rw [H0.out.1]
  replace hbx := hbx.ext hx1
  replace hrx := hrx.ext hx1
  have hX1 : Ext w w1 := Ext.trans (((Ext.refl w).alloc _).alloc _) hx1
  obtain ⟨b0, b1, b2, b3, bf, bl⟩ := hbx
  go_wp2_with fail
  refine (dSpend_any m q 0 down A c B d w1 (hA.ext hX1) (hB.ext hX1) (by omega) (by omega) (by decide)).mono ?_
  rw [spD_0]
  rintro e w2 ⟨A1, c1, B1, d1, rfl, hown1, hown2, hx2⟩
  rw [show (decide ((0 : Int) ≠ 0)) = false from rfl]
  have hX2 := hX1.trans hx2
  have hf1 := own_far (b := w.heap.size) hown1 bl
  have hf2 := own_far (b := w.heap.size) hown2 bl
  have hg1 := own_far (b := w.heap.size + 1) hown1 hrx.lt
  have hg2 := own_far (b := w.heap.size + 1) hown2 hrx.lt
  replace hbx := (Box4.mk b0 b1 b2 b3 bf bl).ext hx2
  replace hrx := hrx.ext hx2
  clear b0 b1 b2 b3 bf bl
  obtain ⟨b0, b1, b2, b3, bf, bl⟩ := hbx
  go_upto_region 5 with fail
  obtain ⟨W2, hW2⟩ : ∃ W2, W2 = ((((w2.setCell ⟨w.heap.size, 0, none⟩ (.slice A1 m.length c1)).setCell ⟨w.heap.size, 1, none⟩ (.slice B1 q.length d1)).setCell ⟨w.heap.size, 2, none⟩ (.int .i64 0)).setCell ⟨w.heap.size, 3, none⟩ (.bool true)) := ⟨_, rfl⟩
  rw [← hW2]
  replace hbx := Box4.set4 (Box4.mk b0 b1 b2 b3 bf bl) (.slice A1 m.length c1) (.slice B1 q.length d1) (.int .i64 0) (.bool true)
  replace hrx := Box4.far4 hrx (g := w.heap.size) (by omega) (.slice A1 m.length c1) (.slice B1 q.length d1) (.int .i64 0) (.bool true)
  have hX3 := set4_ext hX2 (b := w.heap.size) (Nat.le_refl _) (.slice A1 m.length c1) (.slice B1 q.length d1) (.int .i64 0) (.bool true)
  have hA1 := set4_sl (own_sl4 hown1) hf1 (.slice A1 m.length c1) (.slice B1 q.length d1) (.int .i64 0) (.bool true)
  have hB1 := set4_sl (own_sl4 hown2) hf2 (.slice A1 m.length c1) (.slice B1 q.length d1) (.int .i64 0) (.bool true)
  rw [← hW2] at hbx hrx hX3 hA1 hB1
  clear b0 b1 b2 b3 bf bl hW2 hX1 hx1 hX2 hx2 hown1 hown2
  obtain ⟨b0, b1, b2, b3, bf, bl⟩ := hbx
  obtain ⟨r0, r1, r2, r3, rf, rl⟩ := hrx
  go_wp2_with fail
  exact bodyPost_ret (v := .tuple #[.agg #[.slice A1 m.length c1, .slice B1 q.length d1, .int .i64 0, .bool true], .int .i64 0]) (by simp [results, Try.results96, go_sem, r0, r1, r2, r3]) rfl ⟨_, _, _, _, rfl, set4_sl hA1 hg1 _ _ _ _, set4_sl hB1 hg2 _ _ _ _, set4_ext hX3 (Nat.le_succ _) _ _ _ _⟩
set_option maxHeartbeats 3200000 in
theorem dStore_bad (m : List Int) (q : List Dw) (left : Int) (down : Bool) (a v : Int) (A : Option Addr) (c : Nat) (B : Option Addr) (d : Nat) (w : World) (hB : Sl w B q.length d (fD q)) (h0 : askE m q left down a ≠ 0) :
    Calls Try.prog 96 #[.agg #[.slice A m.length c, .slice B q.length d, .int .i64 left, .bool down], .int .i64 a, .int .u64 v] w (RetV w zeroV (askE m q left down a)) := by
  have hbx : Box4 ((w.alloc (Obj.cells #[.slice A m.length c, .slice B q.length d, .int .i64 left, .bool down] 46)).alloc (Obj.cells #[.slice none 0 0, .slice none 0 0, .int .i64 0, .bool false] 46)) w.heap.size (.slice A m.length c) (.slice B q.length d) (.int .i64 left) (.bool down) := (Box4.new w _ _ _ _ _).alloc _
  have hrx : Box4 ((w.alloc (Obj.cells #[.slice A m.length c, .slice B q.length d, .int .i64 left, .bool down] 46)).alloc (Obj.cells #[.slice none 0 0, .slice none 0 0, .int .i64 0, .bool false] 46)) (w.heap.size + 1) (.slice none 0 0) (.slice none 0 0) (.int .i64 0) (.bool false) := Box4.new' _ _ (by simp) _ _ _ _ _
  have hb : (askE m q left down a != 0) = true := by simpa using h0
  go_enter Try.func96, Try.ntmps96
  go_wp2_with fail
  refine (dAsk_any m q left down a A c B d _ ((hB.alloc _).alloc _)).mono ?_
  rintro e w1 ⟨rfl, hx1⟩
  replace hrx := hrx.ext hx1
  have hX1 : Ext w w1 := Ext.trans (((Ext.refl w).alloc _).alloc _) hx1
  obtain ⟨r0, r1, r2, r3, rf, rl⟩ := hrx
  clear hbx
  go_wp2_with fail
  exact bodyPost_ret (v := .tuple #[.agg #[.slice none 0 0, .slice none 0 0, .int .i64 0, .bool false], .int .i64 (askE m q left down a)]) (by simp [results, Try.results96, go_sem, r0, r1, r2, r3]) rfl (retV_zero (set4_ext hX1 (Nat.le_succ _) _ _ _ _))
theorem dStore_any (m : List Int) (q : List Dw) (left : Int) (down : Bool) (a v : Int) (A : Option Addr) (c : Nat) (B : Option Addr) (d : Nat) (w : World) (hA : Sl w A m.length c (fU m)) (hB : Sl w B q.length d (fD q)) :
    Calls Try.prog 96 #[.agg #[.slice A m.length c, .slice B q.length d, .int .i64 left, .bool down], .int .i64 a, .int .u64 v] w (RetV w (storeV m q left down a v) (askE m q left down a)) := by
  by_cases h0 : askE m q left down a = 0
  · by_cases hl : left = 0
    · subst hl
      rw [show storeV m q 0 down a v = (m, q, 0, true) from by simp [storeV, h0], h0]
      exact dStore_0 m q down a v A c B d w hA hB h0
    · rw [show storeV m q left down a v = (m, insD a v q, spL left, down) from by simp [storeV, h0, hl], h0]
      exact dStore_1 m q left down a v A c B d w hA hB h0 hl
  · rw [show storeV m q left down a v = zeroV from by simp [storeV, h0]]
    exact dStore_bad m q left down a v A c B d w hB h0
end Go.Proofs.Ytmkcpnklaijkfaa
/-
  The library's slices.IndexFunc and slices.DeleteFunc with the closure of cache.Fence.
-/
namespace Go.Proofs.Ytmkcpnklaijkfaa
open Go.RowKit
/-- A device in the box pb, of its own: the words M in block ga, the dirty row in block g. -/
structure FS (w0 wr : World) (pb ga g n c1 k d1 : Nat) (M : List Int) (kk : Nat) (l : List Dw) (L : Int) (down : Bool) : Prop where
  o : Box4 wr pb (.slice (some ⟨ga, 0, none⟩) n c1) (.slice (some ⟨g, 0, none⟩) k d1) (.int .i64 L) (.bool down)
  r : Box4 wr (pb + 1) (.slice none 0 0) (.slice none 0 0) (.int .i64 0) (.bool false)
  img : wr.ownsRow (pb + 2) 24 1 (.slice (some ⟨ga, 0, none⟩) n c1) n (fU M)
  row : wr.ownsRow (pb + 2) 88 3 (.slice (some ⟨g, 0, none⟩) kk d1) kk (fD l)
  x : Ext w0 wr
  lo : w0.heap.size ≤ pb
section
variable {w0 wr w' : World} {pb ga g n c1 k d1 : Nat} {M : List Int} {kk : Nat} {l : List Dw} {L : Int} {down : Bool}
theorem FS.ext (h : FS w0 wr pb ga g n c1 k d1 M kk l L down) (x : Ext wr w') : FS w0 w' pb ga g n c1 k d1 M kk l L down :=
  ⟨h.o.ext x, h.r.ext x, own_ext h.img x, own_ext h.row x, h.x.trans x, h.lo⟩
theorem FS.ne (h : FS w0 wr pb ga g n c1 k d1 M kk l L down) : ga ≠ g := own_apart h.img h.row (by decide) _ rfl
theorem FS.ga_le (h : FS w0 wr pb ga g n c1 k d1 M kk l L down) : pb + 2 ≤ ga := (h.img.lt ga rfl).1
theorem FS.g_le (h : FS w0 wr pb ga g n c1 k d1 M kk l L down) : pb + 2 ≤ g := (h.row.lt g rfl).1
theorem FS.len (h : FS w0 wr pb ga g n c1 k d1 M kk l L down) : l.length = kk := by
  have := h.row.1
  rw [fD_length] at this
  omega
theorem FS.word (h : FS w0 wr pb ga g n c1 k d1 M kk l L down) (i : Nat) (v : Int) : FS w0 (wr.setCell ⟨ga, i, none⟩ (.int .u64 v)) pb ga g n c1 k d1 (M.set i v) kk l L down := by
  have l1 := h.lo
  have l2 := h.ga_le
  have l3 := h.ne
  exact ⟨h.o.far (p := ⟨ga, i, none⟩) (by show ga ≠ pb; omega) _, h.r.far (p := ⟨ga, i, none⟩) (by show ga ≠ pb + 1; omega) _, own_set_U h.img _ _,
    own_cellF h.row (fun ad e => by injection e with e; subst e; exact Ne.symm l3) i _, h.x.setCell (p := ⟨ga, i, none⟩) (by show w0.heap.size ≤ ga; omega) _, l1⟩
theorem FS.put (h : FS w0 wr pb ga g n c1 k d1 M kk l L down) {i : Nat} (hi : i < l.length) (y : Dw) :
    FS w0 (((wr.setCell ⟨g, i * 3, none⟩ (.int .i64 y.1)).setCell ⟨g, i * 3 + 1, none⟩ (.int .u64 y.2.1)).setCell ⟨g, i * 3 + 2, none⟩ (.bool y.2.2)) pb ga g n c1 k d1 M kk (l.set i y) L down := by
  have l1 := h.lo
  have l2 := h.g_le
  have l3 := h.ne
  have hap : ∀ ad, (some (⟨ga, 0, none⟩ : Addr)) = some ad → ad.block ≠ g := fun ad e => by injection e with e; subst e; exact l3
  exact ⟨((h.o.far (p := ⟨g, i * 3, none⟩) (by show g ≠ pb; omega) _).far (p := ⟨g, i * 3 + 1, none⟩) (by show g ≠ pb; omega) _).far (p := ⟨g, i * 3 + 2, none⟩) (by show g ≠ pb; omega) _,
    ((h.r.far (p := ⟨g, i * 3, none⟩) (by show g ≠ pb + 1; omega) _).far (p := ⟨g, i * 3 + 1, none⟩) (by show g ≠ pb + 1; omega) _).far (p := ⟨g, i * 3 + 2, none⟩) (by show g ≠ pb + 1; omega) _,
    own_cellF (own_cellF (own_cellF h.img hap _ _) hap _ _) hap _ _, own_set_D3 h.row hi y,
    ((h.x.setCell (p := ⟨g, i * 3, none⟩) (by show w0.heap.size ≤ g; omega) _).setCell (p := ⟨g, i * 3 + 1, none⟩) (by show w0.heap.size ≤ g; omega) _).setCell (p := ⟨g, i * 3 + 2, none⟩) (by show w0.heap.size ≤ g; omega) _, l1⟩
end
/-- The closure, at a word that is not flushed, and at one that is. -/
theorem fenF_no (a v : Int) (pb : Nat) (w : World) :
    Calls Try.prog 120 #[.agg #[.int .i64 a, .int .u64 v, .bool false], .pointer (some ⟨pb, 0, none⟩)] w fun e w' => e = .returned (.bool false) ∧ Ext w w' := by
  go_enter Try.func120, Try.ntmps120
  go_wp2_with fail
  go_ret
  exact ⟨rfl, (by repeat (first | assumption | exact Ext.refl _ | refine Ext.drewN ?_ _ | refine Ext.drew ?_ | refine Ext.alloc ?_ _ | refine Ext.trans ?_ (by assumption)))⟩
theorem fenF_yes (a v : Int) (a0 : 0 ≤ a) {w0 : World} {pb ga g n c1 k d1 : Nat} {M : List Int} {kk : Nat} {l : List Dw} {L : Int} {down : Bool} (w : World) (h : FS w0 w pb ga g n c1 k d1 M kk l L down) (a1 : a < M.length) (hn : M.length ≤ 2048) :
    Calls Try.prog 120 #[.agg #[.int .i64 a, .int .u64 v, .bool true], .pointer (some ⟨pb, 0, none⟩)] w fun e w' => e = .returned (.bool true) ∧ FS w0 w' pb ga g n c1 k d1 (M.set a.toNat v) kk l L down := by
  have hm : M.length = n := by have := h.img.1; simpa using this
  obtain ⟨y, hy, c0, cf⟩ := own_at_U h.img (i := a.toNat) (by omega)
  obtain ⟨o0, o1, o2, o3, of, ol⟩ := h.o
  have hgl := block_lt_of_cell c0
  have i1 : a < n := by omega
  have HS := Lib.hid h
  clear h hy hm
  go_enter Try.func120, Try.ntmps120
  go_wp2_with fail
  go_ret
  refine ⟨rfl, ?_⟩
  first | exact (HS.out.ext ((Ext.refl _).alloc _)).word _ _ | exact (HS.out.word _ _).ext ((Ext.refl _).alloc _)
end Go.Proofs.Ytmkcpnklaijkfaa
/-
  The library's slices.IndexFunc with the closure of cache.Fence.
-/
namespace Go.Proofs.Ytmkcpnklaijkfaa
open Go.RowKit
theorem fenD_no {q : List Dw} {k : Nat} {x : Dw} (h : q[k]? = some x) (hf : x.2.2 = false) (hq : fenD (q.take k) = q.take k) : fenD (q.take (k + 1)) = q.take (k + 1) := by
  have := fen_take (m := []) h
  rw [hf] at this
  rw [this.2, hq, List.take_add_one, h]
  rfl
/-- The first flushed word's place, its word stored into the image; or -1. -/
def IdxR (w0 : World) (pb ga g n c1 k d1 : Nat) (m : List Int) (q : List Dw) (L : Int) (down : Bool) (en : Ending) (w' : World) : Prop :=
  (en = .returned (.int .i64 (-1)) ∧ fenD q = q ∧ FS w0 w' pb ga g n c1 k d1 m k q L down) ∨
  ∃ (i : Nat) (x : Dw), q[i]? = some x ∧ x.2.2 = true ∧ fenD (q.take i) = q.take i ∧ en = .returned (.int .i64 i) ∧ FS w0 w' pb ga g n c1 k d1 (m.set x.1.toNat x.2.1) k q L down
set_option maxRecDepth 100000 in
set_option maxHeartbeats 1600000 in
theorem idx_any {w0 : World} {pb ga g n c1 k d1 : Nat} {m : List Int} {q : List Dw} {L : Int} {down : Bool} (w : World) (h : FS w0 w pb ga g n c1 k d1 m k q L down) (hasc : ascB m.length (-1) q = true) (hn : m.length ≤ 2048) (hk : k ≤ 100000) :
    Calls Try.prog 136 #[.slice (some ⟨g, 0, none⟩) k d1, .func (.func 120) #[] #[.pointer (some ⟨pb, 0, none⟩)]] w (IdxR w0 pb ga g n c1 k d1 m q L down) := by
  have H0 := Lib.hid hasc
  have hql := h.len
  have HQ := Lib.hid hql
  clear hasc hql
  go_enter Try.func136, Try.ntmps136
  go_wp2_with fail
  go_loopw [8] (fun i wr => ∃ j : Nat, j ≤ k ∧ i = .int .i64 j ∧ FS w0 wr pb ga g n c1 k d1 m k q L down ∧ Hid (fenD (q.take j) = q.take j)) (fun i _ => k - (intOf i).toNat)
  case atStart => exact ⟨0, Nat.zero_le _, rfl, h, Lib.hid rfl⟩
  case round =>
    clear h
    obtain ⟨j, hj, rfl, hS, hF⟩ := hrel
    by_cases hlt : j < k
    · obtain ⟨x, hat, g0, g1, g2, gf⟩ := own_at_D hS.row (i := j) (by rw [HQ.out]; exact hlt)
      obtain ⟨r0, r1⟩ := ascB_mem H0.out x (List.mem_of_getElem? hat)
      have HS := Lib.hid hS
      have HX := Lib.hid hat
      clear hS hat
      cases hf : x.2.2 with
      | false =>
        rw [hf] at g2
        have HF := Lib.hid hf
        clear hf
        go_wp2_with fail
        refine (fenF_no _ _ _ _).mono ?_
        rintro e w1 ⟨rfl, hx1⟩
        go_wp2_with fail
        go_roundw
        case rel => exact ⟨j + 1, by omega, by go_num, HS.out.ext hx1, Lib.hid (fenD_no HX.out HF.out hF.out)⟩
        case measure => simp [intOf]; omega
      | true =>
        rw [hf] at g2
        have HF := Lib.hid hf
        clear hf
        go_wp2_with fail
        refine (fenF_yes _ _ (by omega) _ HS.out r1 hn).mono ?_
        rintro e w1 ⟨rfl, hS1⟩
        go_wp2_with fail
        go_ret
        exact .inr ⟨j, x, HX.out, HF.out, hF.out, rfl, hS1⟩
    · obtain rfl : j = k := by omega
      have hq := hF.out
      rw [List.take_of_length_le (by rw [HQ.out]; omega)] at hq
      have HF := Lib.hid hq
      clear hq
      go_wp2_with fail
      go_ret
      exact .inl ⟨rfl, HF.out, hS⟩
end Go.Proofs.Ytmkcpnklaijkfaa
/-
  The library's slices.DeleteFunc with the closure of cache.Fence.
-/
namespace Go.Proofs.Ytmkcpnklaijkfaa
open Go.RowKit
theorem fenM_cons' {m : List Int} {x : Dw} {l : List Dw} : fenM m (x :: l) = fenM (if x.2.2 then m.set x.1.toNat x.2.1 else m) l := rfl
theorem fenM_none : ∀ {q : List Dw} {m : List Int}, fenD q = q → fenM m q = m
  | [], _, _ => rfl
  | x :: l, m, h => by
    cases hf : x.2.2 with
    | false =>
      have e : fenD (x :: l) = x :: fenD l := by simp [fenD, hf]
      rw [e] at h
      injection h with _ h
      rw [fenM_cons', hf]
      exact fenM_none h
    | true =>
      have e : fenD (x :: l) = fenD l := by simp [fenD, hf]
      rw [e] at h
      have h1 := congrArg List.length h
      have h2 := fenD_length l
      simp at h1
      omega
theorem zeros_one {z : Array Value} (n : Nat) (h : ∀ u ∈ z.toList, u.oneCell' = true) : ∀ u ∈ (Builtin.zeroCells z n).toList, u.oneCell' = true := by
  intro u hu
  simp only [Builtin.zeroCells, Array.toList_map, List.mem_map] at hu
  obtain ⟨i, hi, rfl⟩ := hu
  have hlt : i < n * z.size := by simpa using hi
  have hpos : 0 < z.size := by
    rcases Nat.eq_zero_or_pos z.size with h0 | h0
    · rw [h0] at hlt; omega
    · exact h0
  have hm := Nat.mod_lt i hpos
  rw [getElem!_pos z _ hm]
  exact h _ (by simp)
theorem run_clearS {P : Program} (w : World) (t e ty : TypeId) (z : Value) (s : Nat) (ht : P.underlying t = some (.slice e)) (hv : ∀ w, (zeroValue e).run P w = .ok z w) (hz : z.cells.size = s) (h1 : ∀ u ∈ z.cells.toList, u.oneCell' = true) (g o n c : Nat) (cur : Array Value) (t' : TypeId) (hg : w.heap[g]? = some (.cells cur t' (0, 0))) (hn : 0 < n) (hfit : o + n * s ≤ cur.size) :
    (Builtin.clear_ #[t] ty #[.slice (some ⟨g, o, none⟩) n c]).run P w = .ok (.tuple #[]) (w.setRow g (cur.toList.take o ++ (Builtin.zeroCells z.cells n).toList ++ cur.toList.drop (o + n * s)).toArray) := by
  have hl : (Builtin.zeroCells z.cells n).toList.length = n * s := by rw [Array.length_toList, size_zeroCells, hz]
  have hst := run_storeCells_at P g o t' (Builtin.zeroCells z.cells n).toList 0 cur w hg (by rw [hl]; simpa using hfit) (zeros_one n h1)
  rw [hl] at hst
  simp only [Nat.add_zero] at hst
  obtain ⟨k, rfl⟩ : ∃ k, n = k + 1 := ⟨n - 1, by omega⟩
  simp [Builtin.clear_, run_underlying ht, hv, hst]
theorem grown_row (w : World) (g : Nat) (R : Array Value) : w.grownBy (w.setRow g R) (some g) :=
  ⟨rfl, rfl, rfl, by simp [World.setRow], fun k _ hk => setRow_other w g k R (fun e => hk (by rw [e]))⟩
theorem Box4.grown {w w' : World} {b : Nat} {v0 v1 v2 v3 : Value} (h : Box4 w b v0 v1 v2 v3) {row : Option Nat} (hg : w.grownBy w' row) (hb : some b ≠ row) : Box4 w' b v0 v1 v2 v3 :=
  ⟨hg.cell h.c0 hb, hg.cell h.c1 hb, hg.cell h.c2 hb, hg.cell h.c3 hb, fun o => by
    have : w'.frozen? ⟨b, o, none⟩ = w.frozen? ⟨b, o, none⟩ := World.frozen?_of_block (hg.block b h.lt hb)
    rw [this]; exact h.fz o, Nat.lt_of_lt_of_le h.lt hg.size⟩
/-- The row is cut. -/
theorem FS.cut {w0 wr : World} {pb ga g n c1 k d1 : Nat} {M : List Int} {kk : Nat} {l : List Dw} {L : Int} {down : Bool} (h : FS w0 wr pb ga g n c1 k d1 M kk l L down) (i : Nat) (hi : i ≤ kk) (cur R : Array Value)
    (hg : wr.heap[g]? = some (.cells cur 88 (0, 0))) (hR : R.size = cur.size) (ht : R.toList.take (i * 3) = cur.toList.take (i * 3)) : FS w0 (wr.setRow g R) pb ga g n c1 k d1 M i (l.take i) L down := by
  have l1 := h.lo
  have l2 := h.g_le
  have l3 := h.ne
  have hgr := grown_row wr g R
  refine ⟨h.o.grown hgr (by simp; omega), h.r.grown hgr (by simp; omega), h.img.kept hgr (.inr (by simpa [Value.ownBlock] using l3)), ?_, h.x.grown hgr (fun k hk => by injection hk with hk; omega), l1⟩
  obtain ⟨hl, ⟨hv, _⟩ | ⟨g', cap, cur', hv, hb, hg', hn, hm, hs, htk⟩⟩ := h.row
  · cases hv
  · injection hv with e1 _ e3
    injection e1 with e1
    injection e1 with e1
    subst e1 e3
    rw [hg] at hg'
    injection hg' with hg'
    injection hg' with hg' _ _
    subst hg'
    refine ⟨by rw [fD_length, List.length_take, h.len]; omega, .inr ⟨g, d1, R, rfl, hb, setRow_heap wr g cur R _ _ hg, by omega, hm, by omega, ?_⟩⟩
    rw [ht, fD_take, ← htk, List.take_take, Nat.min_eq_left (by omega)]
theorem zeroD : ∀ w, (zeroValue 88).run Try.prog w = .ok (.agg #[.int .i64 0, .int .u64 0, .bool false]) w := by
  obtain ⟨i, hi, hz, _⟩ := info_parts (P := Try.prog) (e := 88) (z := .agg #[.int .i64 0, .int .u64 0, .bool false]) (size := 3) (bytes := 24) (by kernel_rfl)
  intro w
  simp [zeroValue, typeInfo, hi, hz]
/-- What the call returned, and what became of the device in the box. -/
def DelR (w0 : World) (pb ga g n c1 k d1 : Nat) (m : List Int) (q : List Dw) (L : Int) (down : Bool) (en : Ending) (w' : World) : Prop :=
  ∃ i : Nat, en = .returned (.slice (some ⟨g, 0, none⟩) i d1) ∧ FS w0 w' pb ga g n c1 k d1 (fenM m q) i (fenD q) L down
set_option maxRecDepth 100000 in
set_option maxHeartbeats 3200000 in
theorem del_any {w0 : World} {pb ga g n c1 k d1 : Nat} {m : List Int} {q : List Dw} {L : Int} {down : Bool} (w : World) (h : FS w0 w pb ga g n c1 k d1 m k q L down) (hasc : ascB m.length (-1) q = true) (hn : m.length ≤ 2048) (hk : k ≤ 100000) :
    Calls Try.prog 119 #[.slice (some ⟨g, 0, none⟩) k d1, .func (.func 120) #[] #[.pointer (some ⟨pb, 0, none⟩)]] w (DelR w0 pb ga g n c1 k d1 m q L down) := by
  have H0 := Lib.hid hasc
  have HQ := Lib.hid h.len
  have HI := Lib.hid (idx_any w h hasc hn hk)
  have hkd : k ≤ d1 := (own_sl4 h.row).le
  have hdm : d1 ≤ maxLen := (own_sl4 h.row).max
  unfold maxLen at hdm
  clear hasc
  go_enter Try.func119, Try.ntmps119
  go_wp2_with fail
  refine HI.out.mono ?_
  intro e w1 hR
  rcases hR with ⟨rfl, hq, hS⟩ | ⟨i0, x0, hx0, hxf, hq, rfl, hS⟩
  · have HF := Lib.hid hq
    clear hq h
    go_wp2_with fail
    go_ret
    exact ⟨k, rfl, by rw [fenM_none HF.out, HF.out]; exact hS⟩
  · have hi0 : i0 < k := by have := (List.getElem?_eq_some_iff.1 hx0).1; rw [HQ.out] at this; exact this
    have hst : q.take i0 = fenD (q.take (i0 + 1)) ∧ m.set x0.1.toNat x0.2.1 = fenM m (q.take (i0 + 1)) ∧ i0 = (fenD (q.take (i0 + 1))).length := by
      have := fen_take (m := m) hx0
      rw [if_pos hxf, hq, fenM_none hq] at this
      refine ⟨this.2.symm, this.1.symm, ?_⟩
      rw [this.2, List.length_take, HQ.out]
      omega
    have HST := Lib.hid hst
    have hne1 : ((i0 : Int) == -1) = false := beq_eq_false_iff_ne.2 (by omega)
    clear hx0 hxf hq hst h
    go_wp2_with fail
    go_loopw [5, 6] (fun i j wr => ∃ (ii jj : Nat) (M : List Int) (l : List Dw), i = .int .i64 ii ∧ j = .int .i64 jj ∧ jj ≤ k ∧ ii < jj ∧ FS w0 wr pb ga g n c1 k d1 M k l L down ∧ Hid (l.take ii = fenD (q.take jj) ∧ l.drop jj = q.drop jj ∧ M = fenM m (q.take jj) ∧ ii = (fenD (q.take jj)).length)) (fun _ j _ => k - (intOf j).toNat)
    case atStart => exact ⟨i0, i0 + 1, _, _, rfl, by go_num, by omega, by omega, hS, Lib.hid ⟨HST.out.1, rfl, HST.out.2⟩⟩
    case round =>
      clear hS HST
      obtain ⟨i, j, M, l, rfl, rfl, hj, hij, hS, hI⟩ := hrel
      have HS := Lib.hid hS
      have hll := hS.len
      by_cases hlt : j < k
      · obtain ⟨x, hat, g0, g1, g2, gf⟩ := own_at_D hS.row (i := j) (by rw [hll]; exact hlt)
        have hqx : q[j]? = some x := by
          have h1 : (l.drop j)[0]? = some x := by rw [List.getElem?_drop]; exact hat
          rw [hI.out.2.1, List.getElem?_drop] at h1
          exact h1
        have hML : M.length = m.length := by rw [hI.out.2.2.1, fenM_length]
        obtain ⟨r0, r1⟩ := ascB_mem H0.out x (List.mem_of_getElem? hqx)
        have hft := fen_take (m := m) hqx
        have HX := Lib.hid (And.intro hat (And.intro hqx (And.intro hft (And.intro hML hll))))
        have hgl : g < wr.heap.size := (hS.row.lt g rfl).2
        clear hat hqx hft hML hll hS
        cases hf : x.2.2 with
        | false =>
          rw [hf] at g2
          have HF := Lib.hid hf
          clear hf
          go_upto_region 8 with fail
          obtain ⟨W2, hW2⟩ : ∃ W, W = wr.alloc (Obj.cells #[.int .i64 x.1, .int .u64 x.2.1, .bool false] 88) := ⟨_, rfl⟩
          have v0 : W2.cell? ⟨wr.heap.size, 0, none⟩ = some (.int .i64 x.1) := by rw [hW2]; simp [go_sem]
          have v1 : W2.cell? ⟨wr.heap.size, 1, none⟩ = some (.int .u64 x.2.1) := by rw [hW2]; simp [go_sem]
          have v2 : W2.cell? ⟨wr.heap.size, 2, none⟩ = some (.bool false) := by rw [hW2]; simp [go_sem]
          have hx2 : Ext wr W2 := by rw [hW2]; exact (Ext.refl _).alloc _
          rw [← hW2]
          obtain ⟨gv, hgv⟩ : ∃ gv, wr.heap.size = gv := ⟨_, rfl⟩
          rw [hgv] at v0 v1 v2 hgl ⊢
          clear hW2 hgv g0 g1 g2 gf
          go_wp2_with fail
          refine (fenF_no _ _ _ _).mono ?_
          rintro e w3 ⟨rfl, hx3⟩
          replace v0 := hx3.cell v0
          replace v1 := hx3.cell v1
          replace v2 := hx3.cell v2
          have hS3 := HS.out.ext (hx2.trans hx3)
          obtain ⟨y, hy, g0, g1, g2, gf⟩ := own_at_D hS3.row (i := i) (by rw [HX.out.2.2.2.2]; omega)
          have HP := Lib.hid (hS3.put (i := i) (by rw [HX.out.2.2.2.2]; omega) (x.1, x.2.1, false))
          have hne : gv ≠ g := by omega
          have i1 : (i : Int) < k := by omega
          clear hS3 hy hx2 hx3
          go_wp2_with fail
          go_roundw
          case rel =>
            refine ⟨i + 1, j + 1, M, l.set i x, by go_num, by go_num, by omega, by omega, ?_, Lib.hid ?_⟩
            · have := HP.out
              rw [show (x.1, x.2.1, false) = x from by rw [← HF.out]] at this
              exact this
            · obtain ⟨a1, a2, a3, a4⟩ := hI.out
              have hft := HX.out.2.2.1
              rw [HF.out] at hft
              simp only [Bool.false_eq_true, if_false] at hft
              rw [hft.1, hft.2]
              refine ⟨?_, ?_, a3, by simp; omega⟩
              · rw [← a1, List.take_add_one, List.getElem?_set_self (by rw [HX.out.2.2.2.2]; omega), List.take_set_of_le (Nat.le_refl _)]
                rfl
              · rw [List.drop_set_of_lt (by omega), ← List.drop_drop, a2, List.drop_drop]
          case measure => simp [intOf]; omega
        | true =>
          rw [hf] at g2
          have HF := Lib.hid hf
          clear hf
          go_upto_region 8 with fail
          obtain ⟨W2, hW2⟩ : ∃ W, W = wr.alloc (Obj.cells #[.int .i64 x.1, .int .u64 x.2.1, .bool true] 88) := ⟨_, rfl⟩
          have v0 : W2.cell? ⟨wr.heap.size, 0, none⟩ = some (.int .i64 x.1) := by rw [hW2]; simp [go_sem]
          have v1 : W2.cell? ⟨wr.heap.size, 1, none⟩ = some (.int .u64 x.2.1) := by rw [hW2]; simp [go_sem]
          have v2 : W2.cell? ⟨wr.heap.size, 2, none⟩ = some (.bool true) := by rw [hW2]; simp [go_sem]
          have hx2 : Ext wr W2 := by rw [hW2]; exact (Ext.refl _).alloc _
          rw [← hW2]
          obtain ⟨gv, hgv⟩ : ∃ gv, wr.heap.size = gv := ⟨_, rfl⟩
          rw [hgv] at v0 v1 v2 hgl ⊢
          clear hW2 hgv g0 g1 g2 gf
          go_wp2_with fail
          refine (fenF_yes _ _ (by omega) _ (HS.out.ext hx2) (by rw [HX.out.2.2.2.1]; exact r1) (by rw [HX.out.2.2.2.1]; exact hn)).mono ?_
          rintro e w3 ⟨rfl, hS3⟩
          clear v0 v1 v2
          go_wp2_with fail
          go_roundw
          case rel =>
            refine ⟨i, j + 1, _, l, rfl, by go_num, by omega, by omega, hS3, Lib.hid ?_⟩
            obtain ⟨a1, a2, a3, a4⟩ := hI.out
            have hft := HX.out.2.2.1
            rw [if_pos HF.out] at hft
            rw [hft.1, hft.2, ← a3]
            exact ⟨a1, by rw [← List.drop_drop, a2, List.drop_drop], rfl, a4⟩
          case measure => simp [intOf]; omega
      · obtain rfl : j = k := by omega
        obtain ⟨a1, a2, a3, a4⟩ := hI.out
        rw [(List.take_of_length_le (by rw [HQ.out]; omega) : q.take j = q)] at a1 a3 a4
        obtain ⟨cur, hcur, hcs⟩ : ∃ cur : Array Value, wr.heap[g]? = some (.cells cur 88 (0, 0)) ∧ cur.size = d1 * 3 := by
          obtain ⟨hl, ⟨hv, _⟩ | ⟨g', cap, cur', hv, hb, hg', hn', hm, hs, htk⟩⟩ := hS.row
          · cases hv
          · injection hv with e1 _ e3
            injection e1 with e1
            injection e1 with e1
            subst e1 e3
            exact ⟨cur', hg', hs⟩
        have hcl := fun ty => run_clearS (P := Try.prog) wr 44 88 ty (.agg #[.int .i64 0, .int .u64 0, .bool false]) 3 Try.underlying44 zeroD rfl (by intro u hu; simp [Value.cells] at hu; rcases hu with rfl | rfl | rfl <;> rfl) g (i * 3) (j - i) (d1 - i) cur 88 hcur (by omega) (by omega)
        obtain ⟨R, hR⟩ : ∃ R, R = (cur.toList.take (i * 3) ++ (Builtin.zeroCells (Value.agg #[.int .i64 0, .int .u64 0, .bool false]).cells (j - i)).toList ++ cur.toList.drop (i * 3 + (j - i) * 3)).toArray := ⟨_, rfl⟩
        rw [← hR] at hcl
        have hRs : R.size = cur.size := by
          rw [hR]
          simp only [List.size_toArray, List.length_append, List.length_take, List.length_drop, Array.length_toList, size_zeroCells, hcs, show (Value.agg #[.int .i64 0, .int .u64 0, .bool false]).cells.size = 3 from rfl]
          omega
        have hRt : R.toList.take (i * 3) = cur.toList.take (i * 3) := by
          rw [hR]
          simp only [List.append_assoc]
          rw [List.take_append_of_le_length (by simp [hcs]; omega), List.take_take, Nat.min_self]
        have hS5 := hS.cut i (by omega) cur R hcur hRs hRt
        rw [a1, a3] at hS5
        have HZ := Lib.hid hS5
        have hdi : ¬ (d1 = i) := by omega
        have i1 : (i : Int) ≤ j := by omega
        clear hS5 hRs hRt hR hcur hcs a1 a2 a3 a4 hS hI hll
        go_wp2_with fail
        go_ret
        exact ⟨i, rfl, HZ.out⟩
end Go.Proofs.Ytmkcpnklaijkfaa
/-
  The contract of fencing.
-/
namespace Go.Proofs.Ytmkcpnklaijkfaa
open Go.RowKit
theorem idx_nil (w : World) (F : Value) : Calls Try.prog 136 #[.slice none 0 0, F] w fun e w' => e = .returned (.int .i64 (-1)) ∧ w = w' := by
  go_enter Try.func136, Try.ntmps136
  go_wp2_with fail
  go_loopw [8] (fun i wr => i = .int .i64 0 ∧ wr = w) (fun _ _ => 1)
  case atStart => exact ⟨rfl, rfl⟩
  case round =>
    obtain ⟨rfl, rfl⟩ := hrel
    go_wp2_with fail
    go_ret
    exact ⟨rfl, rfl⟩
theorem del_nil (w : World) (F : Value) : Calls Try.prog 119 #[.slice none 0 0, F] w fun e w' => e = .returned (.slice none 0 0) ∧ w = w' := by
  go_enter Try.func119, Try.ntmps119
  go_wp2_with fail
  refine (idx_nil _ _).mono ?_
  rintro e w1 ⟨rfl, rfl⟩
  go_wp2_with fail
  go_ret
  exact ⟨rfl, rfl⟩
set_option maxRecDepth 100000 in
set_option maxHeartbeats 6400000 in
theorem dFence_1 (m : List Int) (q : List Dw) (left : Int) (down : Bool) (A : Option Addr) (c : Nat) (B : Option Addr) (d : Nat) (w : World) (hA : Sl w A m.length c (fU m)) (hB : Sl w B q.length d (fD q)) (h0 : devE m q left down = 0) (hl : left ≠ 0) :
    Calls Try.prog 98 #[.agg #[.slice A m.length c, .slice B q.length d, .int .i64 left, .bool down]] w (RetV w (fenM m q, fenD q, spL left, down) 0) := by
  have hbx : Box4 ((w.alloc (Obj.cells #[.slice A m.length c, .slice B q.length d, .int .i64 left, .bool down] 46)).alloc (Obj.cells #[.slice none 0 0, .slice none 0 0, .int .i64 0, .bool false] 46)) w.heap.size (.slice A m.length c) (.slice B q.length d) (.int .i64 left) (.bool down) := (Box4.new w _ _ _ _ _).alloc _
  have hrx : Box4 ((w.alloc (Obj.cells #[.slice A m.length c, .slice B q.length d, .int .i64 left, .bool down] 46)).alloc (Obj.cells #[.slice none 0 0, .slice none 0 0, .int .i64 0, .bool false] 46)) (w.heap.size + 1) (.slice none 0 0) (.slice none 0 0) (.int .i64 0) (.bool false) := Box4.new' _ _ (by simp) _ _ _ _ _
  have hd := devE_ok h0
  obtain ⟨k1, k2, k3, k4, hasc⟩ := devB_bd hd
  have hsz := sizeB_bd k1
  have hql := dirty_le hd
  have H0 := Lib.hid (And.intro h0 (And.intro hasc k4))
  clear hd hasc k1 k4 h0
  have hlb : decide (left ≠ 0) = true := decide_eq_true hl
  go_enter Try.func98, Try.ntmps98
  go_wp2_with fail
  refine (dCheck_any m q left down A c B d _ ((hB.alloc _).alloc _)).mono ?_
  rintro e w1 ⟨rfl, hx1⟩
  rw [H0.out.1]
  replace hbx := hbx.ext hx1
  replace hrx := hrx.ext hx1
  have hX1 : Ext w w1 := Ext.trans (((Ext.refl w).alloc _).alloc _) hx1
  obtain ⟨b0, b1, b2, b3, bf, bl⟩ := hbx
  go_wp2_with fail
  refine (dSpend_any m q left down A c B d w1 (hA.ext hX1) (hB.ext hX1) (by omega) (by omega) k3).mono ?_
  rw [spD_ne hl, hlb]
  rintro e w2 ⟨A1, c1, B1, d1, rfl, hown1, hown2, hx2⟩
  obtain ⟨L, hL⟩ : ∃ L, spL left = L := ⟨_, rfl⟩
  simp only [hL]
  have HL := Lib.hid hL
  clear hL
  have hX2 := hX1.trans hx2
  have hl1 : w.heap.size + 2 ≤ w1.heap.size := hrx.lt
  replace hbx := (Box4.mk b0 b1 b2 b3 bf bl).ext hx2
  replace hrx := hrx.ext hx2
  clear b0 b1 b2 b3 bf bl
  obtain ⟨b0, b1, b2, b3, bf, bl⟩ := hbx
  go_upto_region 5 with fail
  obtain ⟨W2, hW2⟩ : ∃ W2, W2 = ((((w2.setCell ⟨w.heap.size, 0, none⟩ (.slice A1 m.length c1)).setCell ⟨w.heap.size, 1, none⟩ (.slice B1 q.length d1)).setCell ⟨w.heap.size, 2, none⟩ (.int .i64 L)).setCell ⟨w.heap.size, 3, none⟩ (.bool down)) := ⟨_, rfl⟩
  rw [← hW2]
  replace hbx := Box4.set4 (Box4.mk b0 b1 b2 b3 bf bl) (.slice A1 m.length c1) (.slice B1 q.length d1) (.int .i64 L) (.bool down)
  replace hrx := Box4.far4 hrx (g := w.heap.size) (by omega) (.slice A1 m.length c1) (.slice B1 q.length d1) (.int .i64 L) (.bool down)
  have hX3 := set4_ext hX2 (b := w.heap.size) (Nat.le_refl _) (.slice A1 m.length c1) (.slice B1 q.length d1) (.int .i64 L) (.bool down)
  have hA1 := own_set4 (own_base hown1 hl1) (b := w.heap.size) (by omega) (.slice A1 m.length c1) (.slice B1 q.length d1) (.int .i64 L) (.bool down)
  have hB1 := own_set4 (own_base hown2 hl1) (b := w.heap.size) (by omega) (.slice A1 m.length c1) (.slice B1 q.length d1) (.int .i64 L) (.bool down)
  rw [← hW2] at hbx hrx hX3 hA1 hB1
  clear b0 b1 b2 b3 bf bl hW2 hX1 hx1 hX2 hx2 hown1 hown2 hA hB
  obtain ⟨ga, rfl, -⟩ := own_head hA1 (by show 0 < m.length; omega)
  rcases hB1.2 with ⟨hv, hz⟩ | ⟨g, cap, cur, hv, -, -, -⟩
  · injection hv with e1 _ e3
    subst e1 e3
    have hq := List.eq_nil_of_length_eq_zero hz
    subst hq
    clear hB1 hz
    simp only [List.length_nil] at hbx
    obtain ⟨b0, b1, b2, b3, bf, bl⟩ := hbx
    obtain ⟨r0, r1, r2, r3, rf, rl⟩ := hrx
    go_wp2_with fail
    refine (del_nil _ _).mono ?_
    rintro e w3 ⟨rfl, rfl⟩
    go_wp2_with fail
    refine bodyPost_ret (v := .tuple #[.agg #[.slice (some ⟨ga, 0, none⟩) m.length c1, .slice none 0 0, .int .i64 L, .bool down], .int .i64 0]) (by simp [results, Try.results98, go_sem, r0, r1, r2, r3]) rfl ?_
    exact retV_at rfl rfl HL.out (own_sl4 (own_set4 (own_cell hA1 (b := w.heap.size) (by omega) 1 _) (b := w.heap.size + 1) (by omega) _ _ _ _)) (Sl.nil_ _) (set4_ext (hX3.setCell (p := ⟨w.heap.size, 1, none⟩) (Nat.le_refl _) _) (Nat.le_succ _) _ _ _ _)
  · injection hv with e1 e2 e3
    clear e2
    subst e1 e3
    have hS : FS w W2 w.heap.size ga g m.length c1 q.length d1 m q.length q L down := ⟨hbx, hrx, hA1, hB1, hX3, Nat.le_refl _⟩
    have HD := Lib.hid (del_any W2 hS H0.out.2.1 (by omega) (by omega))
    obtain ⟨b0, b1, b2, b3, bf, bl⟩ := hbx
    clear hS hA1 hB1 hX3 hrx
    go_wp2_with fail
    refine HD.out.mono ?_
    rintro e w3 ⟨i, rfl, hS⟩
    clear b0 b1 b2 b3 bf bl HD
    have hil := hS.len
    obtain ⟨b0, b1, b2, b3, bf, bl⟩ := hS.o
    have hrx3 := hS.r.far (p := ⟨w.heap.size, 1, none⟩) (by simp) (.slice (some ⟨g, 0, none⟩) i d1)
    have hbx3 := hS.o.set1 (.slice (some ⟨g, 0, none⟩) i d1)
    have hA3 := own_cell hS.img (b := w.heap.size) (by omega) 1 (.slice (some ⟨g, 0, none⟩) i d1)
    have hB3 := own_cell hS.row (b := w.heap.size) (by omega) 1 (.slice (some ⟨g, 0, none⟩) i d1)
    have hX3 := hS.x.setCell (p := ⟨w.heap.size, 1, none⟩) (Nat.le_refl _) (.slice (some ⟨g, 0, none⟩) i d1)
    have HIL := Lib.hid hil
    clear hS hil
    go_upto_region 8 with fail
    obtain ⟨W6, hW6⟩ : ∃ W, W = w3.setCell ⟨w.heap.size, 1, none⟩ (.slice (some ⟨g, 0, none⟩) i d1) := ⟨_, rfl⟩
    rw [← hW6] at hrx3 hbx3 hA3 hB3 hX3 ⊢
    clear hW6 b0 b1 b2 b3 bf bl
    obtain ⟨b0, b1, b2, b3, bf, bl⟩ := hbx3
    obtain ⟨r0, r1, r2, r3, rf, rl⟩ := hrx3
    go_wp2_with fail
    refine bodyPost_ret (v := .tuple #[.agg #[.slice (some ⟨ga, 0, none⟩) m.length c1, .slice (some ⟨g, 0, none⟩) i d1, .int .i64 L, .bool down], .int .i64 0]) (by simp [results, Try.results98, go_sem, r0, r1, r2, r3]) rfl ?_
    exact retV_at (fenM_length q m) HIL.out HL.out (own_sl4 (own_set4 hA3 (b := w.heap.size + 1) (by omega) _ _ _ _)) (own_sl4 (own_set4 hB3 (b := w.heap.size + 1) (by omega) _ _ _ _)) (set4_ext hX3 (Nat.le_succ _) _ _ _ _)
set_option maxHeartbeats 3200000 in
theorem dFence_0 (m : List Int) (q : List Dw) (down : Bool) (A : Option Addr) (c : Nat) (B : Option Addr) (d : Nat) (w : World) (hA : Sl w A m.length c (fU m)) (hB : Sl w B q.length d (fD q)) (h0 : devE m q 0 down = 0) :
    Calls Try.prog 98 #[.agg #[.slice A m.length c, .slice B q.length d, .int .i64 0, .bool down]] w (RetV w (m, q, 0, true) 0) := by
  have hbx : Box4 ((w.alloc (Obj.cells #[.slice A m.length c, .slice B q.length d, .int .i64 0, .bool down] 46)).alloc (Obj.cells #[.slice none 0 0, .slice none 0 0, .int .i64 0, .bool false] 46)) w.heap.size (.slice A m.length c) (.slice B q.length d) (.int .i64 0) (.bool down) := (Box4.new w _ _ _ _ _).alloc _
  have hrx : Box4 ((w.alloc (Obj.cells #[.slice A m.length c, .slice B q.length d, .int .i64 0, .bool down] 46)).alloc (Obj.cells #[.slice none 0 0, .slice none 0 0, .int .i64 0, .bool false] 46)) (w.heap.size + 1) (.slice none 0 0) (.slice none 0 0) (.int .i64 0) (.bool false) := Box4.new' _ _ (by simp) _ _ _ _ _
  have hd := devE_ok h0
  obtain ⟨k1, k2, k3, k4, hasc⟩ := devB_bd hd
  have hsz := sizeB_bd k1
  have hql := dirty_le hd
  have H0 := Lib.hid (And.intro h0 (And.intro hasc k4))
  clear hd hasc k1 k4 h0
  go_enter Try.func98, Try.ntmps98
  go_wp2_with fail
  refine (dCheck_any m q 0 down A c B d _ ((hB.alloc _).alloc _)).mono ?_
  rintro e w1 ⟨rfl, hx1⟩
  rw [H0.out.1]
  replace hbx := hbx.ext hx1
  replace hrx := hrx.ext hx1
  have hX1 : Ext w w1 := Ext.trans (((Ext.refl w).alloc _).alloc _) hx1
  obtain ⟨b0, b1, b2, b3, bf, bl⟩ := hbx
  go_wp2_with fail
  refine (dSpend_any m q 0 down A c B d w1 (hA.ext hX1) (hB.ext hX1) (by omega) (by omega) (by decide)).mono ?_
  rw [spD_0]
  rintro e w2 ⟨A1, c1, B1, d1, rfl, hown1, hown2, hx2⟩
  rw [show (decide ((0 : Int) ≠ 0)) = false from rfl]
  have hX2 := hX1.trans hx2
  have hf1 := own_far (b := w.heap.size) hown1 bl
  have hf2 := own_far (b := w.heap.size) hown2 bl
  have hg1 := own_far (b := w.heap.size + 1) hown1 hrx.lt
  have hg2 := own_far (b := w.heap.size + 1) hown2 hrx.lt
  replace hbx := (Box4.mk b0 b1 b2 b3 bf bl).ext hx2
  replace hrx := hrx.ext hx2
  clear b0 b1 b2 b3 bf bl
  obtain ⟨b0, b1, b2, b3, bf, bl⟩ := hbx
  go_upto_region 5 with fail
  obtain ⟨W2, hW2⟩ : ∃ W2, W2 = ((((w2.setCell ⟨w.heap.size, 0, none⟩ (.slice A1 m.length c1)).setCell ⟨w.heap.size, 1, none⟩ (.slice B1 q.length d1)).setCell ⟨w.heap.size, 2, none⟩ (.int .i64 0)).setCell ⟨w.heap.size, 3, none⟩ (.bool true)) := ⟨_, rfl⟩
  rw [← hW2]
  replace hbx := Box4.set4 (Box4.mk b0 b1 b2 b3 bf bl) (.slice A1 m.length c1) (.slice B1 q.length d1) (.int .i64 0) (.bool true)
  replace hrx := Box4.far4 hrx (g := w.heap.size) (by omega) (.slice A1 m.length c1) (.slice B1 q.length d1) (.int .i64 0) (.bool true)
  have hX3 := set4_ext hX2 (b := w.heap.size) (Nat.le_refl _) (.slice A1 m.length c1) (.slice B1 q.length d1) (.int .i64 0) (.bool true)
  have hA1 := set4_sl (own_sl4 hown1) hf1 (.slice A1 m.length c1) (.slice B1 q.length d1) (.int .i64 0) (.bool true)
  have hB1 := set4_sl (own_sl4 hown2) hf2 (.slice A1 m.length c1) (.slice B1 q.length d1) (.int .i64 0) (.bool true)
  rw [← hW2] at hbx hrx hX3 hA1 hB1
  clear b0 b1 b2 b3 bf bl hW2 hX1 hx1 hX2 hx2 hown1 hown2
  obtain ⟨b0, b1, b2, b3, bf, bl⟩ := hbx
  obtain ⟨r0, r1, r2, r3, rf, rl⟩ := hrx
  go_wp2_with fail
  exact bodyPost_ret (v := .tuple #[.agg #[.slice A1 m.length c1, .slice B1 q.length d1, .int .i64 0, .bool true], .int .i64 0]) (by simp [results, Try.results98, go_sem, r0, r1, r2, r3]) rfl ⟨_, _, _, _, rfl, set4_sl hA1 hg1 _ _ _ _, set4_sl hB1 hg2 _ _ _ _, set4_ext hX3 (Nat.le_succ _) _ _ _ _⟩
set_option maxHeartbeats 3200000 in
theorem dFence_bad (m : List Int) (q : List Dw) (left : Int) (down : Bool) (A : Option Addr) (c : Nat) (B : Option Addr) (d : Nat) (w : World) (hB : Sl w B q.length d (fD q)) (h0 : devE m q left down ≠ 0) :
    Calls Try.prog 98 #[.agg #[.slice A m.length c, .slice B q.length d, .int .i64 left, .bool down]] w (RetV w zeroV (devE m q left down)) := by
  have hbx : Box4 ((w.alloc (Obj.cells #[.slice A m.length c, .slice B q.length d, .int .i64 left, .bool down] 46)).alloc (Obj.cells #[.slice none 0 0, .slice none 0 0, .int .i64 0, .bool false] 46)) w.heap.size (.slice A m.length c) (.slice B q.length d) (.int .i64 left) (.bool down) := (Box4.new w _ _ _ _ _).alloc _
  have hrx : Box4 ((w.alloc (Obj.cells #[.slice A m.length c, .slice B q.length d, .int .i64 left, .bool down] 46)).alloc (Obj.cells #[.slice none 0 0, .slice none 0 0, .int .i64 0, .bool false] 46)) (w.heap.size + 1) (.slice none 0 0) (.slice none 0 0) (.int .i64 0) (.bool false) := Box4.new' _ _ (by simp) _ _ _ _ _
  have hb : (devE m q left down != 0) = true := by simpa using h0
  go_enter Try.func98, Try.ntmps98
  go_wp2_with fail
  refine (dCheck_any m q left down A c B d _ ((hB.alloc _).alloc _)).mono ?_
  rintro e w1 ⟨rfl, hx1⟩
  replace hrx := hrx.ext hx1
  have hX1 : Ext w w1 := Ext.trans (((Ext.refl w).alloc _).alloc _) hx1
  obtain ⟨r0, r1, r2, r3, rf, rl⟩ := hrx
  clear hbx
  go_wp2_with fail
  exact bodyPost_ret (v := .tuple #[.agg #[.slice none 0 0, .slice none 0 0, .int .i64 0, .bool false], .int .i64 (devE m q left down)]) (by simp [results, Try.results98, go_sem, r0, r1, r2, r3]) rfl (retV_zero (set4_ext hX1 (Nat.le_succ _) _ _ _ _))
theorem dFence_any (m : List Int) (q : List Dw) (left : Int) (down : Bool) (A : Option Addr) (c : Nat) (B : Option Addr) (d : Nat) (w : World) (hA : Sl w A m.length c (fU m)) (hB : Sl w B q.length d (fD q)) :
    Calls Try.prog 98 #[.agg #[.slice A m.length c, .slice B q.length d, .int .i64 left, .bool down]] w (RetV w (fenceV m q left down) (devE m q left down)) := by
  by_cases h0 : devE m q left down = 0
  · by_cases hl : left = 0
    · subst hl
      rw [show fenceV m q 0 down = (m, q, 0, true) from by simp [fenceV, h0], h0]
      exact dFence_0 m q down A c B d w hA hB h0
    · rw [show fenceV m q left down = (fenM m q, fenD q, spL left, down) from by simp [fenceV, h0, hl], h0]
      exact dFence_1 m q left down A c B d w hA hB h0 hl
  · rw [show fenceV m q left down = zeroV from by simp [fenceV, h0]]
    exact dFence_bad m q left down A c B d w hB h0
end Go.Proofs.Ytmkcpnklaijkfaa
