/-
  The contract of storing.
-/
import Derived.Test.YtmmcbleoglgamaaDIns
import Derived.Test.YtmmcbleoglgamaaDSt
import Derived.Test.YtmmcbleoglgamaaDFlush
namespace Go.Proofs.Ytmmcbleoglgamaa
open Go.RowKit
set_option maxRecDepth 100000 in
set_option maxHeartbeats 6400000 in
theorem dStore_1 (m : List Int) (q : List Dw) (left : Int) (down : Bool) (a v : Int) (A : Option Addr) (c : Nat) (B : Option Addr) (d : Nat) (w : World) (hA : Sl w A m.length c (fU m)) (hB : Sl w B q.length d (fD q)) (h0 : askE m q left down a = 0) (hl : left ≠ 0) :
    Calls Try.prog 37 #[.agg #[.slice A m.length c, .slice B q.length d, .int .i64 left, .bool down], .int .i64 a, .int .u64 v] w (RetV w (m, insD a v q, spL left, down) 0) := by
  have hbx : Box4 ((w.alloc (Obj.cells #[.slice A m.length c, .slice B q.length d, .int .i64 left, .bool down] 25)).alloc (Obj.cells #[.slice none 0 0, .slice none 0 0, .int .i64 0, .bool false] 25)) w.heap.size (.slice A m.length c) (.slice B q.length d) (.int .i64 left) (.bool down) := (Box4.new w _ _ _ _ _).alloc _
  have hrx : Box4 ((w.alloc (Obj.cells #[.slice A m.length c, .slice B q.length d, .int .i64 left, .bool down] 25)).alloc (Obj.cells #[.slice none 0 0, .slice none 0 0, .int .i64 0, .bool false] 25)) (w.heap.size + 1) (.slice none 0 0) (.slice none 0 0) (.int .i64 0) (.bool false) := Box4.new' _ _ (by simp) _ _ _ _ _
  obtain ⟨hd, a0, a1⟩ := askE_ok h0
  obtain ⟨k1, k2, k3, k4, hasc⟩ := devB_bd hd
  have hsz := sizeB_bd k1
  have hql := dirty_le hd
  have H0 := Lib.hid (And.intro h0 (And.intro hasc k4))
  clear hd hasc k1 k4 h0
  have hlb : decide (left ≠ 0) = true := decide_eq_true hl
  go_enter Try.func37, Try.ntmps37
  go_wp2_with fail
  refine (dAsk_any m q left down a A c B d _ ((hB.alloc _).alloc _)).mono ?_
  rintro e w1 ⟨rfl, hx1⟩
  rw [H0.out.1]
  replace hbx := hbx.ext hx1
  replace hrx := hrx.ext hx1
  have hX1 : Ext w w1 := Ext.trans (((Ext.refl w).alloc _).alloc _) hx1
  obtain ⟨b0, b1, b2, b3, bf, bl⟩ := hbx
  go_wp2_with fail
  refine (dSpend_any m q left down A c B d w1 (hA.ext hX1) (hB.ext hX1) (by omega) (by omega) k3).mono ?_
  rw [spD_ne hl, hlb]
  rintro e w2 ⟨A1, c1, B1, d1, rfl, hown1, hown2, hx2⟩
  obtain ⟨L, hL⟩ : ∃ L, spL left = L := ⟨_, rfl⟩
  simp only [hL]
  have HL := Lib.hid hL
  clear hL
  have hX2 := hX1.trans hx2
  have hl1 : w.heap.size + 2 ≤ w1.heap.size := hrx.lt
  replace hbx := (Box4.mk b0 b1 b2 b3 bf bl).ext hx2
  replace hrx := hrx.ext hx2
  clear b0 b1 b2 b3 bf bl
  obtain ⟨b0, b1, b2, b3, bf, bl⟩ := hbx
  go_upto_region 5 with fail
  obtain ⟨W2, hW2⟩ : ∃ W2, W2 = ((((w2.setCell ⟨w.heap.size, 0, none⟩ (.slice A1 m.length c1)).setCell ⟨w.heap.size, 1, none⟩ (.slice B1 q.length d1)).setCell ⟨w.heap.size, 2, none⟩ (.int .i64 L)).setCell ⟨w.heap.size, 3, none⟩ (.bool down)) := ⟨_, rfl⟩
  rw [← hW2]
  replace hbx := Box4.set4 (Box4.mk b0 b1 b2 b3 bf bl) (.slice A1 m.length c1) (.slice B1 q.length d1) (.int .i64 L) (.bool down)
  replace hrx := Box4.far4 hrx (g := w.heap.size) (by omega) (.slice A1 m.length c1) (.slice B1 q.length d1) (.int .i64 L) (.bool down)
  have hX3 := set4_ext hX2 (b := w.heap.size) (Nat.le_refl _) (.slice A1 m.length c1) (.slice B1 q.length d1) (.int .i64 L) (.bool down)
  have hA1 := own_set4 (own_base hown1 hl1) (b := w.heap.size) (by omega) (.slice A1 m.length c1) (.slice B1 q.length d1) (.int .i64 L) (.bool down)
  have hB1 := own_set4 (own_base hown2 hl1) (b := w.heap.size) (by omega) (.slice A1 m.length c1) (.slice B1 q.length d1) (.int .i64 L) (.bool down)
  rw [← hW2] at hbx hrx hX3 hA1 hB1
  clear b0 b1 b2 b3 bf bl hW2 hX1 hx1 hX2 hx2 hown1 hown2 hA hB
  go_upto_region 8 with fail
  have hgw1 : w.heap.size + 2 ≤ W2.heap.size := hrx.lt
  have hbx := hbx.alloc (Obj.cells #[.int .i64 a, .int .u64 v, .bool false] 44)
  have hrx := hrx.alloc (Obj.cells #[.int .i64 a, .int .u64 v, .bool false] 44)
  have hA1 := hA1.alloc (Obj.cells #[.int .i64 a, .int .u64 v, .bool false] 44)
  have hB1 := hB1.alloc (Obj.cells #[.int .i64 a, .int .u64 v, .bool false] 44)
  have hX3 := hX3.alloc (Obj.cells #[.int .i64 a, .int .u64 v, .bool false] 44)
  have c0 : (W2.alloc (Obj.cells #[.int .i64 a, .int .u64 v, .bool false] 44)).cell? ⟨W2.heap.size, 0, none⟩ = some (.int .i64 a) := by simp [go_sem]
  have c1' : (W2.alloc (Obj.cells #[.int .i64 a, .int .u64 v, .bool false] 44)).cell? ⟨W2.heap.size, 1, none⟩ = some (.int .u64 v) := by simp [go_sem]
  have c2 : (W2.alloc (Obj.cells #[.int .i64 a, .int .u64 v, .bool false] 44)).cell? ⟨W2.heap.size, 2, none⟩ = some (.bool false) := by simp [go_sem]
  obtain ⟨W3, hW3⟩ : ∃ W, W = W2.alloc (Obj.cells #[.int .i64 a, .int .u64 v, .bool false] 44) := ⟨_, rfl⟩
  have hgw : W2.heap.size < W3.heap.size := by rw [hW3]; simp
  rw [← hW3] at hbx hrx hA1 hB1 hX3 c0 c1' c2 ⊢
  obtain ⟨gw, hgw0⟩ : ∃ g, W2.heap.size = g := ⟨_, rfl⟩
  rw [hgw0] at hgw hgw1 c0 c1' c2 ⊢
  clear hW3 hgw0
  obtain ⟨b0, b1, b2, b3, bf, bl⟩ := hbx
  go_wp2_with fail
  refine (dFind_any m q L down a A1 c1 B1 d1 W3 (own_sl4 hB1) H0.out.2.1 (by omega)).mono ?_
  rintro e w4 ⟨rfl, hx4⟩
  replace hX3 := hX3.trans hx4
  replace hbx := (Box4.mk b0 b1 b2 b3 bf bl).ext hx4
  replace hrx := hrx.ext hx4
  replace hA1 := own_ext hA1 hx4
  replace hB1 := own_ext hB1 hx4
  replace c0 := hx4.cell c0
  replace c1' := hx4.cell c1'
  replace c2 := hx4.cell c2
  replace hgw := Nat.lt_of_lt_of_le hgw hx4.size
  clear b0 b1 b2 b3 bf bl hx4
  have hct := cntLt_le a q
  cases hf : fndD a q with
  | true =>
    obtain ⟨x, hq1, -⟩ := fnd_at hf
    have hins := insD_fnd (v := v) hf
    obtain ⟨t, ht⟩ : ∃ t, cntLt a q = t := ⟨_, rfl⟩
    rw [ht] at hq1 hins hct ⊢
    have HIN := Lib.hid hins
    have hlt := (List.getElem?_eq_some_iff.1 hq1).1
    have i1 : (t : Int) < q.length := by omega
    obtain ⟨g, rfl, hg⟩ := own_head hB1 (by omega)
    have hap := own_apart hA1 hB1 (by decide)
    have hgl := (hB1.lt g rfl).2
    obtain ⟨y, hy, g0, g1, g2, gf⟩ := own_at_D hB1 hlt
    have ne1 : g ≠ w.heap.size := by omega
    have ne2 : g ≠ w.heap.size + 1 := by omega
    have hB2 := own_set_D3 hB1 hlt (a, v, false)
    have hA2 := own_cellF (own_cellF (own_cellF hA1 hap (t * 3) (.int .i64 a)) hap (t * 3 + 1) (.int .u64 v)) hap (t * 3 + 2) (.bool false)
    have hbx2 := ((hbx.far (p := ⟨g, t * 3, none⟩) ne1 (.int .i64 a)).far (p := ⟨g, t * 3 + 1, none⟩) ne1 (.int .u64 v)).far (p := ⟨g, t * 3 + 2, none⟩) ne1 (.bool false)
    have hrx2 := ((hrx.far (p := ⟨g, t * 3, none⟩) ne2 (.int .i64 a)).far (p := ⟨g, t * 3 + 1, none⟩) ne2 (.int .u64 v)).far (p := ⟨g, t * 3 + 2, none⟩) ne2 (.bool false)
    have hX4 := ((hX3.setCell (p := ⟨g, t * 3, none⟩) (by show w.heap.size ≤ g; omega) (.int .i64 a)).setCell (p := ⟨g, t * 3 + 1, none⟩) (by show w.heap.size ≤ g; omega) (.int .u64 v)).setCell (p := ⟨g, t * 3 + 2, none⟩) (by show w.heap.size ≤ g; omega) (.bool false)
    have HQ := Lib.hid hB2
    obtain ⟨b0, b1, b2, b3, bf, bl⟩ := hbx
    clear hf ht hq1 hins hy hB2
    go_upto_region 12 with fail
    have hB2 := HQ.out
    obtain ⟨W5, hW5⟩ : ∃ W, W = ((w4.setCell ⟨g, t * 3, none⟩ (.int .i64 a)).setCell ⟨g, t * 3 + 1, none⟩ (.int .u64 v)).setCell ⟨g, t * 3 + 2, none⟩ (.bool false) := ⟨_, rfl⟩
    rw [← hW5] at hB2 hA2 hbx2 hrx2 hX4 ⊢
    clear hW5 b0 b1 b2 b3 bf bl c0 c1' c2 g0 g1 g2 gf HQ hB1 hA1 hX3 hrx
    obtain ⟨b0, b1, b2, b3, bf, bl⟩ := hbx2
    obtain ⟨r0, r1, r2, r3, rf, rl⟩ := hrx2
    go_wp2_with fail
    refine bodyPost_ret (v := .tuple #[.agg #[.slice A1 m.length c1, .slice (some ⟨g, 0, none⟩) q.length d1, .int .i64 L, .bool down], .int .i64 0]) (by simp [results, Try.results37, go_sem, r0, r1, r2, r3]) rfl ?_
    rw [HIN.out]
    exact retV_at rfl (List.length_set ..) HL.out (own_sl4 (own_set4 hA2 (b := w.heap.size + 1) (by omega) _ _ _ _)) (own_sl4 (own_set4 hB2 (b := w.heap.size + 1) (by omega) _ _ _ _)) (set4_ext hX4 (Nat.le_succ _) _ _ _ _)
  | false =>
    have hins := insD_not (v := v) hf
    obtain ⟨t, ht⟩ : ∃ t, cntLt a q = t := ⟨_, rfl⟩
    rw [ht] at hins hct ⊢
    have HIN := Lib.hid hins
    have i1 : (t : Int) ≤ q.length := by omega
    have hB0 := hB1.alloc (Obj.cells (fD [(a, v, false)]).toArray 44)
    have hins2 := ins_any q t hct (a, v, false) B1 d1 (w.heap.size + 2) w4.heap.size 44 _ hB0 (heap_alloc_new w4 _) (fun ad e he => by subst e; have := (hB1.lt ad.block rfl).2; omega) (by simp; omega) (by omega)
    have HI := Lib.hid hins2
    have HL1 := Lib.hid (show (q.take t ++ (a, v, false) :: q.drop t).length = q.length + 1 by simp; omega)
    obtain ⟨b0, b1, b2, b3, bf, bl⟩ := hbx
    clear hf ht hins hB0 hins2
    go_wp2_with fail
    refine (HI.out).mono ?_
    rintro e w5 ⟨B5, d5, rfl, hown5, hgr⟩
    have hrow : ∀ k, (Value.slice B1 q.length d1).ownBlock = some k → w.heap.size + 2 ≤ k := fun k hk => (hB1.lt k hk).1
    have hx5 : Below (w.heap.size + 2) (w4.alloc (Obj.cells (fD [(a, v, false)]).toArray 44)) w5 := (Below.refl _ _).grown hgr (by simp; omega) hrow
    have hapn : (Value.slice A1 m.length c1).ownBlock = none ∨ (Value.slice A1 m.length c1).ownBlock ≠ (Value.slice B1 q.length d1).ownBlock := by
      cases B1 with
      | none => cases A1 with
        | none => exact .inl rfl
        | some aa => exact .inr (by simp [Value.ownBlock])
      | some bb =>
        obtain ⟨g, h1, -⟩ : ∃ g, some bb = some ⟨g, 0, none⟩ ∧ True := by
          rcases hB1.2 with ⟨hv, _⟩ | ⟨g, cap, cur, hv, _⟩
          · cases hv
          · injection hv with e1 _ _
            exact ⟨g, e1, trivial⟩
        rw [h1] at hB1 ⊢
        have hap := own_apart hA1 hB1 (by decide)
        cases A1 with
        | none => exact .inl rfl
        | some aa => exact .inr (by have := hap aa rfl; simpa [Value.ownBlock] using this)
    have hA5 := (hA1.alloc (Obj.cells (fD [(a, v, false)]).toArray 44)).kept hgr hapn
    have hbx5 := (Box4.alloc (Box4.mk b0 b1 b2 b3 bf bl) (Obj.cells (fD [(a, v, false)]).toArray 44)).blw hx5 (by omega)
    have hrx5 := (hrx.alloc (Obj.cells (fD [(a, v, false)]).toArray 44)).blw hx5 (by omega)
    have hX5 : Ext w w5 := Below.trans (hX3.alloc _) (Below.mono hx5 (by omega))
    clear b0 b1 b2 b3 bf bl c0 c1' c2 hrx hA1 hB1 hX3 hx5 hgr hapn hrow
    obtain ⟨b0, b1, b2, b3, bf, bl⟩ := hbx5
    go_upto_region 12 with fail
    have hbx6 := (Box4.mk b0 b1 b2 b3 bf bl).set1 (.slice B5 (q.length + 1) d5)
    have hrx6 := hrx5.far (p := ⟨w.heap.size, 1, none⟩) (by simp) (.slice B5 (q.length + 1) d5)
    have hA6 := own_cell hA5 (b := w.heap.size) (by omega) 1 (.slice B5 (q.length + 1) d5)
    have hB6 := own_cell hown5 (b := w.heap.size) (by omega) 1 (.slice B5 (q.length + 1) d5)
    have hX6 := hX5.setCell (p := ⟨w.heap.size, 1, none⟩) (Nat.le_refl _) (.slice B5 (q.length + 1) d5)
    obtain ⟨W6, hW6⟩ : ∃ W, W = w5.setCell ⟨w.heap.size, 1, none⟩ (.slice B5 (q.length + 1) d5) := ⟨_, rfl⟩
    rw [← hW6] at hbx6 hrx6 hA6 hB6 hX6 ⊢
    clear hW6 b0 b1 b2 b3 bf bl hrx5 hA5 hown5 hX5
    obtain ⟨b0, b1, b2, b3, bf, bl⟩ := hbx6
    obtain ⟨r0, r1, r2, r3, rf, rl⟩ := hrx6
    go_wp2_with fail
    refine bodyPost_ret (v := .tuple #[.agg #[.slice A1 m.length c1, .slice B5 (q.length + 1) d5, .int .i64 L, .bool down], .int .i64 0]) (by simp [results, Try.results37, go_sem, r0, r1, r2, r3]) rfl ?_
    rw [HIN.out]
    exact retV_at rfl HL1.out HL.out (own_sl4 (own_set4 hA6 (b := w.heap.size + 1) (by omega) _ _ _ _)) (own_sl4 (own_set4 hB6 (b := w.heap.size + 1) (by omega) _ _ _ _)) (set4_ext hX6 (Nat.le_succ _) _ _ _ _)
end Go.Proofs.Ytmmcbleoglgamaa
