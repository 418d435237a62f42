/-
  Several texts in one: DRFlu, DRFlush, DRSto0, DSt, DRFen1, DRFen2.
-/
import Derived.Test.YtmkcpnklaijkfaaGG
import Derived.Test.YtmkcpnklaijkfaaGH
import Derived.Deep.RegionLaw
/-
  The contract of the reference's flushing.
-/
namespace Go.Proofs.Ytmkcpnklaijkfaa
open Go.RowKit
theorem fluD_len' (a : Int) (q : List Dw) (k : Nat) : (fluD a (q.take k) ++ q.drop k).length = q.length := by simp [fluD]; omega
set_option maxHeartbeats 3200000 in
theorem dRFlushed_1 (m : List Int) (q : List Dw) (left : Int) (down : Bool) (a : Int) (A : Option Addr) (c : Nat) (B : Option Addr) (d : Nat) (w : World) (hA : Sl w A m.length c (fU m)) (hB : Sl w B q.length d (fD q)) (hd : devB m q left down = true) (a0 : 0 ≤ a) (a1 : a < m.length) (hl : left ≠ 0) :
    Calls Try.prog 122 #[.agg #[.slice A m.length c, .slice B q.length d, .int .i64 left, .bool down], .int .i64 a] w (RetW w (m, fluD a q, spL left, down)) := by
  have hrx : Box4 ((w.alloc (Obj.cells #[.slice A m.length c, .slice B q.length d, .int .i64 left, .bool down] 46)).alloc (Obj.cells #[.slice none 0 0, .slice none 0 0, .int .i64 0, .bool false] 46)) (w.heap.size + 1) (.slice none 0 0) (.slice none 0 0) (.int .i64 0) (.bool false) := Box4.new' _ _ (by simp) _ _ _ _ _
  obtain ⟨k1, k2, k3, k4, hasc⟩ := devB_bd hd
  have hsz := sizeB_bd k1
  have hql := dirty_le hd
  have hlb : decide (left ≠ 0) = true := decide_eq_true hl
  have H0 := Lib.hid (And.intro hasc k4)
  clear hasc k4 k1 hd
  go_enter Try.func122, Try.ntmps122
  go_wp2_with fail
  refine (dRSpent_any m q left down A c B d _ ((hA.alloc _).alloc _) ((hB.alloc _).alloc _) (by omega) (by omega) k3).mono ?_
  rw [spD_ne hl, hlb]
  rintro e w1 ⟨A1, c1, B1, d1, rfl, hown1, hown2, hx1⟩
  obtain ⟨L, hL⟩ : ∃ L, spL left = L := ⟨_, rfl⟩
  simp only [hL]
  have HL := Lib.hid hL
  clear hL
  have hX1 : Ext w w1 := Ext.trans (((Ext.refl w).alloc _).alloc _) hx1
  replace hrx := hrx.ext hx1
  have hs : ((w.alloc (Obj.cells #[.slice A m.length c, .slice B q.length d, .int .i64 left, .bool down] 46)).alloc (Obj.cells #[.slice none 0 0, .slice none 0 0, .int .i64 0, .bool false] 46)).heap.size = w.heap.size + 2 := by simp
  rw [hs] at hown1 hown2
  have hl1 : w.heap.size + 1 < w1.heap.size := hrx.lt
  have hox := Box4.new w1 (.slice A1 m.length c1) (.slice B1 q.length d1) (.int .i64 L) (.bool down) 46
  have hrx2 := hrx.alloc (Obj.cells #[.slice A1 m.length c1, .slice B1 q.length d1, .int .i64 L, .bool down] 46)
  have hX2 := hX1.alloc (Obj.cells #[.slice A1 m.length c1, .slice B1 q.length d1, .int .i64 L, .bool down] 46)
  have hB2 : (w1.alloc (Obj.cells #[.slice A1 m.length c1, .slice B1 q.length d1, .int .i64 L, .bool down] 46)).ownsRow (w.heap.size + 2) 88 3 (.slice B1 q.length d1) q.length (fD q) := hown2.alloc _
  have hA2 : (w1.alloc (Obj.cells #[.slice A1 m.length c1, .slice B1 q.length d1, .int .i64 L, .bool down] 46)).ownsRow (w.heap.size + 2) 24 1 (.slice A1 m.length c1) m.length (fU m) := hown1.alloc _
  have hfo := own_ne_hi hown2 (Nat.le_refl _)
  clear hx1 hX1 hrx hs hown1 hown2 hA hB
  go_wp2_with fail
  obtain ⟨W2, hW2⟩ : ∃ W, W = w1.alloc (Obj.cells #[.slice A1 m.length c1, .slice B1 q.length d1, .int .i64 L, .bool down] 46) := ⟨_, rfl⟩
  obtain ⟨g0, hg0⟩ : ∃ g, w1.heap.size = g := ⟨_, rfl⟩
  rw [← hW2] at hox hrx2 hX2 hB2 hA2 ⊢
  rw [hg0] at hox hl1 hfo ⊢
  clear hW2 hg0
  go_loopw [7] (fun i wr => ∃ k : Nat, k ≤ q.length ∧ i = .int .i64 k ∧ wr.ownsRow (w.heap.size + 2) 88 3 (.slice B1 q.length d1) q.length (fD (fluD a (q.take k) ++ q.drop k)) ∧ wr.ownsRow (w.heap.size + 2) 24 1 (.slice A1 m.length c1) m.length (fU m) ∧ Box4 wr g0 (.slice A1 m.length c1) (.slice B1 q.length d1) (.int .i64 L) (.bool down) ∧ Box4 wr (w.heap.size + 1) (.slice none 0 0) (.slice none 0 0) (.int .i64 0) (.bool false) ∧ Ext w wr) (fun i _ => q.length - (intOf i).toNat)
  case atStart => exact ⟨0, Nat.zero_le _, rfl, hB2, hA2, hox, hrx2, hX2⟩
  case round =>
    clear hX2 hrx2 hA2 hB2 hox
    obtain ⟨k, hk, rfl, hB1, hA1, hbx, hrx, hx⟩ := hrel
    by_cases hlt : k < q.length
    · obtain ⟨x, hat⟩ : ∃ x, q[k]? = some x := ⟨_, List.getElem?_eq_getElem hlt⟩
      have hcur := flu_at (a := a) hat
      have hstep := flu_step (a := a) hat
      obtain ⟨r0, r1⟩ := ascB_mem H0.out.1 x (List.mem_of_getElem? hat)
      have hcl := (List.getElem?_eq_some_iff.1 hcur).1
      obtain ⟨g, rfl, hg⟩ := own_head hB1 (by omega)
      obtain ⟨y, hy, g0', g1, g2, gf⟩ := own_at_D hB1 hcl
      rw [hcur] at hy
      injection hy with hy
      subst hy
      have hap := own_apart hA1 hB1 (by decide)
      have Hst := Lib.hid (And.intro hstep (And.intro hcur hat))
      have x0 : 0 ≤ x.1 := by omega
      have ne1 : g ≠ g0 := hfo ⟨g, 0, none⟩ rfl
      have ne2 : g ≠ w.heap.size + 1 := by omega
      obtain ⟨b0, b1, b2, b3, bf, bl⟩ := hbx
      clear hcur hstep hat
      by_cases hc : x.1 / 8 = a / 8
      · have hcb : (x.1 / 8 == a / 8) = true := by simpa using hc
        have hH : Hid (fluD a (q.take (k + 1)) ++ q.drop (k + 1) = (fluD a (q.take k) ++ q.drop k).set k (x.1, x.2.1, true)) := Lib.hid (by rw [Hst.out.1, if_pos hc])
        clear hc
        go_wp2_with fail
        go_roundw
        case rel => exact ⟨k + 1, by omega, by go_num, by rw [hH.out]; exact own_set_D2 hB1 Hst.out.2.1 true, own_cellF hA1 hap _ _, (Box4.mk b0 b1 b2 b3 bf bl).far (p := ⟨g, k * 3 + 2, none⟩) ne1 _, hrx.far (p := ⟨g, k * 3 + 2, none⟩) ne2 _, hx.setCell (p := ⟨g, k * 3 + 2, none⟩) (by show w.heap.size ≤ g; omega) _⟩
        case measure => simp [intOf]; omega
      · have hcb : (x.1 / 8 == a / 8) = false := by simpa using hc
        have hH : Hid (fluD a (q.take (k + 1)) ++ q.drop (k + 1) = fluD a (q.take k) ++ q.drop k) := Lib.hid (by rw [Hst.out.1, if_neg hc, set_same Hst.out.2.1])
        clear hc
        go_wp2_with fail
        go_roundw
        case rel => exact ⟨k + 1, by omega, by go_num, by rw [hH.out]; exact hB1, hA1, Box4.mk b0 b1 b2 b3 bf bl, hrx, hx⟩
        case measure => simp [intOf]; omega
    · obtain rfl : k = q.length := by omega
      obtain ⟨b0, b1, b2, b3, bf, bl⟩ := hbx
      obtain ⟨r0, r1, r2, r3, rf, rl⟩ := hrx
      rw [List.take_length, List.drop_length, List.append_nil] at hB1
      go_wp2_with fail
      refine bodyPost_ret (v := .agg #[.slice A1 m.length c1, .slice B1 q.length d1, .int .i64 L, .bool down]) (by simp [results, Try.results122, go_sem, r0, r1, r2, r3]) rfl ?_
      have hA3 := own_set4 hA1 (b := w.heap.size + 1) (by omega) (.slice A1 m.length c1) (.slice B1 q.length d1) (.int .i64 L) (.bool down)
      have hB3 := own_set4 hB1 (b := w.heap.size + 1) (by omega) (.slice A1 m.length c1) (.slice B1 q.length d1) (.int .i64 L) (.bool down)
      exact retW_at rfl (by simp [fluD]) HL.out (own_sl4 hA3) (own_sl4 hB3) (own_new hA3 (by omega)) (own_new hB3 (by omega)) (set4_ext hx (Nat.le_succ _) _ _ _ _)
set_option maxHeartbeats 3200000 in
theorem dRFlushed_0 (m : List Int) (q : List Dw) (down : Bool) (a : Int) (A : Option Addr) (c : Nat) (B : Option Addr) (d : Nat) (w : World) (hA : Sl w A m.length c (fU m)) (hB : Sl w B q.length d (fD q)) (hd : devB m q 0 down = true) :
    Calls Try.prog 122 #[.agg #[.slice A m.length c, .slice B q.length d, .int .i64 0, .bool down], .int .i64 a] w (RetW w (m, q, 0, true)) := by
  have hrx : Box4 ((w.alloc (Obj.cells #[.slice A m.length c, .slice B q.length d, .int .i64 0, .bool down] 46)).alloc (Obj.cells #[.slice none 0 0, .slice none 0 0, .int .i64 0, .bool false] 46)) (w.heap.size + 1) (.slice none 0 0) (.slice none 0 0) (.int .i64 0) (.bool false) := Box4.new' _ _ (by simp) _ _ _ _ _
  obtain ⟨k1, k2, k3, k4, hasc⟩ := devB_bd hd
  have hsz := sizeB_bd k1
  have hql := dirty_le hd
  clear hasc k4 k1 hd
  go_enter Try.func122, Try.ntmps122
  go_wp2_with fail
  refine (dRSpent_any m q 0 down A c B d _ ((hA.alloc _).alloc _) ((hB.alloc _).alloc _) (by omega) (by omega) (by decide)).mono ?_
  rw [spD_0, show (decide ((0 : Int) ≠ 0)) = false from rfl]
  rintro e w1 ⟨A1, c1, B1, d1, rfl, hown1, hown2, hx1⟩
  have hX1 : Ext w w1 := Ext.trans (((Ext.refl w).alloc _).alloc _) hx1
  replace hrx := hrx.ext hx1
  have hs : ((w.alloc (Obj.cells #[.slice A m.length c, .slice B q.length d, .int .i64 0, .bool down] 46)).alloc (Obj.cells #[.slice none 0 0, .slice none 0 0, .int .i64 0, .bool false] 46)).heap.size = w.heap.size + 2 := by simp
  rw [hs] at hown1 hown2
  have hl1 : w.heap.size + 1 < w1.heap.size := hrx.lt
  have hox := Box4.new w1 (.slice A1 m.length c1) (.slice B1 q.length d1) (.int .i64 0) (.bool true) 46
  have hrx2 := hrx.alloc (Obj.cells #[.slice A1 m.length c1, .slice B1 q.length d1, .int .i64 0, .bool true] 46)
  have hX2 := hX1.alloc (Obj.cells #[.slice A1 m.length c1, .slice B1 q.length d1, .int .i64 0, .bool true] 46)
  have hB2 : (w1.alloc (Obj.cells #[.slice A1 m.length c1, .slice B1 q.length d1, .int .i64 0, .bool true] 46)).ownsRow (w.heap.size + 2) 88 3 (.slice B1 q.length d1) q.length (fD q) := hown2.alloc _
  have hA2 : (w1.alloc (Obj.cells #[.slice A1 m.length c1, .slice B1 q.length d1, .int .i64 0, .bool true] 46)).ownsRow (w.heap.size + 2) 24 1 (.slice A1 m.length c1) m.length (fU m) := hown1.alloc _
  clear hx1 hX1 hrx hs hown1 hown2 hA hB
  go_wp2_with fail
  obtain ⟨W2, hW2⟩ : ∃ W, W = w1.alloc (Obj.cells #[.slice A1 m.length c1, .slice B1 q.length d1, .int .i64 0, .bool true] 46) := ⟨_, rfl⟩
  obtain ⟨g0, hg0⟩ : ∃ g, w1.heap.size = g := ⟨_, rfl⟩
  rw [← hW2] at hox hrx2 hX2 hB2 hA2 ⊢
  rw [hg0] at hox hl1 ⊢
  clear hW2 hg0
  go_loopw [7] (fun i wr => i = .int .i64 0 ∧ wr = W2) (fun i _ => 1)
  case atStart => exact ⟨rfl, rfl⟩
  case round =>
    obtain ⟨rfl, rfl⟩ := hrel
    obtain ⟨b0, b1, b2, b3, bf, bl⟩ := hox
    obtain ⟨r0, r1, r2, r3, rf, rl⟩ := hrx2
    cases hqb : decide (0 < q.length)
    all_goals
      go_wp2_with fail
      refine bodyPost_ret (v := .agg #[.slice A1 m.length c1, .slice B1 q.length d1, .int .i64 0, .bool true]) (by simp [results, Try.results122, go_sem, r0, r1, r2, r3]) rfl ?_
      have hA3 := own_set4 hA2 (b := w.heap.size + 1) (by omega) (.slice A1 m.length c1) (.slice B1 q.length d1) (.int .i64 0) (.bool true)
      have hB3 := own_set4 hB2 (b := w.heap.size + 1) (by omega) (.slice A1 m.length c1) (.slice B1 q.length d1) (.int .i64 0) (.bool true)
      exact retW_at rfl rfl rfl (own_sl4 hA3) (own_sl4 hB3) (own_new hA3 (by omega)) (own_new hB3 (by omega)) (set4_ext hX2 (Nat.le_succ _) _ _ _ _)
end Go.Proofs.Ytmkcpnklaijkfaa
/-
  The contract of the reference's Flush.
-/
namespace Go.Proofs.Ytmkcpnklaijkfaa
open Go.RowKit
theorem dRFlushed_any (m : List Int) (q : List Dw) (left : Int) (down : Bool) (a : Int) (A : Option Addr) (c : Nat) (B : Option Addr) (d : Nat) (w : World) (hA : Sl w A m.length c (fU m)) (hB : Sl w B q.length d (fD q)) (h0 : askE m q left down a = 0) :
    Calls Try.prog 122 #[.agg #[.slice A m.length c, .slice B q.length d, .int .i64 left, .bool down], .int .i64 a] w (RetW w (flushV m q left down a)) := by
  obtain ⟨hd, a0, a1⟩ := askE_ok h0
  by_cases hl : left = 0
  · subst hl
    rw [show flushV m q 0 down a = (m, q, 0, true) from by simp [flushV, h0]]
    exact dRFlushed_0 m q down a A c B d w hA hB hd
  · rw [show flushV m q left down a = (m, fluD a q, spL left, down) from by simp [flushV, h0, hl]]
    exact dRFlushed_1 m q left down a A c B d w hA hB hd a0 a1 hl
end Go.Proofs.Ytmkcpnklaijkfaa
/-
  The reference's Stored and Fenced on a device that has no operation left.
-/
namespace Go.Proofs.Ytmkcpnklaijkfaa
open Go.RowKit
set_option maxHeartbeats 1600000 in
theorem dRFenced_0 (m : List Int) (q : List Dw) (down : Bool) (A : Option Addr) (c : Nat) (B : Option Addr) (d : Nat) (w : World) (hA : Sl w A m.length c (fU m)) (hB : Sl w B q.length d (fD q)) (hd : devB m q 0 down = true) :
    Calls Try.prog 123 #[.agg #[.slice A m.length c, .slice B q.length d, .int .i64 0, .bool down]] w (RetW w (m, q, 0, true)) := by
  have hrx : Box4 ((w.alloc (Obj.cells #[.slice A m.length c, .slice B q.length d, .int .i64 0, .bool down] 46)).alloc (Obj.cells #[.slice none 0 0, .slice none 0 0, .int .i64 0, .bool false] 46)) (w.heap.size + 1) (.slice none 0 0) (.slice none 0 0) (.int .i64 0) (.bool false) := Box4.new' _ _ (by simp) _ _ _ _ _
  obtain ⟨k1, k2, k3, k4, hasc⟩ := devB_bd hd
  have hsz := sizeB_bd k1
  have hql := dirty_le hd
  clear hasc k4 k1 hd
  go_enter Try.func123, Try.ntmps123
  go_wp2_with fail
  refine (dRSpent_any m q 0 down A c B d _ ((hA.alloc _).alloc _) ((hB.alloc _).alloc _) (by omega) (by omega) (by decide)).mono ?_
  rw [spD_0, show (decide ((0 : Int) ≠ 0)) = false from rfl]
  rintro e w1 ⟨A1, c1, B1, d1, rfl, hown1, hown2, hx1⟩
  have hX1 : Ext w w1 := Ext.trans (((Ext.refl w).alloc _).alloc _) hx1
  replace hrx := hrx.ext hx1
  have hs : ((w.alloc (Obj.cells #[.slice A m.length c, .slice B q.length d, .int .i64 0, .bool down] 46)).alloc (Obj.cells #[.slice none 0 0, .slice none 0 0, .int .i64 0, .bool false] 46)).heap.size = w.heap.size + 2 := by simp
  rw [hs] at hown1 hown2
  have hl1 : w.heap.size + 1 < w1.heap.size := hrx.lt
  have hox := Box4.new w1 (.slice A1 m.length c1) (.slice B1 q.length d1) (.int .i64 0) (.bool true) 46
  have hrx2 := hrx.alloc (Obj.cells #[.slice A1 m.length c1, .slice B1 q.length d1, .int .i64 0, .bool true] 46)
  have hX2 := hX1.alloc (Obj.cells #[.slice A1 m.length c1, .slice B1 q.length d1, .int .i64 0, .bool true] 46)
  have hB2 : (w1.alloc (Obj.cells #[.slice A1 m.length c1, .slice B1 q.length d1, .int .i64 0, .bool true] 46)).ownsRow (w.heap.size + 2) 88 3 (.slice B1 q.length d1) q.length (fD q) := hown2.alloc _
  have hA2 : (w1.alloc (Obj.cells #[.slice A1 m.length c1, .slice B1 q.length d1, .int .i64 0, .bool true] 46)).ownsRow (w.heap.size + 2) 24 1 (.slice A1 m.length c1) m.length (fU m) := hown1.alloc _
  clear hx1 hX1 hrx hs hown1 hown2 hA hB
  go_upto_region 2 with fail
  obtain ⟨W2, hW2⟩ : ∃ W, W = w1.alloc (Obj.cells #[.slice A1 m.length c1, .slice B1 q.length d1, .int .i64 0, .bool true] 46) := ⟨_, rfl⟩
  obtain ⟨g0, hg0⟩ : ∃ g, w1.heap.size = g := ⟨_, rfl⟩
  rw [← hW2] at hox hrx2 hX2 hB2 hA2 ⊢
  rw [hg0] at hox hl1 ⊢
  clear hW2 hg0
  obtain ⟨b0, b1, b2, b3, bf, bl⟩ := hox
  obtain ⟨r0, r1, r2, r3, rf, rl⟩ := hrx2
  go_wp2_with fail
  refine bodyPost_ret (v := .agg #[.slice A1 m.length c1, .slice B1 q.length d1, .int .i64 0, .bool true]) (by simp [results, Try.results123, go_sem, r0, r1, r2, r3]) rfl ?_
  have hA3 := own_set4 hA2 (b := w.heap.size + 1) (by omega) (.slice A1 m.length c1) (.slice B1 q.length d1) (.int .i64 0) (.bool true)
  have hB3 := own_set4 hB2 (b := w.heap.size + 1) (by omega) (.slice A1 m.length c1) (.slice B1 q.length d1) (.int .i64 0) (.bool true)
  exact retW_at rfl rfl rfl (own_sl4 hA3) (own_sl4 hB3) (own_new hA3 (by omega)) (own_new hB3 (by omega)) (set4_ext hX2 (Nat.le_succ _) _ _ _ _)
set_option maxHeartbeats 1600000 in
theorem dRStored_0 (m : List Int) (q : List Dw) (down : Bool) (a v : Int) (A : Option Addr) (c : Nat) (B : Option Addr) (d : Nat) (w : World) (hA : Sl w A m.length c (fU m)) (hB : Sl w B q.length d (fD q)) (hd : devB m q 0 down = true) :
    Calls Try.prog 121 #[.agg #[.slice A m.length c, .slice B q.length d, .int .i64 0, .bool down], .int .i64 a, .int .u64 v] w (RetW w (m, q, 0, true)) := by
  have hrx : Box4 ((w.alloc (Obj.cells #[.slice A m.length c, .slice B q.length d, .int .i64 0, .bool down] 46)).alloc (Obj.cells #[.slice none 0 0, .slice none 0 0, .int .i64 0, .bool false] 46)) (w.heap.size + 1) (.slice none 0 0) (.slice none 0 0) (.int .i64 0) (.bool false) := Box4.new' _ _ (by simp) _ _ _ _ _
  obtain ⟨k1, k2, k3, k4, hasc⟩ := devB_bd hd
  have hsz := sizeB_bd k1
  have hql := dirty_le hd
  clear hasc k4 k1 hd
  go_enter Try.func121, Try.ntmps121
  go_wp2_with fail
  refine (dRSpent_any m q 0 down A c B d _ ((hA.alloc _).alloc _) ((hB.alloc _).alloc _) (by omega) (by omega) (by decide)).mono ?_
  rw [spD_0, show (decide ((0 : Int) ≠ 0)) = false from rfl]
  rintro e w1 ⟨A1, c1, B1, d1, rfl, hown1, hown2, hx1⟩
  have hX1 : Ext w w1 := Ext.trans (((Ext.refl w).alloc _).alloc _) hx1
  replace hrx := hrx.ext hx1
  have hs : ((w.alloc (Obj.cells #[.slice A m.length c, .slice B q.length d, .int .i64 0, .bool down] 46)).alloc (Obj.cells #[.slice none 0 0, .slice none 0 0, .int .i64 0, .bool false] 46)).heap.size = w.heap.size + 2 := by simp
  rw [hs] at hown1 hown2
  have hl1 : w.heap.size + 1 < w1.heap.size := hrx.lt
  have hox := Box4.new w1 (.slice A1 m.length c1) (.slice B1 q.length d1) (.int .i64 0) (.bool true) 46
  have hrx2 := hrx.alloc (Obj.cells #[.slice A1 m.length c1, .slice B1 q.length d1, .int .i64 0, .bool true] 46)
  have hX2 := hX1.alloc (Obj.cells #[.slice A1 m.length c1, .slice B1 q.length d1, .int .i64 0, .bool true] 46)
  have hB2 : (w1.alloc (Obj.cells #[.slice A1 m.length c1, .slice B1 q.length d1, .int .i64 0, .bool true] 46)).ownsRow (w.heap.size + 2) 88 3 (.slice B1 q.length d1) q.length (fD q) := hown2.alloc _
  have hA2 : (w1.alloc (Obj.cells #[.slice A1 m.length c1, .slice B1 q.length d1, .int .i64 0, .bool true] 46)).ownsRow (w.heap.size + 2) 24 1 (.slice A1 m.length c1) m.length (fU m) := hown1.alloc _
  clear hx1 hX1 hrx hs hown1 hown2 hA hB
  go_upto_region 2 with fail
  obtain ⟨W2, hW2⟩ : ∃ W, W = w1.alloc (Obj.cells #[.slice A1 m.length c1, .slice B1 q.length d1, .int .i64 0, .bool true] 46) := ⟨_, rfl⟩
  obtain ⟨g0, hg0⟩ : ∃ g, w1.heap.size = g := ⟨_, rfl⟩
  rw [← hW2] at hox hrx2 hX2 hB2 hA2 ⊢
  rw [hg0] at hox hl1 ⊢
  clear hW2 hg0
  obtain ⟨b0, b1, b2, b3, bf, bl⟩ := hox
  obtain ⟨r0, r1, r2, r3, rf, rl⟩ := hrx2
  go_wp2_with fail
  refine bodyPost_ret (v := .agg #[.slice A1 m.length c1, .slice B1 q.length d1, .int .i64 0, .bool true]) (by simp [results, Try.results121, go_sem, r0, r1, r2, r3]) rfl ?_
  have hA3 := own_set4 hA2 (b := w.heap.size + 1) (by omega) (.slice A1 m.length c1) (.slice B1 q.length d1) (.int .i64 0) (.bool true)
  have hB3 := own_set4 hB2 (b := w.heap.size + 1) (by omega) (.slice A1 m.length c1) (.slice B1 q.length d1) (.int .i64 0) (.bool true)
  exact retW_at rfl rfl rfl (own_sl4 hA3) (own_sl4 hB3) (own_new hA3 (by omega)) (own_new hB3 (by omega)) (set4_ext hX2 (Nat.le_succ _) _ _ _ _)
end Go.Proofs.Ytmkcpnklaijkfaa
/-
  A device that is built anew in a variable: its safe words in a row, its dirty ones in a row that grows.
-/
namespace Go.Proofs.Ytmkcpnklaijkfaa
open Go.RowKit
theorem Box4.blw {base : Nat} {w w' : World} {g : Nat} {v0 v1 v2 v3 : Value} (h : Box4 w g v0 v1 v2 v3) (x : Below base w w') (hg : g < base) : Box4 w' g v0 v1 v2 v3 :=
  ⟨by rw [Below.cell x hg]; exact h.c0, by rw [Below.cell x hg]; exact h.c1, by rw [Below.cell x hg]; exact h.c2, by rw [Below.cell x hg]; exact h.c3, fun o => by rw [Below.frozen x hg]; exact h.fz o, Nat.lt_of_lt_of_le h.lt (Below.size x)⟩
theorem own_blw {base base' : Nat} {w w' : World} {e : TypeId} {size g n c : Nat} {xs : List Value} (h : w.ownsRow base e size (.slice (some ⟨g, 0, none⟩) n c) n xs) (x : Below base' w w') (hg : g < base') : w'.ownsRow base e size (.slice (some ⟨g, 0, none⟩) n c) n xs := by
  obtain ⟨hl, ⟨hv, _⟩ | ⟨g', cap, cur, hv, hb, hg', r⟩⟩ := h
  · cases hv
  · have hv' := hv
    injection hv with h1 h2 h3
    injection h1 with h1
    injection h1 with h1
    subst h1
    refine ⟨hl, .inr ⟨g, cap, cur, hv', hb, ?_, r⟩⟩
    rw [x.block g hg]
    exact hg'
/-- The variable at g0 holds a device with the words M (a row in block ga), the dirty ones l (a row behind g0); the parameter's box is pb, the result's pb + 1. -/
structure StD (w0 wr : World) (pb g0 ga : Nat) (PA PB PL PD : Value) (n c1 : Nat) (M : List Int) (L : Int) (down : Bool) (B : Option Addr) (d k : Nat) (l : List Dw) : Prop where
  p : Box4 wr pb PA PB PL PD
  r : Box4 wr (pb + 1) (.slice none 0 0) (.slice none 0 0) (.int .i64 0) (.bool false)
  o : Box4 wr g0 (.slice (some ⟨ga, 0, none⟩) n c1) (.slice B k d) (.int .i64 L) (.bool down)
  own : wr.ownsRow (g0 + 1) 88 3 (.slice B k d) k (fD l)
  img : wr.ownsRow (pb + 2) 24 1 (.slice (some ⟨ga, 0, none⟩) n c1) n (fU M)
  x : Ext w0 wr
  lo : w0.heap.size ≤ pb
  ga1 : pb + 2 ≤ ga
  ga2 : ga < g0
theorem StD.len {w0 wr : World} {pb g0 ga : Nat} {PA PB PL PD : Value} {n c1 : Nat} {M : List Int} {L : Int} {down : Bool} {B : Option Addr} {d k : Nat} {l : List Dw} (h : StD w0 wr pb g0 ga PA PB PL PD n c1 M L down B d k l) : l.length = k := by
  have := h.own.1
  rw [fD_length] at this
  omega
/-- A dirty word is appended, and the slice stored into the variable. -/
theorem StD.push {w0 wr w1 w' : World} {pb g0 ga : Nat} {PA PB PL PD : Value} {n c1 : Nat} {M : List Int} {L : Int} {down : Bool} {B B' : Option Addr} {d d' k k' : Nat} {l l' : List Dw}
    (h : StD w0 wr pb g0 ga PA PB PL PD n c1 M L down B d k l) (h1 : Ext wr w1) (hb : Below (g0 + 1) w1 w') (ho : w'.ownsRow (g0 + 1) 88 3 (.slice B' k' d') k' (fD l')) :
    StD w0 (w'.setCell ⟨g0, 1, none⟩ (.slice B' k' d')) pb g0 ga PA PB PL PD n c1 M L down B' d' k' l' := by
  have l1 := h.lo
  have l2 := h.ga1
  have l3 := h.ga2
  have hx1 := (h.x.trans h1)
  exact ⟨((h.p.ext h1).blw hb (by omega)).far (p := ⟨g0, 1, none⟩) (by show g0 ≠ pb; omega) _, ((h.r.ext h1).blw hb (by omega)).far (p := ⟨g0, 1, none⟩) (by show g0 ≠ pb + 1; omega) _,
    ((h.o.ext h1).blw hb (by omega)).set1 _, own_cell ho (by omega) 1 _, own_cellF (own_blw (own_ext h.img h1) hb (by omega)) (fun ad e => by injection e with e; subst e; show ga ≠ g0; omega) 1 _,
    (Below.trans hx1 (Below.mono hb (by omega))).setCell (p := ⟨g0, 1, none⟩) (by show w0.heap.size ≤ g0; omega) _, l1, l2, l3⟩
theorem StD.ext {w0 wr w' : World} {pb g0 ga : Nat} {PA PB PL PD : Value} {n c1 : Nat} {M : List Int} {L : Int} {down : Bool} {B : Option Addr} {d k : Nat} {l : List Dw}
    (h : StD w0 wr pb g0 ga PA PB PL PD n c1 M L down B d k l) (h1 : Ext wr w') : StD w0 w' pb g0 ga PA PB PL PD n c1 M L down B d k l :=
  ⟨h.p.ext h1, h.r.ext h1, h.o.ext h1, own_ext h.own h1, own_ext h.img h1, h.x.trans h1, h.lo, h.ga1, h.ga2⟩
/-- A word is stored into the image. -/
theorem StD.word {w0 wr : World} {pb g0 ga : Nat} {PA PB PL PD : Value} {n c1 : Nat} {M : List Int} {L : Int} {down : Bool} {B : Option Addr} {d k : Nat} {l : List Dw}
    (h : StD w0 wr pb g0 ga PA PB PL PD n c1 M L down B d k l) (i : Nat) (v : Int) : StD w0 (wr.setCell ⟨ga, i, none⟩ (.int .u64 v)) pb g0 ga PA PB PL PD n c1 (M.set i v) L down B d k l := by
  have l1 := h.lo
  have l2 := h.ga1
  have l3 := h.ga2
  exact ⟨h.p.far (p := ⟨ga, i, none⟩) (by show ga ≠ pb; omega) _, h.r.far (p := ⟨ga, i, none⟩) (by show ga ≠ pb + 1; omega) _, h.o.far (p := ⟨ga, i, none⟩) (by show ga ≠ g0; omega) _,
    own_cell h.own (by omega) i _, own_set_U h.img _ _, h.x.setCell (p := ⟨ga, i, none⟩) (by show w0.heap.size ≤ ga; omega) _, l1, l2, l3⟩
/-- What the call returns: the variable's device, copied into the result's box. -/
theorem StD.ret {w0 wr : World} {ga : Nat} {g0 : Nat} {PA PB PL PD : Value} {n c1 : Nat} {M : List Int} {L : Int} {down : Bool} {B : Option Addr} {d k : Nat} {l : List Dw} {left : Int}
    (h : StD w0 wr w0.heap.size g0 ga PA PB PL PD n c1 M L down B d k l) (hm : M.length = n) (hl : left = L) :
    RetW w0 (M, l, left, down) (.returned (.agg #[.slice (some ⟨ga, 0, none⟩) n c1, .slice B k d, .int .i64 L, .bool down])) ((((wr.setCell ⟨w0.heap.size + 1, 0, none⟩ (.slice (some ⟨ga, 0, none⟩) n c1)).setCell ⟨w0.heap.size + 1, 1, none⟩ (.slice B k d)).setCell ⟨w0.heap.size + 1, 2, none⟩ (.int .i64 L)).setCell ⟨w0.heap.size + 1, 3, none⟩ (.bool down)) := by
  have l2 := h.ga1
  have l3 := h.ga2
  have hA3 := own_set4 h.img (b := w0.heap.size + 1) (by omega) (.slice (some ⟨ga, 0, none⟩) n c1) (.slice B k d) (.int .i64 L) (.bool down)
  have hB3 := own_set4 h.own (b := w0.heap.size + 1) (by omega) (.slice (some ⟨ga, 0, none⟩) n c1) (.slice B k d) (.int .i64 L) (.bool down)
  exact retW_at hm h.len hl (own_sl4 hA3) (own_sl4 hB3) (own_new hA3 (by omega)) (own_new hB3 (by omega)) (set4_ext h.x (Nat.le_succ _) _ _ _ _)
end Go.Proofs.Ytmkcpnklaijkfaa
/-
  The reference's Fenced on a device that has operations left.
-/
namespace Go.Proofs.Ytmkcpnklaijkfaa
open Go.RowKit
theorem fen_take {m : List Int} {q : List Dw} {k : Nat} {x : Dw} (h : q[k]? = some x) :
    if x.2.2 = true then fenM m (q.take (k + 1)) = (fenM m (q.take k)).set x.1.toNat x.2.1 ∧ fenD (q.take (k + 1)) = fenD (q.take k) else fenM m (q.take (k + 1)) = fenM m (q.take k) ∧ fenD (q.take (k + 1)) = fenD (q.take k) ++ [x] := by
  rw [List.take_add_one, h, Option.toList_some]
  cases hf : x.2.2 <;> simp [fenM, fenD, List.filter_append, hf]
set_option maxRecDepth 100000 in
set_option maxHeartbeats 6400000 in
theorem dRFenced_1 (m : List Int) (q : List Dw) (left : Int) (down : Bool) (A : Option Addr) (c : Nat) (B : Option Addr) (d : Nat) (w : World) (hA : Sl w A m.length c (fU m)) (hB : Sl w B q.length d (fD q)) (hd : devB m q left down = true) (hl : left ≠ 0) :
    Calls Try.prog 123 #[.agg #[.slice A m.length c, .slice B q.length d, .int .i64 left, .bool down]] w (RetW w (fenM m q, fenD q, spL left, down)) := by
  have hpx : Box4 ((w.alloc (Obj.cells #[.slice A m.length c, .slice B q.length d, .int .i64 left, .bool down] 46)).alloc (Obj.cells #[.slice none 0 0, .slice none 0 0, .int .i64 0, .bool false] 46)) w.heap.size (.slice A m.length c) (.slice B q.length d) (.int .i64 left) (.bool down) := (Box4.new w _ _ _ _ _).alloc _
  have hrx : Box4 ((w.alloc (Obj.cells #[.slice A m.length c, .slice B q.length d, .int .i64 left, .bool down] 46)).alloc (Obj.cells #[.slice none 0 0, .slice none 0 0, .int .i64 0, .bool false] 46)) (w.heap.size + 1) (.slice none 0 0) (.slice none 0 0) (.int .i64 0) (.bool false) := Box4.new' _ _ (by simp) _ _ _ _ _
  obtain ⟨k1, k2, k3, k4, hasc⟩ := devB_bd hd
  have hsz := sizeB_bd k1
  have hql := dirty_le hd
  have hlb : decide (left ≠ 0) = true := decide_eq_true hl
  have H0 := Lib.hid hasc
  clear hasc k4 k1 hd
  go_enter Try.func123, Try.ntmps123
  go_wp2_with fail
  refine (dRSpent_any m q left down A c B d _ ((hA.alloc _).alloc _) ((hB.alloc _).alloc _) (by omega) (by omega) k3).mono ?_
  rw [spD_ne hl, hlb]
  rintro e w1 ⟨A1, c1, B1, d1, rfl, hown1, -, hx1⟩
  obtain ⟨L, hL⟩ : ∃ L, spL left = L := ⟨_, rfl⟩
  simp only [hL]
  have HL := Lib.hid hL
  clear hL
  have hX1 : Ext w w1 := Ext.trans (((Ext.refl w).alloc _).alloc _) hx1
  replace hrx := hrx.ext hx1
  replace hpx := hpx.ext hx1
  have hs : ((w.alloc (Obj.cells #[.slice A m.length c, .slice B q.length d, .int .i64 left, .bool down] 46)).alloc (Obj.cells #[.slice none 0 0, .slice none 0 0, .int .i64 0, .bool false] 46)).heap.size = w.heap.size + 2 := by simp
  rw [hs] at hown1
  obtain ⟨ga, rfl, hga⟩ := own_head hown1 (by show 0 < m.length; omega)
  have hga2 : ga < w1.heap.size := (hown1.lt ga rfl).2
  have hl1 : w.heap.size + 1 < w1.heap.size := hrx.lt
  have hS0 : StD w (w1.alloc (Obj.cells #[.slice (some ⟨ga, 0, none⟩) m.length c1, .slice none 0 0, .int .i64 L, .bool down] 46)) w.heap.size w1.heap.size ga (.slice A m.length c) (.slice B q.length d) (.int .i64 left) (.bool down) m.length c1 m L down none 0 0 [] :=
    ⟨hpx.alloc _, hrx.alloc _, Box4.new _ _ _ _ _ _, own_nil _ _ _ _, hown1.alloc _, hX1.alloc _, Nat.le_refl _, hga, hga2⟩
  obtain ⟨r0, r1, r2, r3, rf, rl⟩ := hrx
  clear hx1 hX1 hs hown1 hA hpx
  go_wp2_with fail
  obtain ⟨W2, hW2⟩ : ∃ W, W = w1.alloc (Obj.cells #[.slice (some ⟨ga, 0, none⟩) m.length c1, .slice none 0 0, .int .i64 L, .bool down] 46) := ⟨_, rfl⟩
  rw [← hW2] at hS0 ⊢
  obtain ⟨g0, hg0⟩ : ∃ g, w1.heap.size = g := ⟨_, rfl⟩
  rw [hg0] at hl1 hS0 hga2 ⊢
  clear hW2 hg0 r0 r1 r2 r3 rf rl
  go_loopw [5] (fun i wr => ∃ (k : Nat) (B2 : Option Addr) (d2 n2 : Nat), k ≤ q.length ∧ i = .int .i64 k ∧ n2 ≤ k ∧ StD w wr w.heap.size g0 ga (.slice A m.length c) (.slice B q.length d) (.int .i64 left) (.bool down) m.length c1 (fenM m (q.take k)) L down B2 d2 n2 (fenD (q.take k))) (fun i _ => q.length - (intOf i).toNat)
  case atStart => exact ⟨0, none, 0, 0, Nat.zero_le _, rfl, Nat.zero_le _, hS0⟩
  case round =>
    obtain ⟨k, B2, d2, n2, hk, rfl, hll, hS⟩ := hrel
    have HS := Lib.hid hS
    obtain ⟨p0, p1, p2, p3, pf, pl⟩ := hS.p
    obtain ⟨o0, o1, o2, o3, of, ol⟩ := hS.o
    by_cases hlt : k < q.length
    · obtain ⟨ad, x, rfl, hat, e0, e1, e2⟩ := (hB.ext hS.x).d_at hlt
      have hxr := ascB_mem H0.out x (List.mem_of_getElem? hat)
      obtain ⟨y, hy, c0, cf⟩ := own_at_U hS.img (i := x.1.toNat) (by rw [fenM_length]; omega)
      have hcl := block_lt_of_cell c0
      have x0 : 0 ≤ x.1 := by omega
      have x1 : x.1 < m.length := by omega
      have HT := Lib.hid (fen_take (m := m) hat)
      clear hat hS hS0 hy hxr
      cases hf : x.2.2 with
      | true =>
        rw [hf] at e2
        have hmm : fenM m (q.take (k + 1)) = (fenM m (q.take k)).set x.1.toNat x.2.1 ∧ fenD (q.take (k + 1)) = fenD (q.take k) := by
          have := HT.out
          rw [hf] at this
          exact this
        have HM := Lib.hid hmm
        clear hmm hf
        go_wp2_with fail
        go_region
        all_goals
          go_wp2_with fail
          go_roundw
          case rel => exact ⟨k + 1, B2, d2, n2, by omega, by go_num, by omega, by rw [HM.out.1, HM.out.2]; first | exact (HS.out.ext (ext_drewN _ 1)).word _ _ | exact (HS.out.word _ _).ext (ext_drewN _ 1)⟩
          case measure => simp [intOf]; omega
      | false =>
        rw [hf] at e2
        have hmm : fenM m (q.take (k + 1)) = fenM m (q.take k) ∧ fenD (q.take (k + 1)) = fenD (q.take k) ++ [x] := by
          have := HT.out
          rw [hf] at this
          exact this
        have HM := Lib.hid (And.intro hmm hf)
        have hx3 : (x.1, x.2.1, false) = x := by rw [← hf]
        have HX := Lib.hid hx3
        clear hmm hf hx3
        go_wp2_with fail
        go_region_law (refine step_app ED rfl (.tmp 44) (.tmp 50) rfl rfl (HS.out.own.alloc _).drew rfl (Sl.lit' _ _ _ _ rfl (by decide)).drew rfl (fD_one [(x.1, x.2.1, false)]) (by omega) (by simp <;> omega) ?_; intro v' w' hown' hbel hat' hgr; have hown3 : w'.ownsRow (g0 + 1) 88 3 v' (n2 + 1) (fD (fenD (q.take k) ++ [x])) := (by rw [fD_append, ← HX.out]; exact hown'); obtain ⟨B', d', hv, hB'⟩ := Sl.of_own hown3; subst hv; clear hown' hat' hgr hB'; have hbx := (HS.out.o.ext (((Ext.refl _).alloc _).drew)).blw hbel (by omega); obtain ⟨y0, y1, y2, y3, yf, yl⟩ := hbx)
        all_goals
          have hS4 := HS.out.push (((Ext.refl _).alloc _).drew) hbel hown3
          clear hbel hown3
          go_wp2_with fail
          go_roundw
          case rel => exact ⟨k + 1, B', d', n2 + 1, by omega, by go_num, by omega, by rw [HM.out.1.1, HM.out.1.2]; exact hS4⟩
          case measure => simp [intOf]; omega
    · obtain rfl : k = q.length := by omega
      rw [List.take_length] at hS HS
      obtain ⟨r0, r1, r2, r3, rf, rl⟩ := hS.r
      clear hS0 hS
      go_wp2_with fail
      refine bodyPost_ret (v := .agg #[.slice (some ⟨ga, 0, none⟩) m.length c1, .slice B2 n2 d2, .int .i64 L, .bool down]) (by simp [results, Try.results123, go_sem, r0, r1, r2, r3]) rfl ?_
      exact HS.out.ret (fenM_length q m) HL.out
end Go.Proofs.Ytmkcpnklaijkfaa
/-
  The contract of the reference's Fence.
-/
namespace Go.Proofs.Ytmkcpnklaijkfaa
open Go.RowKit
theorem dRFenced_any (m : List Int) (q : List Dw) (left : Int) (down : Bool) (A : Option Addr) (c : Nat) (B : Option Addr) (d : Nat) (w : World) (hA : Sl w A m.length c (fU m)) (hB : Sl w B q.length d (fD q)) (h0 : devE m q left down = 0) :
    Calls Try.prog 123 #[.agg #[.slice A m.length c, .slice B q.length d, .int .i64 left, .bool down]] w (RetW w (fenceV m q left down)) := by
  have hd := devE_ok h0
  by_cases hl : left = 0
  · subst hl
    rw [show fenceV m q 0 down = (m, q, 0, true) from by simp [fenceV, h0]]
    exact dRFenced_0 m q down A c B d w hA hB hd
  · rw [show fenceV m q left down = (fenM m q, fenD q, spL left, down) from by simp [fenceV, h0, hl]]
    exact dRFenced_1 m q left down A c B d w hA hB hd hl
end Go.Proofs.Ytmkcpnklaijkfaa
