/-
  The contract of the reference's flushing.
-/
import Derived.Test.YtmmcbleoglgamaaDFlush
import Derived.Test.YtmmcbleoglgamaaDRTwin
import Derived.Test.YtmmcbleoglgamaaRefCr
namespace Go.Proofs.Ytmmcbleoglgamaa
open Go.RowKit
theorem fluD_len' (a : Int) (q : List Dw) (k : Nat) : (fluD a (q.take k) ++ q.drop k).length = q.length := by simp [fluD]; omega
set_option maxHeartbeats 3200000 in
theorem dRFlushed_1 (m : List Int) (q : List Dw) (left : Int) (down : Bool) (a : Int) (A : Option Addr) (c : Nat) (B : Option Addr) (d : Nat) (w : World) (hA : Sl w A m.length c (fU m)) (hB : Sl w B q.length d (fD q)) (hd : devB m q left down = true) (a0 : 0 ≤ a) (a1 : a < m.length) (hl : left ≠ 0) :
    Calls Try.prog 60 #[.agg #[.slice A m.length c, .slice B q.length d, .int .i64 left, .bool down], .int .i64 a] w (RetW w (m, fluD a q, spL left, down)) := by
  have hrx : Box4 ((w.alloc (Obj.cells #[.slice A m.length c, .slice B q.length d, .int .i64 left, .bool down] 25)).alloc (Obj.cells #[.slice none 0 0, .slice none 0 0, .int .i64 0, .bool false] 25)) (w.heap.size + 1) (.slice none 0 0) (.slice none 0 0) (.int .i64 0) (.bool false) := Box4.new' _ _ (by simp) _ _ _ _ _
  obtain ⟨k1, k2, k3, k4, hasc⟩ := devB_bd hd
  have hsz := sizeB_bd k1
  have hql := dirty_le hd
  have hlb : decide (left ≠ 0) = true := decide_eq_true hl
  have H0 := Lib.hid (And.intro hasc k4)
  clear hasc k4 k1 hd
  go_enter Try.func60, Try.ntmps60
  go_wp2_with fail
  refine (dRSpent_any m q left down A c B d _ ((hA.alloc _).alloc _) ((hB.alloc _).alloc _) (by omega) (by omega) k3).mono ?_
  rw [spD_ne hl, hlb]
  rintro e w1 ⟨A1, c1, B1, d1, rfl, hown1, hown2, hx1⟩
  obtain ⟨L, hL⟩ : ∃ L, spL left = L := ⟨_, rfl⟩
  simp only [hL]
  have HL := Lib.hid hL
  clear hL
  have hX1 : Ext w w1 := Ext.trans (((Ext.refl w).alloc _).alloc _) hx1
  replace hrx := hrx.ext hx1
  have hs : ((w.alloc (Obj.cells #[.slice A m.length c, .slice B q.length d, .int .i64 left, .bool down] 25)).alloc (Obj.cells #[.slice none 0 0, .slice none 0 0, .int .i64 0, .bool false] 25)).heap.size = w.heap.size + 2 := by simp
  rw [hs] at hown1 hown2
  have hl1 : w.heap.size + 1 < w1.heap.size := hrx.lt
  have hox := Box4.new w1 (.slice A1 m.length c1) (.slice B1 q.length d1) (.int .i64 L) (.bool down) 25
  have hrx2 := hrx.alloc (Obj.cells #[.slice A1 m.length c1, .slice B1 q.length d1, .int .i64 L, .bool down] 25)
  have hX2 := hX1.alloc (Obj.cells #[.slice A1 m.length c1, .slice B1 q.length d1, .int .i64 L, .bool down] 25)
  have hB2 : (w1.alloc (Obj.cells #[.slice A1 m.length c1, .slice B1 q.length d1, .int .i64 L, .bool down] 25)).ownsRow (w.heap.size + 2) 44 3 (.slice B1 q.length d1) q.length (fD q) := hown2.alloc _
  have hA2 : (w1.alloc (Obj.cells #[.slice A1 m.length c1, .slice B1 q.length d1, .int .i64 L, .bool down] 25)).ownsRow (w.heap.size + 2) 26 1 (.slice A1 m.length c1) m.length (fU m) := hown1.alloc _
  have hfo := own_ne_hi hown2 (Nat.le_refl _)
  clear hx1 hX1 hrx hs hown1 hown2 hA hB
  go_wp2_with fail
  obtain ⟨W2, hW2⟩ : ∃ W, W = w1.alloc (Obj.cells #[.slice A1 m.length c1, .slice B1 q.length d1, .int .i64 L, .bool down] 25) := ⟨_, rfl⟩
  obtain ⟨g0, hg0⟩ : ∃ g, w1.heap.size = g := ⟨_, rfl⟩
  rw [← hW2] at hox hrx2 hX2 hB2 hA2 ⊢
  rw [hg0] at hox hl1 hfo ⊢
  clear hW2 hg0
  go_loopw [7] (fun i wr => ∃ k : Nat, k ≤ q.length ∧ i = .int .i64 k ∧ wr.ownsRow (w.heap.size + 2) 44 3 (.slice B1 q.length d1) q.length (fD (fluD a (q.take k) ++ q.drop k)) ∧ wr.ownsRow (w.heap.size + 2) 26 1 (.slice A1 m.length c1) m.length (fU m) ∧ Box4 wr g0 (.slice A1 m.length c1) (.slice B1 q.length d1) (.int .i64 L) (.bool down) ∧ Box4 wr (w.heap.size + 1) (.slice none 0 0) (.slice none 0 0) (.int .i64 0) (.bool false) ∧ Ext w wr) (fun i _ => q.length - (intOf i).toNat)
  case atStart => exact ⟨0, Nat.zero_le _, rfl, hB2, hA2, hox, hrx2, hX2⟩
  case round =>
    clear hX2 hrx2 hA2 hB2 hox
    obtain ⟨k, hk, rfl, hB1, hA1, hbx, hrx, hx⟩ := hrel
    by_cases hlt : k < q.length
    · obtain ⟨x, hat⟩ : ∃ x, q[k]? = some x := ⟨_, List.getElem?_eq_getElem hlt⟩
      have hcur := flu_at (a := a) hat
      have hstep := flu_step (a := a) hat
      obtain ⟨r0, r1⟩ := ascB_mem H0.out.1 x (List.mem_of_getElem? hat)
      have hcl := (List.getElem?_eq_some_iff.1 hcur).1
      obtain ⟨g, rfl, hg⟩ := own_head hB1 (by omega)
      obtain ⟨y, hy, g0', g1, g2, gf⟩ := own_at_D hB1 hcl
      rw [hcur] at hy
      injection hy with hy
      subst hy
      have hap := own_apart hA1 hB1 (by decide)
      have Hst := Lib.hid (And.intro hstep (And.intro hcur hat))
      have x0 : 0 ≤ x.1 := by omega
      have ne1 : g ≠ g0 := hfo ⟨g, 0, none⟩ rfl
      have ne2 : g ≠ w.heap.size + 1 := by omega
      obtain ⟨b0, b1, b2, b3, bf, bl⟩ := hbx
      clear hcur hstep hat
      by_cases hc : x.1 / 8 = a / 8
      · have hcb : (x.1 / 8 == a / 8) = true := by simpa using hc
        have hH : Hid (fluD a (q.take (k + 1)) ++ q.drop (k + 1) = (fluD a (q.take k) ++ q.drop k).set k (x.1, x.2.1, true)) := Lib.hid (by rw [Hst.out.1, if_pos hc])
        clear hc
        go_wp2_with fail
        go_roundw
        case rel => exact ⟨k + 1, by omega, by go_num, by rw [hH.out]; exact own_set_D2 hB1 Hst.out.2.1 true, own_cellF hA1 hap _ _, (Box4.mk b0 b1 b2 b3 bf bl).far (p := ⟨g, k * 3 + 2, none⟩) ne1 _, hrx.far (p := ⟨g, k * 3 + 2, none⟩) ne2 _, hx.setCell (p := ⟨g, k * 3 + 2, none⟩) (by show w.heap.size ≤ g; omega) _⟩
        case measure => simp [intOf]; omega
      · have hcb : (x.1 / 8 == a / 8) = false := by simpa using hc
        have hH : Hid (fluD a (q.take (k + 1)) ++ q.drop (k + 1) = fluD a (q.take k) ++ q.drop k) := Lib.hid (by rw [Hst.out.1, if_neg hc, set_same Hst.out.2.1])
        clear hc
        go_wp2_with fail
        go_roundw
        case rel => exact ⟨k + 1, by omega, by go_num, by rw [hH.out]; exact hB1, hA1, Box4.mk b0 b1 b2 b3 bf bl, hrx, hx⟩
        case measure => simp [intOf]; omega
    · obtain rfl : k = q.length := by omega
      obtain ⟨b0, b1, b2, b3, bf, bl⟩ := hbx
      obtain ⟨r0, r1, r2, r3, rf, rl⟩ := hrx
      rw [List.take_length, List.drop_length, List.append_nil] at hB1
      go_wp2_with fail
      refine bodyPost_ret (v := .agg #[.slice A1 m.length c1, .slice B1 q.length d1, .int .i64 L, .bool down]) (by simp [results, Try.results60, go_sem, r0, r1, r2, r3]) rfl ?_
      have hA3 := own_set4 hA1 (b := w.heap.size + 1) (by omega) (.slice A1 m.length c1) (.slice B1 q.length d1) (.int .i64 L) (.bool down)
      have hB3 := own_set4 hB1 (b := w.heap.size + 1) (by omega) (.slice A1 m.length c1) (.slice B1 q.length d1) (.int .i64 L) (.bool down)
      exact retW_at rfl (by simp [fluD]) HL.out (own_sl4 hA3) (own_sl4 hB3) (own_new hA3 (by omega)) (own_new hB3 (by omega)) (set4_ext hx (Nat.le_succ _) _ _ _ _)
set_option maxHeartbeats 3200000 in
theorem dRFlushed_0 (m : List Int) (q : List Dw) (down : Bool) (a : Int) (A : Option Addr) (c : Nat) (B : Option Addr) (d : Nat) (w : World) (hA : Sl w A m.length c (fU m)) (hB : Sl w B q.length d (fD q)) (hd : devB m q 0 down = true) :
    Calls Try.prog 60 #[.agg #[.slice A m.length c, .slice B q.length d, .int .i64 0, .bool down], .int .i64 a] w (RetW w (m, q, 0, true)) := by
  have hrx : Box4 ((w.alloc (Obj.cells #[.slice A m.length c, .slice B q.length d, .int .i64 0, .bool down] 25)).alloc (Obj.cells #[.slice none 0 0, .slice none 0 0, .int .i64 0, .bool false] 25)) (w.heap.size + 1) (.slice none 0 0) (.slice none 0 0) (.int .i64 0) (.bool false) := Box4.new' _ _ (by simp) _ _ _ _ _
  obtain ⟨k1, k2, k3, k4, hasc⟩ := devB_bd hd
  have hsz := sizeB_bd k1
  have hql := dirty_le hd
  clear hasc k4 k1 hd
  go_enter Try.func60, Try.ntmps60
  go_wp2_with fail
  refine (dRSpent_any m q 0 down A c B d _ ((hA.alloc _).alloc _) ((hB.alloc _).alloc _) (by omega) (by omega) (by decide)).mono ?_
  rw [spD_0, show (decide ((0 : Int) ≠ 0)) = false from rfl]
  rintro e w1 ⟨A1, c1, B1, d1, rfl, hown1, hown2, hx1⟩
  have hX1 : Ext w w1 := Ext.trans (((Ext.refl w).alloc _).alloc _) hx1
  replace hrx := hrx.ext hx1
  have hs : ((w.alloc (Obj.cells #[.slice A m.length c, .slice B q.length d, .int .i64 0, .bool down] 25)).alloc (Obj.cells #[.slice none 0 0, .slice none 0 0, .int .i64 0, .bool false] 25)).heap.size = w.heap.size + 2 := by simp
  rw [hs] at hown1 hown2
  have hl1 : w.heap.size + 1 < w1.heap.size := hrx.lt
  have hox := Box4.new w1 (.slice A1 m.length c1) (.slice B1 q.length d1) (.int .i64 0) (.bool true) 25
  have hrx2 := hrx.alloc (Obj.cells #[.slice A1 m.length c1, .slice B1 q.length d1, .int .i64 0, .bool true] 25)
  have hX2 := hX1.alloc (Obj.cells #[.slice A1 m.length c1, .slice B1 q.length d1, .int .i64 0, .bool true] 25)
  have hB2 : (w1.alloc (Obj.cells #[.slice A1 m.length c1, .slice B1 q.length d1, .int .i64 0, .bool true] 25)).ownsRow (w.heap.size + 2) 44 3 (.slice B1 q.length d1) q.length (fD q) := hown2.alloc _
  have hA2 : (w1.alloc (Obj.cells #[.slice A1 m.length c1, .slice B1 q.length d1, .int .i64 0, .bool true] 25)).ownsRow (w.heap.size + 2) 26 1 (.slice A1 m.length c1) m.length (fU m) := hown1.alloc _
  clear hx1 hX1 hrx hs hown1 hown2 hA hB
  go_wp2_with fail
  obtain ⟨W2, hW2⟩ : ∃ W, W = w1.alloc (Obj.cells #[.slice A1 m.length c1, .slice B1 q.length d1, .int .i64 0, .bool true] 25) := ⟨_, rfl⟩
  obtain ⟨g0, hg0⟩ : ∃ g, w1.heap.size = g := ⟨_, rfl⟩
  rw [← hW2] at hox hrx2 hX2 hB2 hA2 ⊢
  rw [hg0] at hox hl1 ⊢
  clear hW2 hg0
  go_loopw [7] (fun i wr => i = .int .i64 0 ∧ wr = W2) (fun i _ => 1)
  case atStart => exact ⟨rfl, rfl⟩
  case round =>
    obtain ⟨rfl, rfl⟩ := hrel
    obtain ⟨b0, b1, b2, b3, bf, bl⟩ := hox
    obtain ⟨r0, r1, r2, r3, rf, rl⟩ := hrx2
    cases hqb : decide (0 < q.length)
    all_goals
      go_wp2_with fail
      refine bodyPost_ret (v := .agg #[.slice A1 m.length c1, .slice B1 q.length d1, .int .i64 0, .bool true]) (by simp [results, Try.results60, go_sem, r0, r1, r2, r3]) rfl ?_
      have hA3 := own_set4 hA2 (b := w.heap.size + 1) (by omega) (.slice A1 m.length c1) (.slice B1 q.length d1) (.int .i64 0) (.bool true)
      have hB3 := own_set4 hB2 (b := w.heap.size + 1) (by omega) (.slice A1 m.length c1) (.slice B1 q.length d1) (.int .i64 0) (.bool true)
      exact retW_at rfl rfl rfl (own_sl4 hA3) (own_sl4 hB3) (own_new hA3 (by omega)) (own_new hB3 (by omega)) (set4_ext hX2 (Nat.le_succ _) _ _ _ _)
end Go.Proofs.Ytmmcbleoglgamaa
