/-
  The contract of flushing.
-/
import Derived.Test.YtmmcbleoglgamaaDOwn
namespace Go.Proofs.Ytmmcbleoglgamaa
open Go.RowKit
theorem set_same {α : Type} {l : List α} {k : Nat} {x : α} (h : l[k]? = some x) : l.set k x = l := by
  obtain ⟨hk, rfl⟩ := List.getElem?_eq_some_iff.1 h
  exact List.set_getElem_self hk
set_option maxHeartbeats 3200000 in
theorem dFlush_any (m : List Int) (q : List Dw) (left : Int) (down : Bool) (a : Int) (A : Option Addr) (c : Nat) (B : Option Addr) (d : Nat) (w : World) (hA : Sl w A m.length c (fU m)) (hB : Sl w B q.length d (fD q)) :
    Calls Try.prog 39 #[.agg #[.slice A m.length c, .slice B q.length d, .int .i64 left, .bool down], .int .i64 a] w (RetV w (flushV m q left down a) (askE m q left down a)) := by
  have hbx : Box4 ((w.alloc (Obj.cells #[.slice A m.length c, .slice B q.length d, .int .i64 left, .bool down] 25)).alloc (Obj.cells #[.slice none 0 0, .slice none 0 0, .int .i64 0, .bool false] 25)) w.heap.size (.slice A m.length c) (.slice B q.length d) (.int .i64 left) (.bool down) := (Box4.new w _ _ _ _ _).alloc _
  have hrx : Box4 ((w.alloc (Obj.cells #[.slice A m.length c, .slice B q.length d, .int .i64 left, .bool down] 25)).alloc (Obj.cells #[.slice none 0 0, .slice none 0 0, .int .i64 0, .bool false] 25)) (w.heap.size + 1) (.slice none 0 0) (.slice none 0 0) (.int .i64 0) (.bool false) := Box4.new' _ _ (by simp) _ _ _ _ _
  by_cases h0 : askE m q left down a = 0
  · obtain ⟨hd, a0, a1⟩ := askE_ok h0
    obtain ⟨k1, k2, k3, k4, hasc⟩ := devB_bd hd
    have hsz := sizeB_bd k1
    have hql := dirty_le hd
    have H0 := Lib.hid (And.intro h0 (And.intro hasc k4))
    have hfl : flushV m q left down a = if left = 0 then (m, q, 0, true) else (m, fluD a q, spL left, down) := by simp [flushV, h0]
    rw [hfl, h0]
    clear hd hasc k1 k4 h0 hfl
    by_cases hl : left = 0
    · subst hl
      rw [if_pos rfl]
      go_enter Try.func39, Try.ntmps39
      go_wp2_with fail
      refine (dAsk_any m q 0 down a A c B d _ ((hB.alloc _).alloc _)).mono ?_
      rintro e w1 ⟨rfl, hx1⟩
      rw [H0.out.1]
      replace hbx := hbx.ext hx1
      replace hrx := hrx.ext hx1
      have hX1 : Ext w w1 := Ext.trans (((Ext.refl w).alloc _).alloc _) hx1
      obtain ⟨b0, b1, b2, b3, bf, bl⟩ := hbx
      go_wp2_with fail
      refine (dSpend_any m q 0 down A c B d w1 (hA.ext hX1) (hB.ext hX1) (by omega) (by omega) (by decide)).mono ?_
      rw [spD_0]
      rintro e w2 ⟨A1, c1, B1, d1, rfl, hown1, hown2, hx2⟩
      rw [show (decide ((0 : Int) ≠ 0)) = false from rfl]
      have hX2 := hX1.trans hx2
      have hf1 := own_far (b := w.heap.size) hown1 bl
      have hf2 := own_far (b := w.heap.size) hown2 bl
      have hg1 := own_far (b := w.heap.size + 1) hown1 hrx.lt
      have hg2 := own_far (b := w.heap.size + 1) hown2 hrx.lt
      replace hbx := (Box4.mk b0 b1 b2 b3 bf bl).ext hx2
      replace hrx := hrx.ext hx2
      clear b0 b1 b2 b3 bf bl
      obtain ⟨b0, b1, b2, b3, bf, bl⟩ := hbx
      go_upto_region 5 with fail
      obtain ⟨W2, hW2⟩ : ∃ W2, W2 = ((((w2.setCell ⟨w.heap.size, 0, none⟩ (.slice A1 m.length c1)).setCell ⟨w.heap.size, 1, none⟩ (.slice B1 q.length d1)).setCell ⟨w.heap.size, 2, none⟩ (.int .i64 0)).setCell ⟨w.heap.size, 3, none⟩ (.bool true)) := ⟨_, rfl⟩
      rw [← hW2]
      replace hbx := Box4.set4 (Box4.mk b0 b1 b2 b3 bf bl) (.slice A1 m.length c1) (.slice B1 q.length d1) (.int .i64 0) (.bool true)
      replace hrx := Box4.far4 hrx (g := w.heap.size) (by omega) (.slice A1 m.length c1) (.slice B1 q.length d1) (.int .i64 0) (.bool true)
      have hX3 := set4_ext hX2 (b := w.heap.size) (Nat.le_refl _) (.slice A1 m.length c1) (.slice B1 q.length d1) (.int .i64 0) (.bool true)
      have hA1 := set4_sl (own_sl4 hown1) hf1 (.slice A1 m.length c1) (.slice B1 q.length d1) (.int .i64 0) (.bool true)
      have hB1 := set4_sl (own_sl4 hown2) hf2 (.slice A1 m.length c1) (.slice B1 q.length d1) (.int .i64 0) (.bool true)
      rw [← hW2] at hbx hrx hX3 hA1 hB1
      clear b0 b1 b2 b3 bf bl hW2 hX1 hx1 hX2 hx2 hown1 hown2
      obtain ⟨b0, b1, b2, b3, bf, bl⟩ := hbx
      obtain ⟨r0, r1, r2, r3, rf, rl⟩ := hrx
      go_wp2_with fail
      exact bodyPost_ret (v := .tuple #[.agg #[.slice A1 m.length c1, .slice B1 q.length d1, .int .i64 0, .bool true], .int .i64 0]) (by simp [results, Try.results39, go_sem, r0, r1, r2, r3]) rfl ⟨_, _, _, _, rfl, set4_sl hA1 hg1 _ _ _ _, set4_sl hB1 hg2 _ _ _ _, set4_ext hX3 (Nat.le_succ _) _ _ _ _⟩
    · rw [if_neg hl]
      have hlb : decide (left ≠ 0) = true := decide_eq_true hl
      go_enter Try.func39, Try.ntmps39
      go_wp2_with fail
      refine (dAsk_any m q left down a A c B d _ ((hB.alloc _).alloc _)).mono ?_
      rintro e w1 ⟨rfl, hx1⟩
      rw [H0.out.1]
      replace hbx := hbx.ext hx1
      replace hrx := hrx.ext hx1
      have hX1 : Ext w w1 := Ext.trans (((Ext.refl w).alloc _).alloc _) hx1
      obtain ⟨b0, b1, b2, b3, bf, bl⟩ := hbx
      go_wp2_with fail
      refine (dSpend_any m q left down A c B d w1 (hA.ext hX1) (hB.ext hX1) (by omega) (by omega) k3).mono ?_
      rw [spD_ne hl, hlb]
      rintro e w2 ⟨A1, c1, B1, d1, rfl, hown1, hown2, hx2⟩
      obtain ⟨L, hL⟩ : ∃ L, spL left = L := ⟨_, rfl⟩
      simp only [hL]
      have HL := Lib.hid hL
      clear hL
      have hX2 := hX1.trans hx2
      have hl1 : w.heap.size + 2 ≤ w1.heap.size := hrx.lt
      replace hbx := (Box4.mk b0 b1 b2 b3 bf bl).ext hx2
      replace hrx := hrx.ext hx2
      clear b0 b1 b2 b3 bf bl
      obtain ⟨b0, b1, b2, b3, bf, bl⟩ := hbx
      go_upto_region 5 with fail
      obtain ⟨W2, hW2⟩ : ∃ W2, W2 = ((((w2.setCell ⟨w.heap.size, 0, none⟩ (.slice A1 m.length c1)).setCell ⟨w.heap.size, 1, none⟩ (.slice B1 q.length d1)).setCell ⟨w.heap.size, 2, none⟩ (.int .i64 L)).setCell ⟨w.heap.size, 3, none⟩ (.bool down)) := ⟨_, rfl⟩
      rw [← hW2]
      replace hbx := Box4.set4 (Box4.mk b0 b1 b2 b3 bf bl) (.slice A1 m.length c1) (.slice B1 q.length d1) (.int .i64 L) (.bool down)
      replace hrx := Box4.far4 hrx (g := w.heap.size) (by omega) (.slice A1 m.length c1) (.slice B1 q.length d1) (.int .i64 L) (.bool down)
      have hX3 := set4_ext hX2 (b := w.heap.size) (Nat.le_refl _) (.slice A1 m.length c1) (.slice B1 q.length d1) (.int .i64 L) (.bool down)
      have hA1 := own_set4 (own_base hown1 hl1) (b := w.heap.size) (by omega) (.slice A1 m.length c1) (.slice B1 q.length d1) (.int .i64 L) (.bool down)
      have hB1 := own_set4 (own_base hown2 hl1) (b := w.heap.size) (by omega) (.slice A1 m.length c1) (.slice B1 q.length d1) (.int .i64 L) (.bool down)
      rw [← hW2] at hbx hrx hX3 hA1 hB1
      clear b0 b1 b2 b3 bf bl hW2 hX1 hx1 hX2 hx2 hown1 hown2
      obtain ⟨b0, b1, b2, b3, bf, bl⟩ := hbx
      go_wp2_with fail
      go_loopw [28] (fun i wr => ∃ k : Nat, k ≤ q.length ∧ i = .int .i64 k ∧ wr.ownsRow (w.heap.size + 2) 44 3 (.slice B1 q.length d1) q.length (fD (fluD a (q.take k) ++ q.drop k)) ∧ wr.ownsRow (w.heap.size + 2) 26 1 (.slice A1 m.length c1) m.length (fU m) ∧ Box4 wr w.heap.size (.slice A1 m.length c1) (.slice B1 q.length d1) (.int .i64 L) (.bool down) ∧ Box4 wr (w.heap.size + 1) (.slice none 0 0) (.slice none 0 0) (.int .i64 0) (.bool false) ∧ Ext w wr) (fun i _ => q.length - (intOf i).toNat)
      case atStart => exact ⟨0, Nat.zero_le _, rfl, hB1, hA1, ⟨b0, b1, b2, b3, bf, bl⟩, hrx, hX3⟩
      case round =>
        clear b0 b1 b2 b3 bf bl hX3 hrx hA1 hB1
        obtain ⟨k, hk, rfl, hB1, hA1, hbx, hrx, hx⟩ := hrel
        by_cases hlt : k < q.length
        · obtain ⟨x, hat⟩ : ∃ x, q[k]? = some x := ⟨_, List.getElem?_eq_getElem hlt⟩
          have hcur := flu_at (a := a) hat
          have hstep := flu_step (a := a) hat
          obtain ⟨r0, r1⟩ := ascB_mem H0.out.2.1 x (List.mem_of_getElem? hat)
          have hcl := (List.getElem?_eq_some_iff.1 hcur).1
          obtain ⟨g, rfl, hg⟩ := own_head hB1 (by omega)
          obtain ⟨y, hy, g0, g1, g2, gf⟩ := own_at_D hB1 hcl
          rw [hcur] at hy
          injection hy with hy
          subst hy
          have hap := own_apart hA1 hB1 (by decide)
          have gl := block_lt_of_cell g0
          simp only at gl
          have Hst := Lib.hid (And.intro hstep (And.intro hcur hat))
          have i0 : (0 : Int) ≤ k := by omega
          have i1 : (k : Int) < q.length := by omega
          have x0 : 0 ≤ x.1 := by omega
          have ne1 : g ≠ w.heap.size := by omega
          have ne2 : g ≠ w.heap.size + 1 := by omega
          obtain ⟨b0, b1, b2, b3, bf, bl⟩ := hbx
          clear hcur hstep hat
          by_cases hc : x.1 / 8 = a / 8
          · have hcb : (x.1 / 8 == a / 8) = true := by simpa using hc
            have hH : Hid (fluD a (q.take (k + 1)) ++ q.drop (k + 1) = (fluD a (q.take k) ++ q.drop k).set k (x.1, x.2.1, true)) := Lib.hid (by rw [Hst.out.1, if_pos hc])
            clear hc
            go_wp2_with fail
            go_roundw
            case rel =>
              refine ⟨k + 1, by omega, by go_num, ?_, ?_, ?_, ?_, ?_⟩
              · rw [hH.out]
                first | exact own_set_D2 (hB1.alloc _) Hst.out.2.1 true | exact (own_set_D2 hB1 Hst.out.2.1 true).alloc _
              · first | exact own_cellF (hA1.alloc _) hap _ _ | exact (own_cellF hA1 hap _ _).alloc _
              · first | exact ((Box4.mk b0 b1 b2 b3 bf bl).alloc _).far (p := ⟨g, k * 3 + 2, none⟩) ne1 _ | exact ((Box4.mk b0 b1 b2 b3 bf bl).far (p := ⟨g, k * 3 + 2, none⟩) ne1 _).alloc _
              · first | exact (hrx.alloc _).far (p := ⟨g, k * 3 + 2, none⟩) ne2 _ | exact (hrx.far (p := ⟨g, k * 3 + 2, none⟩) ne2 _).alloc _
              · first | exact (hx.alloc _).setCell (p := ⟨g, k * 3 + 2, none⟩) (by show w.heap.size ≤ g; omega) _ | exact (hx.setCell (p := ⟨g, k * 3 + 2, none⟩) (by show w.heap.size ≤ g; omega) _).alloc _
            case measure => simp [intOf]; omega
          · have hcb : (x.1 / 8 == a / 8) = false := by simpa using hc
            have hH : Hid (fluD a (q.take (k + 1)) ++ q.drop (k + 1) = fluD a (q.take k) ++ q.drop k) := Lib.hid (by rw [Hst.out.1, if_neg hc, set_same Hst.out.2.1])
            clear hc
            go_wp2_with fail
            go_roundw
            case rel => exact ⟨k + 1, by omega, by go_num, by rw [hH.out]; exact hB1.alloc _, hA1.alloc _, (Box4.mk b0 b1 b2 b3 bf bl).alloc _, hrx.alloc _, hx.alloc _⟩
            case measure => simp [intOf]; omega
        · obtain rfl : k = q.length := by omega
          rw [List.take_length, List.drop_length, List.append_nil] at hB1
          obtain ⟨b0, b1, b2, b3, bf, bl⟩ := hbx
          obtain ⟨r0, r1, r2, r3, rf, rl⟩ := hrx
          have hg1 := own_far (b := w.heap.size + 1) hA1 (by omega)
          have hg2 := own_far (b := w.heap.size + 1) hB1 (by omega)
          have hfl := fluD_length a q
          have HF := Lib.hid hfl
          have HA1 := own_sl4 hA1
          have HB1 := own_sl4 hB1
          clear hfl hA1 hB1
          go_wp2_with fail
          refine bodyPost_ret (v := .tuple #[.agg #[.slice A1 m.length c1, .slice B1 q.length d1, .int .i64 L, .bool down], .int .i64 0]) (by simp [results, Try.results39, go_sem, r0, r1, r2, r3]) rfl ?_
          exact retV_at rfl HF.out HL.out (set4_sl HA1 hg1 _ _ _ _) (set4_sl HB1 hg2 _ _ _ _) (set4_ext hx (Nat.le_succ _) _ _ _ _)
  · have hz : flushV m q left down a = zeroV := by simp [flushV, h0]
    rw [hz]
    have hb : (askE m q left down a != 0) = true := by simpa using h0
    clear hz
    go_enter Try.func39, Try.ntmps39
    go_wp2_with fail
    refine (dAsk_any m q left down a A c B d _ ((hB.alloc _).alloc _)).mono ?_
    rintro e w1 ⟨rfl, hx1⟩
    replace hrx := hrx.ext hx1
    have hX1 : Ext w w1 := Ext.trans (((Ext.refl w).alloc _).alloc _) hx1
    obtain ⟨r0, r1, r2, r3, rf, rl⟩ := hrx
    clear hbx
    go_wp2_with fail
    exact bodyPost_ret (v := .tuple #[.agg #[.slice none 0 0, .slice none 0 0, .int .i64 0, .bool false], .int .i64 (askE m q left down a)]) (by simp [results, Try.results39, go_sem, r0, r1, r2, r3]) rfl (retV_zero (set4_ext hX1 (Nat.le_succ _) _ _ _ _))
end Go.Proofs.Ytmmcbleoglgamaa
