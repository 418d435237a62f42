/-
  The contracts of the reference's crashes.
-/
import Derived.Test.YtmmcbleoglgamaaCrash
namespace Go.Proofs.Ytmmcbleoglgamaa
open Go.RowKit
/-- The call returned a device. -/
def RetW (w0 : World) (D : Dev4) (en : Ending) (w' : World) : Prop :=
  ∃ A c B k, en = .returned (.agg #[.slice A D.1.length c, .slice B D.2.1.length k, .int .i64 D.2.2.1, .bool D.2.2.2]) ∧ Sl w' A D.1.length c (fU D.1) ∧ Sl w' B D.2.1.length k (fD D.2.1) ∧ (∀ ad, A = some ad → w0.heap.size ≤ ad.block) ∧ (∀ ad, B = some ad → w0.heap.size ≤ ad.block) ∧ Ext w0 w'
theorem retW_at {w0 w' : World} {m : List Int} {q : List Dw} {left : Int} {down : Bool} {n k : Nat} {L : Int} {A B : Option Addr} {c d : Nat} (hm : m.length = n) (hq : q.length = k) (hl : left = L) (hA : Sl w' A n c (fU m)) (hB : Sl w' B k d (fD q)) (nA : ∀ ad, A = some ad → w0.heap.size ≤ ad.block) (nB : ∀ ad, B = some ad → w0.heap.size ≤ ad.block) (hx : Ext w0 w') :
    RetW w0 (m, q, left, down) (.returned (.agg #[.slice A n c, .slice B k d, .int .i64 L, .bool down])) w' := by
  subst hm hq hl
  exact ⟨A, c, B, d, rfl, hA, hB, nA, nB, hx⟩
theorem own_new {w : World} {base b : Nat} {e : TypeId} {size n : Nat} {A : Option Addr} {c : Nat} {xs : List Value} (h : w.ownsRow base e size (.slice A n c) n xs) (hb : b ≤ base) : ∀ ad, A = some ad → b ≤ ad.block := by
  rintro ad rfl
  have := (h.lt ad.block rfl).1
  omega
set_option maxRecDepth 100000 in
set_option maxHeartbeats 3200000 in
theorem dCrashed_any (m : List Int) (q : List Dw) (left : Int) (down : Bool) (mask : Int) (A : Option Addr) (c : Nat) (B : Option Addr) (d : Nat) (w : World) (hA : Sl w A m.length c (fU m)) (hB : Sl w B q.length d (fD q)) (hm : InU mask) (hd : devB m q left down = true) :
    Calls Try.prog 50 #[.agg #[.slice A m.length c, .slice B q.length d, .int .i64 left, .bool down], .int .u64 mask] w (RetW w (crM mask 0 m q, [], -1, false)) := by
  have hbx : Box4 ((w.alloc (Obj.cells #[.slice A m.length c, .slice B q.length d, .int .i64 left, .bool down] 25)).alloc (Obj.cells #[.slice none 0 0, .slice none 0 0, .int .i64 0, .bool false] 25)) w.heap.size (.slice A m.length c) (.slice B q.length d) (.int .i64 left) (.bool down) := (Box4.new w _ _ _ _ _).alloc _
  have hrx : Box4 ((w.alloc (Obj.cells #[.slice A m.length c, .slice B q.length d, .int .i64 left, .bool down] 25)).alloc (Obj.cells #[.slice none 0 0, .slice none 0 0, .int .i64 0, .bool false] 25)) (w.heap.size + 1) (.slice none 0 0) (.slice none 0 0) (.int .i64 0) (.bool false) := Box4.new' _ _ (by simp) _ _ _ _ _
  obtain ⟨k1, k2, k3, k4, hasc⟩ := devB_bd hd
  have hsz := sizeB_bd k1
  have hql := dirty_le hd
  have H0 := Lib.hid hasc
  clear hd hasc k1 k4
  go_enter Try.func50, Try.ntmps50
  go_wp2_with fail
  refine (dRTwin_any m q left down A c B d _ ((hA.alloc _).alloc _) ((hB.alloc _).alloc _) (by omega) (by omega)).mono ?_
  rintro e w1 ⟨A1, c1, B1, d1, rfl, hown1, hown2, hx1⟩
  have hX1 : Ext w w1 := Ext.trans (((Ext.refl w).alloc _).alloc _) hx1
  replace hbx := hbx.ext hx1
  replace hrx := hrx.ext hx1
  have hl1 := hrx.lt
  have hlt1 := fun ad h => (hown1.lt ad h)
  go_upto_region 2 with fail
  obtain ⟨W2, hW2⟩ : ∃ W2, W2 = w1.alloc (Obj.cells #[.slice A1 m.length c1, .slice B1 q.length d1, .int .i64 left, .bool down] 25) := ⟨_, rfl⟩
  rw [← hW2]
  have hox := Box4.new w1 (.slice A1 m.length c1) (.slice B1 q.length d1) (.int .i64 left) (.bool down) 25
  have hx2 := (Ext.refl w1).alloc (Obj.cells #[.slice A1 m.length c1, .slice B1 q.length d1, .int .i64 left, .bool down] 25)
  rw [← hW2] at hox hx2
  replace hbx := hbx.ext hx2
  replace hrx := hrx.ext hx2
  have hX2 := hX1.trans hx2
  have hhi := own_ne_hi hown1 (Nat.le_refl _)
  replace hown1 := own_base (own_ext hown1 hx2) (base' := w.heap.size + 2) (by simp)
  obtain ⟨g0, hg0⟩ : ∃ g0, w1.heap.size = g0 := ⟨_, rfl⟩
  rw [hg0] at hox hl1 hhi ⊢
  obtain ⟨g, rfl, hg⟩ := own_head hown1 (by omega)
  have ne0 : g ≠ g0 := hhi _ rfl
  have ne3 : g0 ≠ w.heap.size := by omega
  have ne4 : g0 ≠ w.heap.size + 1 := by omega
  clear hW2 hX1 hx1 hx2 hg0 hlt1 hhi hown2
  go_wp2_with fail
  go_loopw [6] (fun i wr => ∃ k : Nat, k ≤ q.length ∧ i = .int .i64 k ∧ wr.ownsRow (w.heap.size + 2) 26 1 (.slice (some ⟨g, 0, none⟩) m.length c1) m.length (fU (crM mask 0 m (q.take k))) ∧ Box4 wr w.heap.size (.slice A m.length c) (.slice B q.length d) (.int .i64 left) (.bool down) ∧ Box4 wr (w.heap.size + 1) (.slice none 0 0) (.slice none 0 0) (.int .i64 0) (.bool false) ∧ Box4 wr g0 (.slice (some ⟨g, 0, none⟩) m.length c1) (.slice B1 q.length d1) (.int .i64 left) (.bool down) ∧ Ext w wr) (fun i _ => q.length - (intOf i).toNat)
  case atStart => exact ⟨0, Nat.zero_le _, rfl, hown1, hbx, hrx, hox, hX2⟩
  case round =>
    clear hbx hrx hox hX2 hown1
    obtain ⟨k, hk, rfl, hown, hbx, hrx, hox, hx⟩ := hrel
    obtain ⟨b0, b1, b2, b3, bf, bl⟩ := hbx
    by_cases hlt : k < q.length
    · obtain ⟨ad', x, rfl, hat, p0, p1, p2⟩ := (hB.ext hx).d_at hlt
      obtain ⟨x0, x1⟩ := ascB_mem H0.out x (List.mem_of_getElem? hat)
      have hlen := crM_length mask (q.take k) 0 m
      have hstep := crM_take (mask := mask) (m := m) hat
      have hke := refKeep_any mask k wr hm (by omega)
      have HK := Lib.hid hke
      clear hke
      cases hb : kpB mask k with
      | true =>
        rw [hb, if_pos rfl] at hstep
        obtain ⟨y, hy, hc, hf⟩ := own_at_U hown (i := x.1.toNat) (by rw [hlen]; omega)
        have hgl := block_lt_of_cell hc
        simp only at hgl
        have Hst := Lib.hid (And.intro hstep hb)
        have i0 : 0 ≤ x.1 := by omega
        have i1 : (0 : Int) ≤ k := by omega
        have i2 : (k : Int) < q.length := by omega
        have ne1 : g ≠ w.heap.size := by omega
        have ne2 : g ≠ w.heap.size + 1 := by omega
        obtain ⟨o0, o1, o2, o3, of, ol⟩ := hox
        clear hat hy hstep hlen hb
        go_wp2_with (refine HK.out.mono ?_; rintro e w' ⟨rfl, rfl⟩; rw [Hst.out.2])
        go_region
        go_wp2_with fail
        go_roundw
        case rel =>
          refine ⟨k + 1, by omega, by go_num, ?_, ?_, ?_, ?_, ?_⟩
          · rw [Hst.out.1]
            exact own_set_U hown _ _
          · exact ((Box4.mk b0 b1 b2 b3 bf bl).far (p := ⟨g, x.1.toNat, none⟩) ne1 _).ext (by repeat (first | assumption | exact Ext.refl _ | refine Ext.drewN ?_ _ | refine Ext.drew ?_ | refine Ext.alloc ?_ _ | refine Ext.trans ?_ (by assumption)))
          · exact (hrx.far (p := ⟨g, x.1.toNat, none⟩) ne2 _).ext (by repeat (first | assumption | exact Ext.refl _ | refine Ext.drewN ?_ _ | refine Ext.drew ?_ | refine Ext.alloc ?_ _ | refine Ext.trans ?_ (by assumption)))
          · exact ((Box4.mk o0 o1 o2 o3 of ol).far (p := ⟨g, x.1.toNat, none⟩) ne0 _).ext (by repeat (first | assumption | exact Ext.refl _ | refine Ext.drewN ?_ _ | refine Ext.drew ?_ | refine Ext.alloc ?_ _ | refine Ext.trans ?_ (by assumption)))
          · exact (hx.setCell (p := ⟨g, x.1.toNat, none⟩) (by show w.heap.size ≤ g; omega) _).drew
        case measure => simp [intOf]; omega
      | false =>
        rw [hb, if_neg (by decide)] at hstep
        have Hst := Lib.hid (And.intro hstep hb)
        clear hat hstep hlen hb
        go_wp2_with (refine HK.out.mono ?_; rintro e w' ⟨rfl, rfl⟩; rw [Hst.out.2])
        go_roundw
        case rel => exact ⟨k + 1, by omega, by go_num, by rw [Hst.out.1]; exact hown, ⟨b0, b1, b2, b3, bf, bl⟩, hrx, hox, hx⟩
        case measure => simp [intOf]; omega
    · obtain rfl : k = q.length := by omega
      rw [List.take_length] at hown
      have hcl := crM_length mask q 0 m
      have HF := Lib.hid hcl
      have hg1 := own_far (b := w.heap.size + 1) hown (by omega)
      have HA := own_sl4 hown
      have hnA := own_new hown (b := w.heap.size) (by omega)
      obtain ⟨r0, r1, r2, r3, rf, rl⟩ := hrx
      obtain ⟨o0, o1, o2, o3, of, ol⟩ := hox
      clear hcl hown
      go_wp2_with fail
      refine bodyPost_ret (v := .agg #[.slice (some ⟨g, 0, none⟩) m.length c1, .slice none 0 0, .int .i64 (-1), .bool false]) (by simp [results, Try.results50, go_sem, r0, r1, r2, r3]) rfl ?_
      exact retW_at HF.out rfl rfl (set4_sl HA hg1 _ _ _ _) (Sl.nil_ _) hnA (fun _ h => by cases h) (set4_ext hx (Nat.le_succ _) _ _ _ _)
set_option maxHeartbeats 3200000 in
theorem dRCrash_any (m : List Int) (q : List Dw) (left : Int) (down : Bool) (mask : Int) (A : Option Addr) (c : Nat) (B : Option Addr) (d : Nat) (w : World) (hA : Sl w A m.length c (fU m)) (hB : Sl w B q.length d (fD q)) (hm : InU mask) :
    Calls Try.prog 29 #[.agg #[.slice A m.length c, .slice B q.length d, .int .i64 left, .bool down], .int .u64 mask] w (RetV w (crashV m q left down mask) (devE m q left down)) := by
  have hbx : Box4 ((w.alloc (Obj.cells #[.slice A m.length c, .slice B q.length d, .int .i64 left, .bool down] 25)).alloc (Obj.cells #[.slice none 0 0, .slice none 0 0, .int .i64 0, .bool false] 25)) w.heap.size (.slice A m.length c) (.slice B q.length d) (.int .i64 left) (.bool down) := (Box4.new w _ _ _ _ _).alloc _
  have hrx : Box4 ((w.alloc (Obj.cells #[.slice A m.length c, .slice B q.length d, .int .i64 left, .bool down] 25)).alloc (Obj.cells #[.slice none 0 0, .slice none 0 0, .int .i64 0, .bool false] 25)) (w.heap.size + 1) (.slice none 0 0) (.slice none 0 0) (.int .i64 0) (.bool false) := Box4.new' _ _ (by simp) _ _ _ _ _
  cases hd : devB m q left down with
  | false =>
    have h0 := devE_no hd
    have hv : crashV m q left down mask = zeroV := by simp [crashV, h0]
    rw [hv, h0]
    have H0 := Lib.hid h0
    clear h0 hv hd hbx
    go_enter Try.func29, Try.ntmps29
    go_wp2_with fail
    refine (dRefCk_any m q left down A c B d _ ((hB.alloc _).alloc _)).mono ?_
    rintro e w1 ⟨rfl, hx1⟩
    rw [H0.out]
    replace hrx := hrx.ext hx1
    have hX1 : Ext w w1 := Ext.trans (((Ext.refl w).alloc _).alloc _) hx1
    obtain ⟨r0, r1, r2, r3, rf, rl⟩ := hrx
    go_wp2_with fail
    exact bodyPost_ret (v := .tuple #[.agg #[.slice none 0 0, .slice none 0 0, .int .i64 0, .bool false], .int .i64 8]) (by simp [results, Try.results29, go_sem, r0, r1, r2, r3]) rfl (retV_zero (set4_ext hX1 (Nat.le_succ _) _ _ _ _))
  | true =>
    have h0 := devE_yes hd
    have hv : crashV m q left down mask = (crM mask 0 m q, [], -1, false) := by simp [crashV, h0]
    rw [hv, h0]
    have H0 := Lib.hid (And.intro h0 hd)
    have hcl := crM_length mask q 0 m
    clear h0 hv hd
    go_enter Try.func29, Try.ntmps29
    go_wp2_with fail
    refine (dRefCk_any m q left down A c B d _ ((hB.alloc _).alloc _)).mono ?_
    rintro e w1 ⟨rfl, hx1⟩
    rw [H0.out.1]
    replace hbx := hbx.ext hx1
    replace hrx := hrx.ext hx1
    have hX1 : Ext w w1 := Ext.trans (((Ext.refl w).alloc _).alloc _) hx1
    obtain ⟨b0, b1, b2, b3, bf, bl⟩ := hbx
    go_wp2_with fail
    refine (dCrashed_any m q left down mask A c B d w1 (hA.ext hX1) (hB.ext hX1) hm H0.out.2).mono ?_
    rintro e w2 ⟨A2, c2, B2, d2, rfl, hA2, hB2, nA2, nB2, hx2⟩
    have hl := hrx.lt
    have fA : ∀ ad, A2 = some ad → ad.block ≠ w.heap.size + 1 := fun ad h => by have := nA2 ad h; omega
    have fB : ∀ ad, B2 = some ad → ad.block ≠ w.heap.size + 1 := fun ad h => by have := nB2 ad h; omega
    replace hrx := hrx.ext hx2
    have hX2 := hX1.trans hx2
    simp only [hcl] at hA2 ⊢
    have HL := Lib.hid hcl
    obtain ⟨r0, r1, r2, r3, rf, rl⟩ := hrx
    clear b0 b1 b2 b3 bf bl nA2 nB2 hcl
    go_wp2_with fail
    refine bodyPost_ret (v := .tuple #[.agg #[.slice A2 m.length c2, .slice B2 0 d2, .int .i64 (-1), .bool false], .int .i64 0]) (by simp [results, Try.results29, go_sem, r0, r1, r2, r3]) rfl ?_
    exact retV_at HL.out rfl rfl (set4_sl hA2 fA _ _ _ _) (set4_sl hB2 fB _ _ _ _) (set4_ext hX2 (Nat.le_succ _) _ _ _ _)
end Go.Proofs.Ytmmcbleoglgamaa
