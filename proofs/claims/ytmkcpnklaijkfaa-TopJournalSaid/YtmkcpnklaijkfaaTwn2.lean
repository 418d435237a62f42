/-
  twin.Read on an image of the right size.
-/
import Derived.Test.YtmkcpnklaijkfaaTwn
namespace Go.Proofs.Ytmkcpnklaijkfaa
open Go.RowKit
theorem Box2.set0 {w : World} {b : Nat} {v0 v1 : Value} (h : Box2 w b v0 v1) (u : Value) : Box2 (w.setCell ⟨b, 0, none⟩ u) b u v1 :=
  ⟨cell_same h.c0, by rw [cell_other (by simp)]; exact h.c1, fun o => by rw [World.frozen?_setCell]; exact h.fz o, by simpa using h.lt⟩
theorem Box2.set1 {w : World} {b : Nat} {v0 v1 : Value} (h : Box2 w b v0 v1) (u : Value) : Box2 (w.setCell ⟨b, 1, none⟩ u) b v0 u :=
  ⟨by rw [cell_other (by simp)]; exact h.c0, cell_same h.c1, fun o => by rw [World.frozen?_setCell]; exact h.fz o, by simpa using h.lt⟩
/-- What is read of an image's two copies. -/
def twF (m : List Int) (i : Nat) : Int := if rtB m 0 then fnS m 0 i else if rtB m 8 then fnS m 8 i else 0
def twE (m : List Int) : Int := if rtB m 0 || rtB m 8 then 0 else 50
/-- What the loop has found behind k rounds. -/
def TwS (wr : World) (m : List Int) (gF gK : Nat) (k : Nat) : Prop :=
  Box4 wr gF (.int .i64 (if 1 ≤ k then fnS m 0 2 else 0)) (.int .i64 (if 1 ≤ k then fnS m 0 3 else 0)) (.int .i64 (if 2 ≤ k then fnS m 8 2 else 0)) (.int .i64 (if 2 ≤ k then fnS m 8 3 else 0)) ∧ Box2 wr gK (.bool (decide (1 ≤ k) && rtB m 0)) (.bool (decide (2 ≤ k) && rtB m 8))
theorem TwS.zero {wr : World} {m : List Int} {gF gK : Nat} : TwS wr m gF gK 0 ↔ Box4 wr gF (.int .i64 0) (.int .i64 0) (.int .i64 0) (.int .i64 0) ∧ Box2 wr gK (.bool false) (.bool false) := by simp [TwS]
theorem TwS.one {wr : World} {m : List Int} {gF gK : Nat} : TwS wr m gF gK 1 ↔ Box4 wr gF (.int .i64 (fnS m 0 2)) (.int .i64 (fnS m 0 3)) (.int .i64 0) (.int .i64 0) ∧ Box2 wr gK (.bool (rtB m 0)) (.bool false) := by simp [TwS]
theorem TwS.two {wr : World} {m : List Int} {gF gK : Nat} : TwS wr m gF gK 2 ↔ Box4 wr gF (.int .i64 (fnS m 0 2)) (.int .i64 (fnS m 0 3)) (.int .i64 (fnS m 8 2)) (.int .i64 (fnS m 8 3)) ∧ Box2 wr gK (.bool (rtB m 0)) (.bool (rtB m 8)) := by simp [TwS]
set_option maxRecDepth 100000 in
set_option maxHeartbeats 12800000 in
theorem twRead_any (m : List Int) (A : Option Addr) (c : Nat) (w : World) (hA : Sl w A m.length c (fU m)) (hs : sizeB m.length = true) :
    Calls Try.prog 35 #[.slice A m.length c] w fun e w' => e = .returned (.tuple #[.agg #[.int .i64 (twF m 2), .int .i64 (twF m 3)], .agg #[.bool (rtB m 0), .bool (rtB m 8)], .int .i64 (twE m)]) ∧ Ext w w' := by
  have hi : imgE (m.length : Int) = 0 := by simp [imgE, hs]
  have hsz := sizeB_bd hs
  have hR := (((Box2.new w (.int .i64 0) (.int .i64 0) 28).ext ((Ext.refl _).alloc (Obj.cells #[.bool false, .bool false] 53))).ext ((Ext.refl _).alloc (Obj.cells #[.int .i64 0, .int .i64 0, .int .i64 0, .int .i64 0] 116))).ext ((Ext.refl _).alloc (Obj.cells #[.bool false, .bool false] 53))
  have hT := ((Box2.new (w.alloc (Obj.cells #[.int .i64 0, .int .i64 0] 28)) (.bool false) (.bool false) 53).ext ((Ext.refl _).alloc (Obj.cells #[.int .i64 0, .int .i64 0, .int .i64 0, .int .i64 0] 116))).ext ((Ext.refl _).alloc (Obj.cells #[.bool false, .bool false] 53))
  have hF := (Box4.new ((w.alloc (Obj.cells #[.int .i64 0, .int .i64 0] 28)).alloc (Obj.cells #[.bool false, .bool false] 53)) (.int .i64 0) (.int .i64 0) (.int .i64 0) (.int .i64 0) 116).ext ((Ext.refl _).alloc (Obj.cells #[.bool false, .bool false] 53))
  have hK := Box2.new (((w.alloc (Obj.cells #[.int .i64 0, .int .i64 0] 28)).alloc (Obj.cells #[.bool false, .bool false] 53)).alloc (Obj.cells #[.int .i64 0, .int .i64 0, .int .i64 0, .int .i64 0] 116)) (.bool false) (.bool false) 53
  have hxW : Ext w ((((w.alloc (Obj.cells #[.int .i64 0, .int .i64 0] 28)).alloc (Obj.cells #[.bool false, .bool false] 53)).alloc (Obj.cells #[.int .i64 0, .int .i64 0, .int .i64 0, .int .i64 0] 116)).alloc (Obj.cells #[.bool false, .bool false] 53)) := ((((Ext.refl w).alloc _).alloc _).alloc _).alloc _
  simp only [World.size_alloc] at hR hT hF hK
  have HQ := Lib.hid (And.intro hR (And.intro hT (And.intro hF (And.intro hK hxW))))
  clear hR hT hF hK hxW
  obtain ⟨ad, _, rfl, _, _⟩ := hA.u_at (k := 0) (by omega)
  have hle := hA.le
  have hmx := hA.max
  unfold maxLen at hmx
  have hc8 : ¬ c = 8 := by omega
  have h0 := fun W (h : Sl W (some ad) m.length c (fU m)) => rd_at0 m (by omega) (some ad) c W h
  have h8 : ∀ W, Sl W (some ad) m.length c (fU m) → Calls Try.prog 34 #[.slice (some (ad.add 8)) 8 (c - 8)] W fun e w' => e = .returned (.tuple #[.agg #[.int .i64 (fnS m 8 2), .int .i64 (fnS m 8 3)], .int .i64 (if rtS m 8 then 0 else 50)]) ∧ Ext W w' := fun W h => by
    have := rd_at8 m (by omega) (some ad) c W h
    rwa [if_neg hc8] at this
  have HH := Lib.hid (And.intro h0 (And.intro h8 hA))
  clear h0 h8 hA hs
  have hix0 : ∀ w, (Instr.index 114 (.agg #[.int .i64 0, .int .i64 8]) (.int .i64 0)).run Try.prog w = .ok (.int .i64 0) w := fun w => by kernel_rfl
  have hix1 : ∀ w, (Instr.index 114 (.agg #[.int .i64 0, .int .i64 8]) (.int .i64 1)).run Try.prog w = .ok (.int .i64 8) w := fun w => by kernel_rfl
  go_enter Try.func35, Try.ntmps35
  go_wp2_with fail
  refine (imageCheck_any _ _ _ _).mono ?_
  rintro e w1 ⟨rfl, rfl⟩
  go_wp2_with fail
  refine (twStarts_any _).mono ?_
  rintro e w2 ⟨rfl, hx2⟩
  have hR := HQ.out.1.ext hx2
  have hT := HQ.out.2.1.ext hx2
  have hF := HQ.out.2.2.1.ext hx2
  have hK := HQ.out.2.2.2.1.ext hx2
  have hxW := HQ.out.2.2.2.2.trans hx2
  clear hx2 HQ
  go_wp2_with fail
  obtain ⟨gK, hgK⟩ : ∃ g, w.heap.size + 1 + 1 + 1 = g := ⟨_, rfl⟩
  have loK : w.heap.size ≤ gK := by omega
  rw [hgK] at hK ⊢
  obtain ⟨gF, hgF⟩ : ∃ g, w.heap.size + 1 + 1 = g := ⟨_, rfl⟩
  have loF : w.heap.size ≤ gF := by omega
  have ne1 : gF ≠ gK := by omega
  rw [hgF] at hF ⊢
  obtain ⟨gT, hgT⟩ : ∃ g, w.heap.size + 1 = g := ⟨_, rfl⟩
  have loT : w.heap.size ≤ gT := by omega
  have ne2 : gT ≠ gF := by omega
  have ne3 : gT ≠ gK := by omega
  rw [hgT] at hT ⊢
  obtain ⟨gR, hgR⟩ : ∃ g, w.heap.size = g := ⟨_, rfl⟩
  have loR : w.heap.size ≤ gR := by omega
  have ne4 : gR ≠ gF := by omega
  have ne5 : gR ≠ gK := by omega
  have ne6 : gR ≠ gT := by omega
  rw [hgR] at hR
  simp only [hgR]
  have H := Lib.hid (And.intro hR (And.intro hT (And.intro (TwS.zero (m := m).2 ⟨hF, hK⟩) hxW)))
  clear hR hT hF hK hxW hgK hgF hgT hgR
  go_loopw [20] (fun v wr => ∃ k : Nat, k ≤ 2 ∧ v = .int .i64 k ∧ Box2 wr gR (.int .i64 0) (.int .i64 0) ∧ Box2 wr gT (.bool false) (.bool false) ∧ TwS wr m gF gK k ∧ Ext w wr) (fun v _ => 2 - (intOf v).toNat)
  case atStart => exact ⟨0, by omega, rfl, H.out⟩
  case round =>
    clear H
    obtain ⟨k, hk, rfl, hR, hT, hS, hX⟩ := hrel
    rcases (by omega : k = 0 ∨ k = 1 ∨ k = 2) with rfl | rfl | rfl
    · have HS := Lib.hid (And.intro hR (And.intro hT (And.intro (TwS.zero.1 hS) hX)))
      clear hR hT hS hX
      rw [show ((0 : Nat) : Int) = 0 from rfl]
      go_wp2_with fail
      refine (HH.out.1 _ (HH.out.2.2.ext HS.out.2.2.2)).mono ?_
      rintro e w3 ⟨rfl, hx3⟩
      have hxw := HS.out.2.2.2.trans hx3
      obtain ⟨a, ha⟩ : ∃ a, fnS m 0 2 = a := ⟨_, rfl⟩
      obtain ⟨b, hb⟩ : ∃ b, fnS m 0 3 = b := ⟨_, rfl⟩
      have hBF := (HS.out.2.2.1.1.ext hx3).alloc (Obj.cells #[.int .i64 a, .int .i64 b] 28)
      have hBK := (HS.out.2.2.1.2.ext hx3).ext ((Ext.refl _).alloc (Obj.cells #[.int .i64 a, .int .i64 b] 28))
      have hBS := Box2.new w3 (.int .i64 a) (.int .i64 b) 28
      have hxx := (Ext.refl w3).alloc (Obj.cells #[.int .i64 a, .int .i64 b] 28)
      have nF : gF < w3.heap.size := (HS.out.2.2.1.1.ext hx3).lt
      have nK : gK < w3.heap.size := (HS.out.2.2.1.2.ext hx3).lt
      rw [ha, hb]
      have HAB := Lib.hid (And.intro ha hb)
      have HX := Lib.hid (And.intro (hx3.trans hxx) (hxw.trans hxx))
      clear ha hb hx3 hxw hxx
      obtain ⟨W4, hW4⟩ : ∃ W, W = w3.alloc (Obj.cells #[.int .i64 a, .int .i64 b] 28) := ⟨_, rfl⟩
      cases hr : rtS m 0 with
      | true =>
        rw [if_pos rfl]
        have hRT : rtB m 0 = (a == (m.length : Int)) := by rw [rtB, hr, Bool.true_and, ← HAB.out.1, fnS, if_pos hr]
        obtain ⟨r, hrr⟩ : ∃ r, (a == (m.length : Int)) = r := ⟨_, rfl⟩
        rw [hrr] at hRT
        have HRT := Lib.hid hRT
        clear hr hRT
        go_upto_region 10 with fail
        rw [← hW4] at hBF hBK hBS HX ⊢
        obtain ⟨gS, hgS⟩ : ∃ g, w3.heap.size = g := ⟨_, rfl⟩
        rw [hgS] at hBS nF nK ⊢
        have m1 : gF ≠ gS := by omega
        have m2 : gK ≠ gS := by omega
        have m3 := Ne.symm m1
        have m4 := Ne.symm m2
        have m5 := Ne.symm ne1
        clear hW4 hgS
        have HB := Lib.hid (And.intro hBF hBK)
        obtain ⟨f0, f1, f2, f3, ff, fl⟩ := hBF
        obtain ⟨k0, k1, kf, kl⟩ := hBK
        obtain ⟨s0, s1, sf, sl⟩ := hBS
        go_region
        all_goals
          go_wp2_with fail
          go_roundw
          case rel =>
            refine ⟨1, by omega, by go_num, ?_, ?_, TwS.one.2 ⟨?_, ?_⟩, ?_⟩
            · exact (((((HS.out.1.ext HX.out.1).far (p := ⟨gF, 0, none⟩) (Ne.symm ne4) _).far (p := ⟨gF, 1, none⟩) (Ne.symm ne4) _).far (p := ⟨gK, 0, none⟩) (Ne.symm ne5) _).ext ((Ext.refl _).drew))
            · exact (((((HS.out.2.1.ext HX.out.1).far (p := ⟨gF, 0, none⟩) (Ne.symm ne2) _).far (p := ⟨gF, 1, none⟩) (Ne.symm ne2) _).far (p := ⟨gK, 0, none⟩) (Ne.symm ne3) _).ext ((Ext.refl _).drew))
            · rw [HAB.out.1, HAB.out.2]
              exact (((HB.out.1.set0 _).set1 _).far (p := ⟨gK, 0, none⟩) (Ne.symm ne1) _).ext ((Ext.refl _).drew)
            · rw [HRT.out]
              exact (((HB.out.2.far (p := ⟨gF, 0, none⟩) ne1 _).far (p := ⟨gF, 1, none⟩) ne1 _).set0 _).ext ((Ext.refl _).drew)
            · exact (((HX.out.2.setCell (p := ⟨gF, 0, none⟩) loF _).setCell (p := ⟨gF, 1, none⟩) loF _).setCell (p := ⟨gK, 0, none⟩) loK _).drew
          case measure => simp [intOf]
      | false =>
        rw [if_neg (by decide)]
        have hRT : rtB m 0 = false := by rw [rtB, hr, Bool.false_and]
        have HRT := Lib.hid hRT
        clear hr hRT
        go_upto_region 10 with fail
        rw [← hW4] at hBF hBK hBS HX ⊢
        obtain ⟨gS, hgS⟩ : ∃ g, w3.heap.size = g := ⟨_, rfl⟩
        rw [hgS] at hBS nF nK ⊢
        have m1 : gF ≠ gS := by omega
        have m2 : gK ≠ gS := by omega
        have m3 := Ne.symm m1
        have m4 := Ne.symm m2
        have m5 := Ne.symm ne1
        clear hW4 hgS
        have HB := Lib.hid (And.intro hBF hBK)
        obtain ⟨f0, f1, f2, f3, ff, fl⟩ := hBF
        obtain ⟨k0, k1, kf, kl⟩ := hBK
        obtain ⟨s0, s1, sf, sl⟩ := hBS
        go_region
        all_goals
          go_wp2_with fail
          go_roundw
          case rel =>
            refine ⟨1, by omega, by go_num, ?_, ?_, TwS.one.2 ⟨?_, ?_⟩, ?_⟩
            · exact (((((HS.out.1.ext HX.out.1).far (p := ⟨gF, 0, none⟩) (Ne.symm ne4) _).far (p := ⟨gF, 1, none⟩) (Ne.symm ne4) _).far (p := ⟨gK, 0, none⟩) (Ne.symm ne5) _).ext ((Ext.refl _).drew))
            · exact (((((HS.out.2.1.ext HX.out.1).far (p := ⟨gF, 0, none⟩) (Ne.symm ne2) _).far (p := ⟨gF, 1, none⟩) (Ne.symm ne2) _).far (p := ⟨gK, 0, none⟩) (Ne.symm ne3) _).ext ((Ext.refl _).drew))
            · rw [HAB.out.1, HAB.out.2]
              exact (((HB.out.1.set0 _).set1 _).far (p := ⟨gK, 0, none⟩) (Ne.symm ne1) _).ext ((Ext.refl _).drew)
            · rw [HRT.out]
              exact (((HB.out.2.far (p := ⟨gF, 0, none⟩) ne1 _).far (p := ⟨gF, 1, none⟩) ne1 _).set0 _).ext ((Ext.refl _).drew)
            · exact (((HX.out.2.setCell (p := ⟨gF, 0, none⟩) loF _).setCell (p := ⟨gF, 1, none⟩) loF _).setCell (p := ⟨gK, 0, none⟩) loK _).drew
          case measure => simp [intOf]
    · have HS := Lib.hid (And.intro hR (And.intro hT (And.intro (TwS.one.1 hS) hX)))
      clear hR hT hS hX
      rw [show ((1 : Nat) : Int) = 1 from rfl]
      go_wp2_with fail
      refine (HH.out.2.1 _ (HH.out.2.2.ext HS.out.2.2.2)).mono ?_
      rintro e w3 ⟨rfl, hx3⟩
      have hxw := HS.out.2.2.2.trans hx3
      obtain ⟨a, ha⟩ : ∃ a, fnS m 8 2 = a := ⟨_, rfl⟩
      obtain ⟨b, hb⟩ : ∃ b, fnS m 8 3 = b := ⟨_, rfl⟩
      have hBF := (HS.out.2.2.1.1.ext hx3).alloc (Obj.cells #[.int .i64 a, .int .i64 b] 28)
      have hBK := (HS.out.2.2.1.2.ext hx3).ext ((Ext.refl _).alloc (Obj.cells #[.int .i64 a, .int .i64 b] 28))
      have hBS := Box2.new w3 (.int .i64 a) (.int .i64 b) 28
      have hxx := (Ext.refl w3).alloc (Obj.cells #[.int .i64 a, .int .i64 b] 28)
      have nF : gF < w3.heap.size := (HS.out.2.2.1.1.ext hx3).lt
      have nK : gK < w3.heap.size := (HS.out.2.2.1.2.ext hx3).lt
      rw [ha, hb]
      have HAB := Lib.hid (And.intro ha hb)
      have HX := Lib.hid (And.intro (hx3.trans hxx) (hxw.trans hxx))
      clear ha hb hx3 hxw hxx
      obtain ⟨W4, hW4⟩ : ∃ W, W = w3.alloc (Obj.cells #[.int .i64 a, .int .i64 b] 28) := ⟨_, rfl⟩
      cases hr : rtS m 8 with
      | true =>
        rw [if_pos rfl]
        have hRT : rtB m 8 = (a == (m.length : Int)) := by rw [rtB, hr, Bool.true_and, ← HAB.out.1, fnS, if_pos hr]
        obtain ⟨r, hrr⟩ : ∃ r, (a == (m.length : Int)) = r := ⟨_, rfl⟩
        rw [hrr] at hRT
        have HRT := Lib.hid hRT
        clear hr hRT
        go_upto_region 10 with fail
        rw [← hW4] at hBF hBK hBS HX ⊢
        obtain ⟨gS, hgS⟩ : ∃ g, w3.heap.size = g := ⟨_, rfl⟩
        rw [hgS] at hBS nF nK ⊢
        have m1 : gF ≠ gS := by omega
        have m2 : gK ≠ gS := by omega
        have m3 := Ne.symm m1
        have m4 := Ne.symm m2
        have m5 := Ne.symm ne1
        clear hW4 hgS
        have HB := Lib.hid (And.intro hBF hBK)
        obtain ⟨f0, f1, f2, f3, ff, fl⟩ := hBF
        obtain ⟨k0, k1, kf, kl⟩ := hBK
        obtain ⟨s0, s1, sf, sl⟩ := hBS
        go_region
        all_goals
          go_wp2_with fail
          go_roundw
          case rel =>
            refine ⟨2, by omega, by go_num, ?_, ?_, TwS.two.2 ⟨?_, ?_⟩, ?_⟩
            · exact (((((HS.out.1.ext HX.out.1).far (p := ⟨gF, 2, none⟩) (Ne.symm ne4) _).far (p := ⟨gF, 3, none⟩) (Ne.symm ne4) _).far (p := ⟨gK, 1, none⟩) (Ne.symm ne5) _).ext ((Ext.refl _).drew))
            · exact (((((HS.out.2.1.ext HX.out.1).far (p := ⟨gF, 2, none⟩) (Ne.symm ne2) _).far (p := ⟨gF, 3, none⟩) (Ne.symm ne2) _).far (p := ⟨gK, 1, none⟩) (Ne.symm ne3) _).ext ((Ext.refl _).drew))
            · rw [HAB.out.1, HAB.out.2]
              exact (((HB.out.1.set2 _).set3 _).far (p := ⟨gK, 1, none⟩) (Ne.symm ne1) _).ext ((Ext.refl _).drew)
            · rw [HRT.out]
              exact (((HB.out.2.far (p := ⟨gF, 2, none⟩) ne1 _).far (p := ⟨gF, 3, none⟩) ne1 _).set1 _).ext ((Ext.refl _).drew)
            · exact (((HX.out.2.setCell (p := ⟨gF, 2, none⟩) loF _).setCell (p := ⟨gF, 3, none⟩) loF _).setCell (p := ⟨gK, 1, none⟩) loK _).drew
          case measure => simp [intOf]
      | false =>
        rw [if_neg (by decide)]
        have hRT : rtB m 8 = false := by rw [rtB, hr, Bool.false_and]
        have HRT := Lib.hid hRT
        clear hr hRT
        go_upto_region 10 with fail
        rw [← hW4] at hBF hBK hBS HX ⊢
        obtain ⟨gS, hgS⟩ : ∃ g, w3.heap.size = g := ⟨_, rfl⟩
        rw [hgS] at hBS nF nK ⊢
        have m1 : gF ≠ gS := by omega
        have m2 : gK ≠ gS := by omega
        have m3 := Ne.symm m1
        have m4 := Ne.symm m2
        have m5 := Ne.symm ne1
        clear hW4 hgS
        have HB := Lib.hid (And.intro hBF hBK)
        obtain ⟨f0, f1, f2, f3, ff, fl⟩ := hBF
        obtain ⟨k0, k1, kf, kl⟩ := hBK
        obtain ⟨s0, s1, sf, sl⟩ := hBS
        go_region
        all_goals
          go_wp2_with fail
          go_roundw
          case rel =>
            refine ⟨2, by omega, by go_num, ?_, ?_, TwS.two.2 ⟨?_, ?_⟩, ?_⟩
            · exact (((((HS.out.1.ext HX.out.1).far (p := ⟨gF, 2, none⟩) (Ne.symm ne4) _).far (p := ⟨gF, 3, none⟩) (Ne.symm ne4) _).far (p := ⟨gK, 1, none⟩) (Ne.symm ne5) _).ext ((Ext.refl _).drew))
            · exact (((((HS.out.2.1.ext HX.out.1).far (p := ⟨gF, 2, none⟩) (Ne.symm ne2) _).far (p := ⟨gF, 3, none⟩) (Ne.symm ne2) _).far (p := ⟨gK, 1, none⟩) (Ne.symm ne3) _).ext ((Ext.refl _).drew))
            · rw [HAB.out.1, HAB.out.2]
              exact (((HB.out.1.set2 _).set3 _).far (p := ⟨gK, 1, none⟩) (Ne.symm ne1) _).ext ((Ext.refl _).drew)
            · rw [HRT.out]
              exact (((HB.out.2.far (p := ⟨gF, 2, none⟩) ne1 _).far (p := ⟨gF, 3, none⟩) ne1 _).set1 _).ext ((Ext.refl _).drew)
            · exact (((HX.out.2.setCell (p := ⟨gF, 2, none⟩) loF _).setCell (p := ⟨gF, 3, none⟩) loF _).setCell (p := ⟨gK, 1, none⟩) loK _).drew
          case measure => simp [intOf]
    · have HS := Lib.hid (And.intro hR (And.intro hT (And.intro (TwS.two.1 hS) hX)))
      clear hR hT hS hX
      rw [show ((2 : Nat) : Int) = 2 from rfl]
      have ne7 := Ne.symm ne6
      have m1 := Ne.symm ne2
      have m2 := Ne.symm ne4
      obtain ⟨a, ha⟩ : ∃ a, fnS m 0 2 = a := ⟨_, rfl⟩
      obtain ⟨b, hb⟩ : ∃ b, fnS m 0 3 = b := ⟨_, rfl⟩
      obtain ⟨a', ha'⟩ : ∃ a, fnS m 8 2 = a := ⟨_, rfl⟩
      obtain ⟨b', hb'⟩ : ∃ b, fnS m 8 3 = b := ⟨_, rfl⟩
      obtain ⟨r0, r1, rf, rl⟩ := HS.out.1
      obtain ⟨t0, t1, tf, tl⟩ := HS.out.2.1
      have hBF := HS.out.2.2.1.1
      have hBK := HS.out.2.2.1.2
      rw [ha, hb, ha', hb'] at hBF
      obtain ⟨f0, f1, f2, f3, ff, fl⟩ := hBF
      cases h1 : rtB m 0 with
      | true =>
        rw [h1] at hBK
        obtain ⟨q, hq⟩ : ∃ q, rtB m 8 = q := ⟨_, rfl⟩
        have HV := Lib.hid (show Ending.returned (.tuple #[.agg #[.int .i64 a, .int .i64 b], .agg #[.bool true, .bool q], .int .i64 0]) = .returned (.tuple #[.agg #[.int .i64 (twF m 2), .int .i64 (twF m 3)], .agg #[.bool (rtB m 0), .bool (rtB m 8)], .int .i64 (twE m)]) by simp [twF, twE, h1, hq, ha, hb])
        rw [hq] at hBK
        obtain ⟨k0, k1, kf, kl⟩ := hBK
        clear h1 hq ha hb ha' hb'
        go_wp2_with fail
        go_region
        all_goals
          go_wp2_with fail
          refine bodyPost_ret (v := .tuple #[.agg #[.int .i64 a, .int .i64 b], .agg #[.bool true, .bool q], .int .i64 0]) (by simp [results, Try.results35, go_sem, r0, r1, t0, t1]) rfl ⟨HV.out, ?_⟩
          exact ((((HS.out.2.2.2.setCell (p := ⟨gR, 0, none⟩) loR _).setCell (p := ⟨gR, 1, none⟩) loR _).setCell (p := ⟨gT, 0, none⟩) loT _).setCell (p := ⟨gT, 1, none⟩) loT _).drew
      | false =>
        rw [h1] at hBK
        cases h2 : rtB m 8 with
        | true =>
          rw [h2] at hBK
          have HV := Lib.hid (show Ending.returned (.tuple #[.agg #[.int .i64 a', .int .i64 b'], .agg #[.bool false, .bool true], .int .i64 0]) = .returned (.tuple #[.agg #[.int .i64 (twF m 2), .int .i64 (twF m 3)], .agg #[.bool (rtB m 0), .bool (rtB m 8)], .int .i64 (twE m)]) by simp [twF, twE, h1, h2, ha', hb'])
          obtain ⟨k0, k1, kf, kl⟩ := hBK
          clear h1 h2 ha hb ha' hb'
          go_wp2_with fail
          go_region
          all_goals
            go_wp2_with fail
            refine bodyPost_ret (v := .tuple #[.agg #[.int .i64 a', .int .i64 b'], .agg #[.bool false, .bool true], .int .i64 0]) (by simp [results, Try.results35, go_sem, r0, r1, t0, t1]) rfl ⟨HV.out, ?_⟩
            exact ((((HS.out.2.2.2.setCell (p := ⟨gR, 0, none⟩) loR _).setCell (p := ⟨gR, 1, none⟩) loR _).setCell (p := ⟨gT, 0, none⟩) loT _).setCell (p := ⟨gT, 1, none⟩) loT _).drew
        | false =>
          rw [h2] at hBK
          have HV := Lib.hid (show Ending.returned (.tuple #[.agg #[.int .i64 0, .int .i64 0], .agg #[.bool false, .bool false], .int .i64 50]) = .returned (.tuple #[.agg #[.int .i64 (twF m 2), .int .i64 (twF m 3)], .agg #[.bool (rtB m 0), .bool (rtB m 8)], .int .i64 (twE m)]) by simp [twF, twE, h1, h2])
          obtain ⟨k0, k1, kf, kl⟩ := hBK
          clear h1 h2 ha hb ha' hb'
          go_wp2_with fail
          refine bodyPost_ret (v := .tuple #[.agg #[.int .i64 0, .int .i64 0], .agg #[.bool false, .bool false], .int .i64 50]) (by simp [results, Try.results35, go_sem, r0, r1, t0, t1]) rfl ⟨HV.out, ?_⟩
          exact ((((HS.out.2.2.2.setCell (p := ⟨gR, 0, none⟩) loR _).setCell (p := ⟨gR, 1, none⟩) loR _).setCell (p := ⟨gT, 0, none⟩) loT _).setCell (p := ⟨gT, 1, none⟩) loT _)
end Go.Proofs.Ytmkcpnklaijkfaa
