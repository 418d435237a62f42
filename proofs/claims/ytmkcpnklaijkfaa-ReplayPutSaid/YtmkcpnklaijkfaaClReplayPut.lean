/-
  ReplayPut, for every device and every list of entries: the law returns true. No condition.
-/
import Derived.Test.YtmkcpnklaijkfaaLawP
import Derived.Test.YtmkcpnklaijkfaaPut2
import Derived.Test.YtmkcpnklaijkfaaDV23
import Derived.Test.YtmkcpnklaijkfaaAlive10
import Derived.Test.YtmkcpnklaijkfaaGA
import Derived.BigQuiet
namespace Go.Proofs.Ytmkcpnklaijkfaa
open Go.ChangeShapes Go.WideShapes Go.ChangeAt Go.RowKit
theorem asc_bd' {n : Int} : ∀ {q : List Dw} {a : Int}, ascB n a q = true → ∀ x ∈ q, a < x.1 ∧ x.1 < n
  | [], _, _, x, hx => by cases hx
  | y :: q, a, h, x, hx => by
    unfold ascB at h
    simp only [Bool.and_eq_true, decide_eq_true_eq] at h
    rcases List.mem_cons.1 hx with h1 | h1
    · subst h1
      first | exact ⟨h.1.1, h.1.2⟩ | exact ⟨h.1, h.2.1⟩ | omega
    · have := asc_bd' (q := q) (a := y.1) (by first | exact h.2 | exact h.2.2) x h1
      first | exact ⟨by have := h.1.1; omega, this.2⟩ | exact ⟨by have := h.1; omega, this.2⟩
/-- A whole Put on a device that doesn't crash. -/
theorem rp_key {m : List Int} {q : List Dw} {l : List (Int × Int)} (hd : devB m q (-1) false = true) (wf : WfE l) (hi : inrB l m.length = true) :
    runD (m, q, -1, false) (putOps l 256) = ((effs (m, q) (putOps l 256)).1, (effs (m, q) (putOps l 256)).2, -1, false) ∧
    devB (effs (m, q) (putOps l 256)).1 (effs (m, q) (putOps l 256)).2 (-1) false = true ∧ (effs (m, q) (putOps l 256)).1.length = m.length ∧
    wrd (effs (m, q) (putOps l 256)).1 (effs (m, q) (putOps l 256)).2 = applied (wrd m q) l ∧
    (∀ x ∈ (effs (m, q) (putOps l 256)).2, 0 ≤ x.1 ∧ x.1 < (m.length : Int) ∧ (l.any fun e => decide (e.1 / 8 = x.1 / 8)) = false) ∧
    (∀ e ∈ l, (effs (m, q) (putOps l 256)).1[e.1.toNat]? = (applied (wrd m q) l)[e.1.toNat]?) := by
  obtain ⟨b1, b2, b3, b4, b5⟩ := devB_bd hd
  have hsz := sizeB_bd b1
  have hr := inrB_iff.1 hi
  have h1 := runD_free m q false (show (-1 : Int) < 0 by decide) (putOps l 256)
  obtain ⟨p1, p2, p3, -⟩ := put_all (s := (m, q)) (n := (m.length : Int)) ⟨rfl, b5⟩ hsz.2.1 hsz.2.2 hr wf
  have hv := devB_run (left := -1) (down := false) hd (putOps_in hr hsz.2.2 wf 256)
  rw [h1] at hv
  refine ⟨h1, hv.1, hv.2, p1, fun x hx => ?_, fun e he => ?_⟩
  · have hb := asc_bd' p2.2 x hx
    refine ⟨by omega, hb.2, ?_⟩
    rw [List.any_eq_false]
    intro e he
    have := p3 x hx e he
    simp only [decide_eq_true_eq]
    omega
  · rw [← p1, wrd_far]
    intro x hx h
    have hb := asc_bd' p2.2 x hx
    have hre := hr e he
    have := p3 x hx e he
    omega
set_option maxRecDepth 100000 in
set_option maxHeartbeats 6400000 in
theorem replayPut_main (m : List Int) (q : List Dw) (left : Int) (down : Bool) (l : List (Int × Int)) (A : Option Addr) (c : Nat) (B : Option Addr) (d : Nat) (E : Option Addr) (f : Nat) (w : World) (hA : Sl w A m.length c (fU m)) (hB : Sl w B q.length d (fD q)) (hE : Sl w E l.length f (fE l)) (wf : WfE l) (hg' : (decide (2100 < m.length) || decide (2100 < q.length)) = false) (hd : devB m q left down = true) (h64 : l.length ≤ 64) :
    Calls Try.prog 9 #[.agg #[.slice A m.length c, .slice B q.length d, .int .i64 left, .bool down], .slice E l.length f] w fun e w' => e = .returned (.bool true) ∧ Ext w w' := by
  have h0 := devE_yes hd
  have H0 := Box4.new w (.slice A m.length c) (.slice B q.length d) (.int .i64 left) (.bool down) 46
  obtain ⟨hz, hi⟩ := zero_of_info (P := Try.prog) (t := 86) (v := .agg (Array.replicate 300 (.bool false))) (n := 300) (by kernel_rfl)
  have HI := Lib.hid hi
  clear hi
  obtain ⟨p1, -, -, -, p5⟩ := devB_bd hd
  have hsz := sizeB_bd p1
  have hd2 : devB m q (-1) false = true := devB_mk p1 (by decide) (by decide) (by intro h; cases h) p5
  have hwl := wrd_length q m
  have h1 := fun A c B d W (ha : Sl W A m.length c (fU m)) (hb : Sl W B q.length d (fD q)) => dView_ok hd2 A c B d W ha hb
  have hkey := fun hi => rp_key (l := l) hd2 wf hi
  have h2 : inrB l m.length = true → ∀ A c B d W, Sl W A m.length c (fU m) → Sl W B q.length d (fD q) → Sl W E l.length f (fE l) → Calls Try.prog 56 #[.agg #[.slice A m.length c, .slice B q.length d, .int .i64 (-1), .bool false], .slice E l.length f] W (RetV W ((effs (m, q) (putOps l 256)).1, (effs (m, q) (putOps l 256)).2, -1, false) 0) := fun hi A c B d W ha hb he => by
    have := put_ok m q (-1) false l A c B d E f W ha hb he hd2 h64 (inrB_iff.1 hi) wf
    rw [(hkey hi).1] at this
    exact this
  obtain ⟨⟨m1, q1⟩, e1⟩ : ∃ s, effs (m, q) (putOps l 256) = s := ⟨_, rfl⟩
  rw [e1] at hkey h2
  obtain ⟨V, hV⟩ : ∃ V, wrd m q = V := ⟨_, rfl⟩
  rw [hV] at hkey h1 hwl
  have h3 : inrB l m.length = true → ∀ A c B d W, Sl W A m1.length c (fU m1) → Sl W B q1.length d (fD q1) → Calls Try.prog 59 #[.agg #[.slice A m1.length c, .slice B q1.length d, .int .i64 (-1), .bool false]] W (RetUo W (applied V l) 0) := fun hi A c B d W ha hb => by
    have := dView_ok (hkey hi).2.1 A c B d W ha hb
    rw [(hkey hi).2.2.2.1] at this
    exact this
  have h4 : inrB l m.length = true → m1.length = m.length ∧ (∀ x ∈ q1, 0 ≤ x.1 ∧ x.1 < (m.length : Int) ∧ (l.any fun e => decide (e.1 / 8 = x.1 / 8)) = false) ∧ (∀ e ∈ l, m1[e.1.toNat]? = (applied V l)[e.1.toNat]?) := fun hi => ⟨(hkey hi).2.2.1, (hkey hi).2.2.2.2.1, (hkey hi).2.2.2.2.2⟩
  have hlm := hE.max
  have hle := hE.le
  unfold maxLen at hlm
  have hb64 : decide ((64 : Int) < (l.length : Int)) = false := decide_eq_false (by omega)
  have HH := Lib.hid (And.intro h1 (And.intro h2 (And.intro h3 (And.intro h4 hwl))))
  clear h1 h2 h3 h4 hkey hV hwl hd2 p1 p5 hd e1 h64
  have hD := DV.new w m q left down A c B d 46 hA hB
  go_enter Try.func9, Try.ntmps9
  go_wp2_with fail
  refine (dGreat_any _ _ _ _ _ _ _ _ _).mono ?_
  rintro e w1 ⟨rfl, hx1⟩
  rw [hg']
  obtain ⟨b0, b1, b2, b3, bf, bl⟩ := H0.ext (w' := w1) (by repeat (first | assumption | exact Ext.refl _ | refine Ext.drewN ?_ _ | refine Ext.drew ?_ | refine Ext.alloc ?_ _ | refine Ext.trans ?_ (by assumption)))
  go_wp2_with fail
  refine (dRefCk_any m q left down A c B d _ (hB.ext (by repeat (first | assumption | exact Ext.refl _ | refine Ext.drewN ?_ _ | refine Ext.drew ?_ | refine Ext.alloc ?_ _ | refine Ext.trans ?_ (by assumption))))).mono ?_
  rintro e w2 ⟨rfl, hx2⟩
  rw [h0]
  replace hD := hD.ext (hx1.trans hx2)
  have hX : Ext w w2 := Ext.trans ((Ext.refl w).alloc _) (hx1.trans hx2)
  clear b0 b1 b2 b3 bf bl hx1 hx2 H0
  obtain ⟨gD, hgD⟩ : ∃ g, w.heap.size = g := ⟨_, rfl⟩
  have loD : w.heap.size ≤ gD := Nat.le_of_eq hgD
  have HgD := Lib.hid hgD
  rw [hgD] at hD ⊢
  clear hgD
  have HX := Lib.hid (And.intro (hD.set23 (-1) false) (And.intro ((hX.setCell (p := ⟨gD, 2, none⟩) loD (.int .i64 (-1))).setCell (p := ⟨gD, 3, none⟩) loD (.bool false)) (hE.ext ((hX.setCell (p := ⟨gD, 2, none⟩) loD (.int .i64 (-1))).setCell (p := ⟨gD, 3, none⟩) loD (.bool false)))))
  obtain ⟨A9, c9, B9, d9, ⟨b0, b1, b2, b3, bf, bl⟩, -, -⟩ := hD
  clear hX hE
  go_upto_region 4 with fail
  clear b0 b1 b2 b3 bf bl
  obtain ⟨W3, hW3⟩ : ∃ W, W = (w2.setCell ⟨gD, 2, none⟩ (.int .i64 (-1))).setCell ⟨gD, 3, none⟩ (.bool false) := ⟨_, rfl⟩
  obtain ⟨hD, hX, hE⟩ := HX.out
  rw [← hW3] at hD hX hE ⊢
  clear hW3 HX
  have HD := Lib.hid (And.intro hD (And.intro hX hE))
  obtain ⟨AD, cD, BD, dD, ⟨b0, b1, b2, b3, bf, bl⟩, sD, tD⟩ := hD
  go_wp2_with fail
  refine (HH.out.1 AD cD BD dD W3 sD tD).mono ?_
  rintro e w4 ⟨AV, cV, rfl, hown, -, hx4⟩
  rw [HH.out.2.2.2.2] at hown ⊢
  obtain ⟨gW, rfl, hgW⟩ := own_head hown (by omega)
  obtain ⟨y, -, hc0, -⟩ := own_at_U hown (i := 0) (by rw [HH.out.2.2.2.2]; omega)
  have hgl := block_lt_of_cell hc0
  simp only at hgl
  have HO := Lib.hid (And.intro (own_ext hown ((Ext.refl w4).alloc (Obj.cells (lnC [] 300) 86))) (And.intro (heap_alloc_new w4 (Obj.cells (lnC [] 300) 86)) (hx4.alloc (Obj.cells (lnC [] 300) 86))))
  have lo4 := hx4.size
  clear b0 b1 b2 b3 bf bl sD tD hown hc0 hx4 hX hE
  go_wp2_with fail
  rw [← lnC_nil]
  obtain ⟨W5, hW5⟩ : ∃ W, W = w4.alloc (Obj.cells (lnC [] 300) 86) := ⟨_, rfl⟩
  obtain ⟨ga, hga⟩ : ∃ g, w4.heap.size = g := ⟨_, rfl⟩
  obtain ⟨o1, o2, o3⟩ := HO.out
  rw [← hW5] at o1 o2 o3 ⊢
  rw [hga] at o2 hgl lo4 ⊢
  clear hW5 hga HO
  have HO := Lib.hid (And.intro o1 (And.intro o2 o3))
  have hne : gW ≠ ga := Nat.ne_of_lt hgl
  clear o1 o2 o3 hgl
  go_loopw [8] (fun i wr => ∃ k : Nat, k ≤ l.length ∧ i = .int .i64 k ∧ wr.ownsRow W3.heap.size 24 1 (.slice (some ⟨gW, 0, none⟩) m.length cV) m.length (fU (applied V (l.take k))) ∧ Hid (wr.heap[ga]? = some (.cells (lnC (l.take k) 300) 86 (0, 0))) ∧ Ext W3 wr ∧ Hid (inrB (l.take k) m.length = true)) (fun i _ => l.length - (intOf i).toNat)
  case atStart => exact ⟨0, Nat.zero_le _, rfl, HO.out.1, Lib.hid HO.out.2.1, HO.out.2.2, Lib.hid rfl⟩
  case round =>
    clear HO
    obtain ⟨k, hk, rfl, hown, hH, hx, hI⟩ := hrel
    by_cases hlt : k < l.length
    · obtain ⟨ad, x, rfl, hat, g0, g1⟩ := (HD.out.2.2.ext hx).e_at (k := k) hlt
      have HAT := Lib.hid hat
      by_cases hxr : 0 ≤ x.1 ∧ x.1 < (m.length : Int)
      · obtain ⟨x0, x1⟩ := hxr
        have d1 : decide (x.1 < 0) = false := decide_eq_false (by omega)
        have d2 : decide ((m.length : Int) ≤ x.1) = false := decide_eq_false (by omega)
        obtain ⟨z, hz0, c0, cf⟩ := own_at_U hown (i := x.1.toNat) (by rw [applied_length, HH.out.2.2.2.2]; omega)
        have hgl := block_lt_of_cell c0
        have HA := Lib.hid (applied_take (m := V) hat)
        have HX := Lib.hid (And.intro x0 x1)
        have H1 := Lib.hid (And.intro hown hx)
        clear hz0 hat hown hx
        have d0 : 0 ≤ x.1 / 8 := by omega
        have d3 : x.1 / 8 < 300 := by omega
        have x3 : x.1 < 2048 := by omega
        have hcell := cell_of_row wr ga (x.1 / 8).toNat _ 86 (0, 0) hH.out
        rw [lnC_at _ (by omega)] at hcell
        obtain ⟨b, hb⟩ : ∃ b, ((l.take k).any fun e => decide (e.1 / 8 = ((x.1 / 8).toNat : Int))) = b := ⟨_, rfl⟩
        rw [hb] at hcell
        have hfz : wr.frozen? ⟨ga, (x.1 / 8).toNat, none⟩ = false := by simp [World.frozen?, hH.out]
        have hgl2 : ga < wr.heap.size := (Array.getElem?_eq_some_iff.1 hH.out).1
        have hsn := lnC_snoc (l.take k) x 300 x0
        have HS := Lib.hid (show lnC (l.take (k + 1)) 300 = (lnC (l.take k) 300).setIfInBounds (x.1 / 8).toNat (.bool true) by rw [hsn, List.take_add_one, HAT.out]; rfl)
        have hne2 : ga ≠ gW := Ne.symm hne
        clear hb hsn
        go_wp2_with fail
        go_region
        all_goals
          have hx4 : Ext W3 ((wr.setCell ⟨gW, x.1.toNat, none⟩ (.int .u64 x.2)).drewN 1) := (H1.out.2.setCell (p := ⟨gW, x.1.toNat, none⟩) hgW _).drewN 1
          have ho4 := own_ext (own_set_U H1.out.1 x.1.toNat x.2) (ext_drewN _ 1)
          have hH4 : ((wr.setCell ⟨gW, x.1.toNat, none⟩ (.int .u64 x.2)).drewN 1).heap[ga]? = some (.cells (lnC (l.take k) 300) 86 (0, 0)) := by
            show (wr.setCell ⟨gW, x.1.toNat, none⟩ (.int .u64 x.2)).heap[ga]? = _
            rw [heap_setCell_other _ _ _ _ (by exact hne2)]
            exact hH.out
          go_upto_region 14 with fail
          obtain ⟨W4, hW4⟩ : ∃ W, W = (wr.setCell ⟨gW, x.1.toNat, none⟩ (.int .u64 x.2)).drew := ⟨_, rfl⟩
          replace hx4 : Ext W3 W4 := by rw [hW4]; exact hx4
          replace ho4 : W4.ownsRow W3.heap.size 24 1 (.slice (some ⟨gW, 0, none⟩) m.length cV) m.length (fU ((applied V (l.take k)).set x.1.toNat x.2)) := by rw [hW4]; exact ho4
          replace hH4 : W4.heap[ga]? = some (.cells (lnC (l.take k) 300) 86 (0, 0)) := by rw [hW4]; exact hH4
          rw [← hW4]
          clear hW4 c0 cf hcell hfz hgl2 g0 g1
          obtain ⟨ad2, x5, had, hat5, g0, g1⟩ := (HD.out.2.2.ext hx4).e_at (k := k) hlt
          injection had with had
          subst had
          rw [HAT.out] at hat5
          injection hat5 with hat5
          subst hat5
          have hcell := cell_of_row W4 ga (x.1 / 8).toNat _ 86 (0, 0) hH4
          rw [lnC_at _ (by omega)] at hcell
          obtain ⟨b2, hb2⟩ : ∃ b, ((l.take k).any fun e => decide (e.1 / 8 = ((x.1 / 8).toNat : Int))) = b := ⟨_, rfl⟩
          rw [hb2] at hcell
          have hfz : W4.frozen? ⟨ga, (x.1 / 8).toNat, none⟩ = false := by simp [World.frozen?, hH4]
          have hgl2 : ga < W4.heap.size := (Array.getElem?_eq_some_iff.1 hH4).1
          have H4 := Lib.hid (And.intro hx4 (And.intro ho4 hH4))
          clear hx4 ho4 hH4 hb2
          go_wp2_with fail
          go_roundw
          case rel =>
            refine ⟨k + 1, by omega, by go_num, ?_, Lib.hid ?_, ?_, Lib.hid (inrB_take HAT.out hI.out HX.out)⟩
            · rw [HA.out]
              exact own_cellF H4.out.2.1 (fun ad e => by injection e with e; subst e; exact hne) _ _
            · rw [HS.out]
              exact heap_setC H4.out.2.2 _ _
            · exact H4.out.1.setCell (p := ⟨ga, (x.1 / 8).toNat, none⟩) lo4 _
          case measure => simp [intOf]; omega
      · have HX := Lib.hid (HD.out.2.1.trans hx)
        by_cases x0 : x.1 < 0
        all_goals
          have x1 : x.1 < 0 ∨ (m.length : Int) ≤ x.1 := by omega
          clear hxr hat hown hx
          (try (have x2 : (m.length : Int) ≤ x.1 := by omega))
          clear x1
          go_wp2_with fail
          refine (alive10_any _).mono ?_
          rintro e w9 ⟨rfl, hx9⟩
          go_wp2_with fail
          go_ret
          exact ⟨rfl, HX.out.trans hx9⟩
    · obtain rfl : k = l.length := by omega
      have hi := hI.out
      rw [List.take_length] at hi hown hH
      have K2 := Lib.hid (HH.out.2.1 hi)
      have K3 := Lib.hid (HH.out.2.2.1 hi)
      obtain ⟨k4, k5, k6⟩ := HH.out.2.2.2.1 hi
      have hr := inrB_iff.1 hi
      have hZl : (applied V l).length = m.length := by rw [applied_length]; exact HH.out.2.2.2.2
      obtain ⟨Z, hZ⟩ : ∃ Z, applied V l = Z := ⟨_, rfl⟩
      rw [hZ] at hown K3 k6 hZl
      have hX := HD.out.2.1.trans hx
      have hE := HD.out.2.2.ext hx
      have hgl2 : ga < wr.heap.size := (Array.getElem?_eq_some_iff.1 hH.out).1
      have K4 := Lib.hid (And.intro k4 (And.intro k5 (And.intro k6 (And.intro hr hZl))))
      have HO := Lib.hid (And.intro hown (And.intro hH.out (And.intro hX hE)))
      obtain ⟨AD, cD, BD, dD, ⟨b0, b1, b2, b3, bf, bl⟩, sD, tD⟩ := HD.out.1.ext hx
      have hb4 : ((m1.length : Int) != (m.length : Int)) = false := by rw [k4]; simp
      clear hi hI k4 k5 k6 hr hZ hZl hH hown hx hX
      go_wp2_with fail
      refine (K2.out AD cD BD dD wr sD tD hE).mono ?_
      rintro e w6 ⟨AX, cX, BX, dX, rfl, sX, tX, hxx⟩
      clear b0 b1 b2 b3 bf bl sD tD hE
      have hXX := DV.new w6 m1 q1 (-1) false AX cX BX dX 46 sX tX
      have hxa := hxx.alloc (Obj.cells #[.slice AX m1.length cX, .slice BX q1.length dX, .int .i64 (-1), .bool false] 46)
      go_upto_region 16 with fail
      obtain ⟨W7, hW7⟩ : ∃ W, W = w6.alloc (Obj.cells #[.slice AX m1.length cX, .slice BX q1.length dX, .int .i64 (-1), .bool false] 46) := ⟨_, rfl⟩
      obtain ⟨gX, hgX⟩ : ∃ g, w6.heap.size = g := ⟨_, rfl⟩
      rw [← hW7] at hXX hxa ⊢
      rw [hgX] at hXX ⊢
      clear hW7 hgX sX tX hxx
      have HXX := Lib.hid hXX
      obtain ⟨AY, cY, BY, dY, ⟨b0, b1, b2, b3, bf, bl⟩, sY, tY⟩ := hXX
      go_wp2_with fail
      refine (K3.out AY cY BY dY W7 sY tY).mono ?_
      rintro e w8 ⟨AU, cU, rfl, -, sU, hx8⟩
      have hx := hxa.trans hx8
      have HW := Lib.hid (And.intro (HXX.out.ext hx8) (And.intro (own_ext HO.out.1 hx) (And.intro ((hx.block ga hgl2).trans HO.out.2.1) (And.intro (HO.out.2.2.1.trans hx) (HO.out.2.2.2.ext hx)))))
      have hsm := same2_yes Z Z rfl AU (some ⟨gW, 0, none⟩) cU cV w8 sU
      rw [K4.out.2.2.2.2] at hsm
      have HSM := Lib.hid (hsm (own_sl HW.out.2.1))
      clear b0 b1 b2 b3 bf bl sY tY hsm hxa hx8 hx HXX
      rw [K4.out.2.2.2.2] at sU ⊢
      obtain ⟨AY, cY, BY, dY, ⟨b0, b1, b2, b3, bf, bl⟩, sY, tY⟩ := HW.out.1
      go_wp2_with fail
      refine HSM.out.mono ?_
      rintro e w9 ⟨rfl, hdn⟩
      clear b0 b1 b2 b3 bf bl sY tY
      have hxd := hdn.ext
      have H9 := Lib.hid (And.intro (HW.out.1.ext hxd) (And.intro (own_ext HW.out.2.1 hxd) (And.intro ((hxd.block ga (by have := (Array.getElem?_eq_some_iff.1 HW.out.2.2.1).1; exact this)).trans HW.out.2.2.1) (And.intro (HW.out.2.2.2.1.trans hxd) (HW.out.2.2.2.2.ext hxd)))))
      clear hdn hxd HW HSM sU
      obtain ⟨AY, cY, BY, dY, ⟨b0, b1, b2, b3, bf, bl⟩, sY, tY⟩ := H9.out.1
      go_wp2_with fail
      go_loopw [13] (fun i wr => ∃ k : Nat, k ≤ q1.length ∧ i = .int .i64 k ∧ wr = w9) (fun i _ => q1.length - (intOf i).toNat)
      case atStart => exact ⟨0, Nat.zero_le _, rfl, rfl⟩
      case round =>
        obtain ⟨k, hk, rfl, rfl⟩ := hrel
        have htl := tY.le
        have htm := tY.max
        unfold maxLen at htm
        by_cases hlt : k < q1.length
        · obtain ⟨ad, x, rfl, hat, g0, g1, g2⟩ := tY.d_at' (k := k) hlt
          obtain ⟨x0, x1, x2⟩ := K4.out.2.1 x (List.mem_of_getElem? hat)
          have d1 : decide (x.1 < 0) = false := decide_eq_false (by omega)
          have d2 : decide ((m.length : Int) ≤ x.1) = false := decide_eq_false (by omega)
          have d0 : 0 ≤ x.1 / 8 := by omega
          have d3 : x.1 / 8 < 300 := by omega
          have x4 : x.1 < 2048 := by omega
          have hcell := cell_of_row _ ga (x.1 / 8).toNat _ 86 (0, 0) H9.out.2.2.1
          rw [lnC_at _ (by omega), show ((x.1 / 8).toNat : Int) = x.1 / 8 from by omega, x2] at hcell
          have hgl3 := (Array.getElem?_eq_some_iff.1 H9.out.2.2.1).1
          clear hat x2
          go_wp2_with fail
          go_roundw
          case rel => exact ⟨k + 1, by omega, by go_num, trivial⟩
          case measure => simp [intOf]; omega
        · obtain rfl : k = q1.length := by omega
          go_wp2_with fail
          go_loopw [14] (fun i wr' => ∃ k : Nat, k ≤ l.length ∧ i = .int .i64 k ∧ Drew wr wr') (fun i _ => l.length - (intOf i).toNat)
          case atStart => exact ⟨0, Nat.zero_le _, rfl, Drew.refl _⟩
          case round =>
            clear b0 b1 b2 b3 bf bl
            obtain ⟨k, hk, rfl, hdr⟩ := hrel
            by_cases hlt : k < l.length
            · obtain ⟨ad, x, rfl, hat, g0, g1⟩ := (H9.out.2.2.2.2.ext hdr.ext).e_at (k := k) hlt
              obtain ⟨x0, x1⟩ := K4.out.2.2.2.1 x (List.mem_of_getElem? hat)
              have hyz := K4.out.2.2.1 x (List.mem_of_getElem? hat)
              have x2 : x.1 < (m1.length : Int) := by have := K4.out.1; omega
              obtain ⟨AY2, cY2, BY2, dY2, ⟨b0, b1, b2, b3, bf, bl⟩, sY2, -⟩ := H9.out.1.ext hdr.ext
              obtain ⟨ad2, y, rfl, hy2, g2⟩ := sY2.u_at (k := x.1.toNat) (by omega)
              obtain ⟨z, hz, c0, -⟩ := own_at_U (own_ext H9.out.2.1 hdr.ext) (i := x.1.toNat) (by rw [K4.out.2.2.2.2]; omega)
              rw [hy2, hz] at hyz
              injection hyz with hyz
              subst hyz
              have d1 : decide (x.1 < 0) = false := decide_eq_false (by omega)
              have d2 : decide ((m1.length : Int) ≤ x.1) = false := decide_eq_false (by omega)
              clear hat hz hy2
              go_wp2_with fail
              go_quiet (fail)
              all_goals
                go_wp2_with fail
                go_roundw
                case rel => exact ⟨k + 1, by omega, by go_num, hdr.trans (by first | exact drew_N _ _ | exact drew_1 _ | exact Drew.refl _)⟩
                case measure => simp [intOf]; omega
            · obtain rfl : k = l.length := by omega
              have HX := Lib.hid (H9.out.2.2.2.1.trans hdr.ext)
              clear hdr
              go_wp2_with fail
              refine (alive10_any _).mono ?_
              rintro e w10 ⟨rfl, hx10⟩
              go_wp2_with fail
              go_ret
              exact ⟨rfl, HX.out.trans hx10⟩
set_option maxRecDepth 100000 in
set_option maxHeartbeats 6400000 in
theorem replayPut_any (m : List Int) (q : List Dw) (left : Int) (down : Bool) (l : List (Int × Int)) (A : Option Addr) (c : Nat) (B : Option Addr) (d : Nat) (E : Option Addr) (f : Nat) (w : World) (hA : Sl w A m.length c (fU m)) (hB : Sl w B q.length d (fD q)) (hE : Sl w E l.length f (fE l)) (wf : WfE l) :
    Calls Try.prog 9 #[.agg #[.slice A m.length c, .slice B q.length d, .int .i64 left, .bool down], .slice E l.length f] w fun e w' => e = .returned (.bool true) ∧ Ext w w' := by
  have hlm := hE.max
  have hle := hE.le
  unfold maxLen at hlm
  by_cases hg : (decide (2100 < m.length) || decide (2100 < q.length)) = true
  · go_enter Try.func9, Try.ntmps9
    go_wp2_with fail
    refine (dGreat_any _ _ _ _ _ _ _ _ _).mono ?_
    rintro e w1 ⟨rfl, hx1⟩
    rw [hg]
    go_wp2_with fail
    refine (alive10_any _).mono ?_
    rintro e w2 ⟨rfl, hx2⟩
    go_wp2_with fail
    go_ret
    exact ⟨rfl, (by repeat (first | assumption | exact Ext.refl _ | refine Ext.drewN ?_ _ | refine Ext.drew ?_ | refine Ext.alloc ?_ _ | refine Ext.trans ?_ (by assumption)))⟩
  have hg' : (decide (2100 < m.length) || decide (2100 < q.length)) = false := by simpa using hg
  clear hg
  have H0 := Box4.new w (.slice A m.length c) (.slice B q.length d) (.int .i64 left) (.bool down) 46
  by_cases hd : devB m q left down = true
  rotate_left
  · have h0 := devE_no (by simpa using hd)
    go_enter Try.func9, Try.ntmps9
    go_wp2_with fail
    refine (dGreat_any _ _ _ _ _ _ _ _ _).mono ?_
    rintro e w1 ⟨rfl, hx1⟩
    rw [hg']
    obtain ⟨b0, b1, b2, b3, bf, bl⟩ := H0.ext (w' := w1) (by repeat (first | assumption | exact Ext.refl _ | refine Ext.drewN ?_ _ | refine Ext.drew ?_ | refine Ext.alloc ?_ _ | refine Ext.trans ?_ (by assumption)))
    go_wp2_with fail
    refine (dRefCk_any m q left down A c B d _ (hB.ext (by repeat (first | assumption | exact Ext.refl _ | refine Ext.drewN ?_ _ | refine Ext.drew ?_ | refine Ext.alloc ?_ _ | refine Ext.trans ?_ (by assumption))))).mono ?_
    rintro e w2 ⟨rfl, hx2⟩
    rw [h0]
    go_wp2_with fail
    refine (alive10_any _).mono ?_
    rintro e w3 ⟨rfl, hx3⟩
    go_wp2_with fail
    go_ret
    exact ⟨rfl, (by repeat (first | assumption | exact Ext.refl _ | refine Ext.drewN ?_ _ | refine Ext.drew ?_ | refine Ext.alloc ?_ _ | refine Ext.trans ?_ (by assumption)))⟩
  have h0 := devE_yes hd
  by_cases hr : l.length ≤ 64
  rotate_left
  · have hn : decide ((64 : Int) < (l.length : Int)) = true := decide_eq_true (by omega)
    clear hr
    go_enter Try.func9, Try.ntmps9
    go_wp2_with fail
    refine (dGreat_any _ _ _ _ _ _ _ _ _).mono ?_
    rintro e w1 ⟨rfl, hx1⟩
    rw [hg']
    obtain ⟨b0, b1, b2, b3, bf, bl⟩ := H0.ext (w' := w1) (by repeat (first | assumption | exact Ext.refl _ | refine Ext.drewN ?_ _ | refine Ext.drew ?_ | refine Ext.alloc ?_ _ | refine Ext.trans ?_ (by assumption)))
    go_wp2_with fail
    refine (dRefCk_any m q left down A c B d _ (hB.ext (by repeat (first | assumption | exact Ext.refl _ | refine Ext.drewN ?_ _ | refine Ext.drew ?_ | refine Ext.alloc ?_ _ | refine Ext.trans ?_ (by assumption))))).mono ?_
    rintro e w2 ⟨rfl, hx2⟩
    rw [h0]
    clear b0 b1 b2 b3 bf bl
    obtain ⟨b0, b1, b2, b3, bf, bl⟩ := H0.ext (w' := w2) (by repeat (first | assumption | exact Ext.refl _ | refine Ext.drewN ?_ _ | refine Ext.drew ?_ | refine Ext.alloc ?_ _ | refine Ext.trans ?_ (by assumption)))
    go_wp2_with fail
    refine (alive10_any _).mono ?_
    rintro e w3 ⟨rfl, hx3⟩
    go_wp2_with fail
    go_ret
    exact ⟨rfl, (by repeat (first | assumption | exact Ext.refl _ | refine Ext.drewN ?_ _ | refine Ext.drew ?_ | refine Ext.alloc ?_ _ | refine Ext.trans ?_ (by assumption)))⟩
  have HL64 := Lib.hid hr
  clear hr
  exact replayPut_main m q left down l A c B d E f w hA hB hE wf hg' hd HL64.out
set_option maxRecDepth 100000 in
theorem replayPut_lifted (os : Os) (started : os.Started) (H : Type) (enc : TypeId × Value → H) :
    ReturnsInHanded {} Try.checked os 9 .any (Rows.replayPutSpec.pre6 enc Try.prog Try.f9 Rows.replayPutRow.domain false) (Rows.replayPutSpec.post enc Try.prog Try.f9 false true false false) := by
  refine returnsInHanded_of_change (C := Try.checked) own_knob started (by kernel_rfl) Try.func9
    (ChangeSpec.witness6 (enc := enc) (C := Try.checked) false ⟨#[], #[.agg #[.slice none 0 0, .slice none 0 0, .int .i64 0, .bool false], .slice none 0 0], []⟩ 8 (by kernel_rfl) (by kernel_rfl) (by kernel_rfl) (by kernel_rfl)) ?_
  intro W base args ds gs before hval0 hW hcnd _
  have hval : ∀ (j : Nat) t v, Try.f9.params[j]? = some t → args[j]? = some v → Value.okWide Try.prog W .any base t v := hval0
  have hW' := hW
  obtain ⟨p, q, hA0, hV, rfl, hfz, hnd⟩ := hW
  have hA : DataW.TrodAll enc Try.prog W 0 (fun _ => true) true Try.f9.params.toList args.toList ds p := hA0
  rw [Try.params9] at hA hval
  obtain ⟨v0, vs0, d0, ds0, p0, q0, hargs, rfl, rfl, h0, r0⟩ := trodAll_cons hA
  obtain ⟨v1, vs1, d1, ds1, p1, q1, rfl, rfl, rfl, h1, r1⟩ := trodAll_cons r0
  obtain ⟨rfl, rfl, rfl⟩ := trodAll_nil r1
  obtain rfl : args = #[v0, v1] := by cases args; simp_all
  obtain ⟨rfl, rfl⟩ := trodVars_none hV
  obtain ⟨A0, c0, m0, B0, k0, ds0, left0, down0, rfl, hS0, wA0, hB0, wB0, wl0⟩ := op_V (hval 0 46 v0 rfl rfl) h0
  obtain ⟨A1, c1, l1, rfl, hS1, wA1⟩ := op_E (hval 1 34 v1 rfl rfl) h1
  clear hA0 hval0 hval hA
  refine (replayPut_any m0 ds0 left0 down0 l1 A0 c0 B0 k0 A1 c1 W hS0 hB0 hS1 wA1).mono fun e W' ⟨he, hx⟩ => ?_
  subst he
  exact ⟨_, rfl, post_law laid_out (by kernel_rfl) hW' rfl rfl rfl Try.underlying4 hx⟩
theorem replayPut_holds : Rows.ReplayPutSaid :=
  OpenClaim.holds_of_wide 9 Try.f9 rfl rfl rfl rfl rfl rfl rfl ⟨rfl, rfl, rfl, rfl, rfl⟩ rfl rfl rfl rfl rfl (by kernel_rfl) Try.func9 (by kernel_rfl)
    (of_decide_eq_true (by kernel_rfl)) (by unfold Func.isWrapper; first | (rw [if_pos (by decide +kernel)]; kernel_rfl) | (rw [if_neg (by decide +kernel)]; exact ⟨rfl, rfl⟩))
    (fun os started H enc _ => replayPut_lifted os started H enc)
end Go.Proofs.Ytmkcpnklaijkfaa
