/-
  The contracts of crashes.
-/
import Derived.Test.YtmmcbleoglgamaaArm
import Derived.Test.YtmmcbleoglgamaaDFlush
namespace Go.Proofs.Ytmmcbleoglgamaa
open Go.RowKit
/-- A device behind a crash. -/
def crashV (m : List Int) (q : List Dw) (left : Int) (down : Bool) (mask : Int) : Dev4 := if devE m q left down = 0 then (crM mask 0 m q, [], -1, false) else zeroV
/-- The image with the words of the first chosen indices. -/
theorem keptN_at {mask : Int} {n i : Nat} {x : Int} (h : (keptN mask n)[i]? = some x) : ∃ k : Nat, x = (k : Int) ∧ k < n ∧ kpB mask k = true := by
  have := List.mem_of_getElem? h
  simp only [keptN, List.mem_map, List.mem_filter, List.mem_range] at this
  obtain ⟨k, ⟨h1, h2⟩, rfl⟩ := this
  exact ⟨k, rfl, h1, h2⟩
/-- Stores of the words with these indices. -/
def putI (m : List Int) (q : List Dw) (l : List Int) : List Int := l.foldl (fun m x => match q[x.toNat]? with | some y => m.set y.1.toNat y.2.1 | none => m) m
theorem putI_take {m : List Int} {q : List Dw} {l : List Int} {i : Nat} {x : Int} {y : Dw} (h : l[i]? = some x) (hy : q[x.toNat]? = some y) : putI m q (l.take (i + 1)) = (putI m q (l.take i)).set y.1.toNat y.2.1 := by
  rw [List.take_add_one, h]
  simp [putI, List.foldl_append, hy]
theorem putI_length (q : List Dw) : ∀ (l : List Int) (m : List Int), (putI m q l).length = m.length
  | [], _ => rfl
  | x :: l, m => by
    have h : putI m q (x :: l) = putI (match q[x.toNat]? with | some y => m.set y.1.toNat y.2.1 | none => m) q l := rfl
    rw [h, putI_length q l]
    split <;> simp
theorem putI_kept (m : List Int) (q : List Dw) (mask : Int) : ∀ n, n ≤ q.length → putI m q (keptN mask n) = crM mask 0 m (q.take n)
  | 0, _ => rfl
  | n + 1, h => by
    have hx : q[n]? = some q[n] := List.getElem?_eq_getElem (by omega)
    rw [keptN_succ, crM_take hx, ← putI_kept m q mask n (by omega)]
    by_cases hk : kpB mask n = true
    · rw [if_pos hk, if_pos hk]
      simp [putI, List.foldl_append, hx]
    · rw [if_neg hk, if_neg hk, List.append_nil]
set_option maxHeartbeats 3200000 in
theorem dCrash_any (m : List Int) (q : List Dw) (left : Int) (down : Bool) (mask : Int) (A : Option Addr) (c : Nat) (B : Option Addr) (d : Nat) (w : World) (hA : Sl w A m.length c (fU m)) (hB : Sl w B q.length d (fD q)) (hm : InU mask) :
    Calls Try.prog 19 #[.agg #[.slice A m.length c, .slice B q.length d, .int .i64 left, .bool down], .int .u64 mask] w (RetV w (crashV m q left down mask) (devE m q left down)) := by
  have hbx : Box4 ((w.alloc (Obj.cells #[.slice A m.length c, .slice B q.length d, .int .i64 left, .bool down] 25)).alloc (Obj.cells #[.slice none 0 0, .slice none 0 0, .int .i64 0, .bool false] 25)) w.heap.size (.slice A m.length c) (.slice B q.length d) (.int .i64 left) (.bool down) := (Box4.new w _ _ _ _ _).alloc _
  have hrx : Box4 ((w.alloc (Obj.cells #[.slice A m.length c, .slice B q.length d, .int .i64 left, .bool down] 25)).alloc (Obj.cells #[.slice none 0 0, .slice none 0 0, .int .i64 0, .bool false] 25)) (w.heap.size + 1) (.slice none 0 0) (.slice none 0 0) (.int .i64 0) (.bool false) := Box4.new' _ _ (by simp) _ _ _ _ _
  cases hd : devB m q left down with
  | false =>
    have h0 := devE_no hd
    have hv : crashV m q left down mask = zeroV := by simp [crashV, h0]
    rw [hv, h0]
    have H0 := Lib.hid h0
    clear h0 hv hd hbx
    go_enter Try.func19, Try.ntmps19
    go_wp2_with fail
    refine (dCheck_any m q left down A c B d _ ((hB.alloc _).alloc _)).mono ?_
    rintro e w1 ⟨rfl, hx1⟩
    rw [H0.out]
    replace hrx := hrx.ext hx1
    have hX1 : Ext w w1 := Ext.trans (((Ext.refl w).alloc _).alloc _) hx1
    obtain ⟨r0, r1, r2, r3, rf, rl⟩ := hrx
    go_wp2_with fail
    exact bodyPost_ret (v := .tuple #[.agg #[.slice none 0 0, .slice none 0 0, .int .i64 0, .bool false], .int .i64 8]) (by simp [results, Try.results19, go_sem, r0, r1, r2, r3]) rfl (retV_zero (set4_ext hX1 (Nat.le_succ _) _ _ _ _))
  | true =>
    have h0 := devE_yes hd
    obtain ⟨k1, k2, k3, k4, hasc⟩ := devB_bd hd
    have hsz := sizeB_bd k1
    have hql := dirty_le hd
    have hv : crashV m q left down mask = (crM mask 0 m q, [], -1, false) := by simp [crashV, h0]
    rw [hv, h0]
    have H0 := Lib.hid (And.intro h0 hasc)
    clear h0 hv hd hasc k1 k4
    go_enter Try.func19, Try.ntmps19
    go_wp2_with fail
    refine (dCheck_any m q left down A c B d _ ((hB.alloc _).alloc _)).mono ?_
    rintro e w1 ⟨rfl, hx1⟩
    rw [H0.out.1]
    replace hbx := hbx.ext hx1
    replace hrx := hrx.ext hx1
    have hX1 : Ext w w1 := Ext.trans (((Ext.refl w).alloc _).alloc _) hx1
    have hl1 : w.heap.size + 2 ≤ w1.heap.size := hrx.lt
    obtain ⟨b0, b1, b2, b3, bf, bl⟩ := hbx
    go_wp2_with fail
    refine (cloneU_any m A c w1 (hA.ext hX1) (by omega)).mono ?_
    rintro e w2 ⟨A2, c2, rfl, hown2, hA2, hx2⟩
    have hX2 := hX1.trans hx2
    replace hbx := (Box4.mk b0 b1 b2 b3 bf bl).ext hx2
    replace hrx := hrx.ext hx2
    replace hown2 := own_base hown2 hl1
    clear b0 b1 b2 b3 bf bl hx1 hX1 hx2 hA2 hl1
    obtain ⟨b0, b1, b2, b3, bf, bl⟩ := hbx
    go_wp2_with fail
    refine (chosen_any m q left down mask A c B d w2 hm (by omega)).mono ?_
    rintro e w3 ⟨A3, c3, rfl, hown3, hA3, hx3⟩
    have hX3 := hX2.trans hx3
    replace hbx := (Box4.mk b0 b1 b2 b3 bf bl).ext hx3
    replace hrx := hrx.ext hx3
    replace hown2 := own_ext hown2 hx3
    obtain ⟨g, rfl, hg⟩ := own_head hown2 (by omega)
    have hap := own_apart hown3 hown2 (by decide)
    clear hown3
    have hne := run_neqD
    have hkl := keptN_length mask q.length
    obtain ⟨N, hN⟩ : ∃ N, keptN mask q.length = N := ⟨_, rfl⟩
    rw [hN] at hA3 hkl ⊢
    have HN := Lib.hid hN
    have hB3 := hB.ext hX3
    clear b0 b1 b2 b3 bf bl hX2 hx3 hN
    obtain ⟨b0, b1, b2, b3, bf, bl⟩ := hbx
    go_wp2_with fail
    go_loopw [24] (fun i wr => ∃ k : Nat, k ≤ N.length ∧ i = .int .i64 k ∧ wr.ownsRow (w.heap.size + 2) 26 1 (.slice (some ⟨g, 0, none⟩) m.length c2) m.length (fU (putI m q (N.take k))) ∧ Sl wr A3 N.length c3 (fI N) ∧ Box4 wr w.heap.size (.slice A m.length c) (.slice B q.length d) (.int .i64 left) (.bool down) ∧ Box4 wr (w.heap.size + 1) (.slice none 0 0) (.slice none 0 0) (.int .i64 0) (.bool false) ∧ Ext w wr) (fun i _ => N.length - (intOf i).toNat)
    case atStart => exact ⟨0, Nat.zero_le _, rfl, hown2, hA3, ⟨b0, b1, b2, b3, bf, bl⟩, hrx, hX3⟩
    case round =>
      clear b0 b1 b2 b3 bf bl hrx hown2 hA3 hX3 hB3
      obtain ⟨k, hk, rfl, hown, hA3, hbx, hrx, hx⟩ := hrel
      by_cases hlt : k < N.length
      · obtain ⟨ad, z, rfl, hz, gz⟩ := hA3.i_at hlt
        obtain ⟨j, rfl, hj, _⟩ := keptN_at (mask := mask) (n := q.length) (i := k) (x := z) (by rw [HN.out]; exact hz)
        obtain ⟨ad', x, rfl, hat, g0, g1, g2⟩ := (hB.ext hx).d_at hj
        obtain ⟨x0, x1⟩ := ascB_mem H0.out.2 x (List.mem_of_getElem? hat)
        have hlen := putI_length q (N.take k) m
        obtain ⟨y, hy, hc, hf⟩ := own_at_U hown (i := x.1.toNat) (by rw [hlen]; omega)
        have hstep := putI_take (m := m) (q := q) hz (y := x) (by simpa using hat)
        have hgl := block_lt_of_cell hc
        simp only at hgl
        have Hst := Lib.hid (And.intro hstep (And.intro hy hlen))
        have i0 : 0 ≤ x.1 := by omega
        have ne1 : g ≠ w.heap.size := by omega
        have ne2 : g ≠ w.heap.size + 1 := by omega
        obtain ⟨b0, b1, b2, b3, bf, bl⟩ := hbx
        clear hat hz hy hstep hlen
        by_cases hv : x.2.1 = y
        · have hq : neD x.1 x.2.1 true x.1 y true = false := by simp [neD, hv]
          have hH : Hid (putI m q (N.take (k + 1)) = putI m q (N.take k)) := Lib.hid (by rw [Hst.out.1, hv, set_same Hst.out.2.1])
          clear hv
          go_wp2_with fail
          go_quiet (fail)
          go_wp2_with fail
          go_roundw
          case rel =>
            refine ⟨k + 1, by omega, by go_num, by rw [hH.out]; exact own_ext hown (by repeat (first | assumption | exact Ext.refl _ | refine Ext.drewN ?_ _ | refine Ext.drew ?_ | refine Ext.alloc ?_ _ | refine Ext.trans ?_ (by assumption))), hA3.ext (by repeat (first | assumption | exact Ext.refl _ | refine Ext.drewN ?_ _ | refine Ext.drew ?_ | refine Ext.alloc ?_ _ | refine Ext.trans ?_ (by assumption))), (Box4.mk b0 b1 b2 b3 bf bl).ext (by repeat (first | assumption | exact Ext.refl _ | refine Ext.drewN ?_ _ | refine Ext.drew ?_ | refine Ext.alloc ?_ _ | refine Ext.trans ?_ (by assumption))), hrx.ext (by repeat (first | assumption | exact Ext.refl _ | refine Ext.drewN ?_ _ | refine Ext.drew ?_ | refine Ext.alloc ?_ _ | refine Ext.trans ?_ (by assumption))), (by repeat (first | assumption | exact Ext.refl _ | refine Ext.drewN ?_ _ | refine Ext.drew ?_ | refine Ext.alloc ?_ _ | refine Ext.trans ?_ (by assumption)))⟩
          case measure => simp [intOf]; omega
        · have hq : neD x.1 x.2.1 true x.1 y true = true := by simp [neD, hv]
          clear hv
          go_wp2_with fail
          go_quiet (fail)
          go_wp2_with fail
          go_roundw
          case rel =>
            refine ⟨k + 1, by omega, by go_num, ?_, ?_, ?_, ?_, ?_⟩
            · rw [Hst.out.1]
              first | exact own_set_U (own_ext hown (by repeat (first | assumption | exact Ext.refl _ | refine Ext.drewN ?_ _ | refine Ext.drew ?_ | refine Ext.alloc ?_ _ | refine Ext.trans ?_ (by assumption)))) _ _ | exact own_ext (own_set_U hown _ _) (by repeat (first | assumption | exact Ext.refl _ | refine Ext.drewN ?_ _ | refine Ext.drew ?_ | refine Ext.alloc ?_ _ | refine Ext.trans ?_ (by assumption)))
            · first | exact (hA3.ext (by repeat (first | assumption | exact Ext.refl _ | refine Ext.drewN ?_ _ | refine Ext.drew ?_ | refine Ext.alloc ?_ _ | refine Ext.trans ?_ (by assumption)))).setCell (p := ⟨g, x.1.toNat, none⟩) hap _ | exact (hA3.setCell (p := ⟨g, x.1.toNat, none⟩) hap _).ext (by repeat (first | assumption | exact Ext.refl _ | refine Ext.drewN ?_ _ | refine Ext.drew ?_ | refine Ext.alloc ?_ _ | refine Ext.trans ?_ (by assumption)))
            · first | exact ((Box4.mk b0 b1 b2 b3 bf bl).ext (by repeat (first | assumption | exact Ext.refl _ | refine Ext.drewN ?_ _ | refine Ext.drew ?_ | refine Ext.alloc ?_ _ | refine Ext.trans ?_ (by assumption)))).far (p := ⟨g, x.1.toNat, none⟩) ne1 _ | exact ((Box4.mk b0 b1 b2 b3 bf bl).far (p := ⟨g, x.1.toNat, none⟩) ne1 _).ext (by repeat (first | assumption | exact Ext.refl _ | refine Ext.drewN ?_ _ | refine Ext.drew ?_ | refine Ext.alloc ?_ _ | refine Ext.trans ?_ (by assumption)))
            · first | exact (hrx.ext (by repeat (first | assumption | exact Ext.refl _ | refine Ext.drewN ?_ _ | refine Ext.drew ?_ | refine Ext.alloc ?_ _ | refine Ext.trans ?_ (by assumption)))).far (p := ⟨g, x.1.toNat, none⟩) ne2 _ | exact (hrx.far (p := ⟨g, x.1.toNat, none⟩) ne2 _).ext (by repeat (first | assumption | exact Ext.refl _ | refine Ext.drewN ?_ _ | refine Ext.drew ?_ | refine Ext.alloc ?_ _ | refine Ext.trans ?_ (by assumption)))
            · first | exact Ext.setCell (a := w) (p := ⟨g, x.1.toNat, none⟩) (by repeat (first | assumption | exact Ext.refl _ | refine Ext.drewN ?_ _ | refine Ext.drew ?_ | refine Ext.alloc ?_ _ | refine Ext.trans ?_ (by assumption))) (by show w.heap.size ≤ g; omega) _ | exact Ext.trans (hx.setCell (p := ⟨g, x.1.toNat, none⟩) (by show w.heap.size ≤ g; omega) _) (by repeat (first | assumption | exact Ext.refl _ | refine Ext.drewN ?_ _ | refine Ext.drew ?_ | refine Ext.alloc ?_ _ | refine Ext.trans ?_ (by assumption)))
          case measure => simp [intOf]; omega
      · obtain rfl : k = N.length := by omega
        have hfin : putI m q N = crM mask 0 m q := by rw [← HN.out, putI_kept m q mask q.length (Nat.le_refl _), List.take_length]
        have hcl := crM_length mask q 0 m
        rw [List.take_length, hfin] at hown
        have HF := Lib.hid hcl
        have hg1 := own_far (b := w.heap.size + 1) hown (by omega)
        have HA := own_sl4 hown
        obtain ⟨r0, r1, r2, r3, rf, rl⟩ := hrx
        clear hfin hcl hown hap
        go_wp2_with fail
        refine bodyPost_ret (v := .tuple #[.agg #[.slice (some ⟨g, 0, none⟩) m.length c2, .slice none 0 0, .int .i64 (-1), .bool false], .int .i64 0]) (by simp [results, Try.results19, go_sem, r0, r1, r2, r3]) rfl ?_
        exact retV_at HF.out rfl rfl (set4_sl HA hg1 _ _ _ _) (Sl.nil_ _) (set4_ext hx (Nat.le_succ _) _ _ _ _)
end Go.Proofs.Ytmmcbleoglgamaa
