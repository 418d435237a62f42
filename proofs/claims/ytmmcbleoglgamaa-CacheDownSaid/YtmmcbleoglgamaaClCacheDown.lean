/-
  CacheDown, for every device, all entries and all kinds of operations: the law returns true. No condition.
-/
import Derived.Test.YtmmcbleoglgamaaAlive03
import Derived.Test.YtmmcbleoglgamaaImgP
import Derived.Test.YtmmcbleoglgamaaOpen
import Derived.Deep.DeepCutAuto
import Derived.Deep.CutBlock
import Derived.Deep.RegionHeld3
namespace Go.Proofs.Ytmmcbleoglgamaa
open Go.ChangeShapes Go.WideShapes Go.ChangeAt Go.RowKit
theorem Sl.blk {w : World} {A : Option Addr} {n c : Nat} {xs : List Value} (h : Sl w A n c xs) (hx : 0 < xs.length) : ∀ ad, A = some ad → ad.block < w.heap.size := by
  rintro ad rfl
  obtain ⟨ad', e, hc⟩ := h.cells (by intro h0; rw [h0] at hx; simp at hx)
  injection e with e
  subst e
  have := block_lt_of_cell (hc 0 _ (List.getElem?_eq_getElem hx))
  rwa [block_of_add] at this
theorem Sl.e_cell {w : World} {ad : Addr} {n c : Nat} {l : List (Int × Int)} (h : Sl w (some ad) n c (fE l)) {k : Nat} {x : Int × Int} (hx : l[k]? = some x) :
    w.cell? (ad.add (k * 2)) = some (.int .i64 x.1) ∧ w.cell? ⟨(ad.add (k * 2)).block, (ad.add (k * 2)).off + 1, none⟩ = some (.int .u64 x.2) := by
  obtain ⟨ad', y, e, hy, g1, g2⟩ := h.e_at (List.getElem?_eq_some_iff.1 hx).1
  injection e with e
  subst e
  rw [hx] at hy
  injection hy with hy
  subst hy
  exact ⟨g1, g2⟩
theorem Sl.i_cell {w : World} {ad : Addr} {n c : Nat} {l : List Int} (h : Sl w (some ad) n c (fI l)) {k : Nat} {x : Int} (hx : l[k]? = some x) :
    w.cell? (ad.add k) = some (.int .i64 x) := by
  obtain ⟨ad', y, e, hy, g1⟩ := h.i_at (List.getElem?_eq_some_iff.1 hx).1
  injection e with e
  subst e
  rw [hx] at hy
  injection hy with hy
  subst hy
  exact g1
/-- An operation of the law's loop. -/
theorem down_step {m : List Int} {q : List Dw} {left : Int} {down : Bool} {k : Nat} (o : Dop) (hl : -1 ≤ left) (hd : down = true → left = 0) (h : devB m q (lefN left k) (dwnN left down k) = true) (ho : OpIn m.length o) :
    ∃ m1 q1, stepD (m, q, lefN left k, dwnN left down k) o = (m1, q1, lefN left (k + 1), dwnN left down (k + 1)) ∧ devB m1 q1 (lefN left (k + 1)) (dwnN left down (k + 1)) = true ∧ m1.length = m.length ∧ (dwnN left down k = true → m1 = m ∧ q1 = q ∧ lefN left (k + 1) = 0 ∧ dwnN left down (k + 1) = true) := by
  have h1 := devB_step (o := o) h ho
  obtain ⟨h2, h3⟩ := step_count (m := m) (q := q) (o := o) (i := k) hl
  rw [h2, h3] at h1
  refine ⟨_, _, ?_, h1.1, h1.2, fun hn => ?_⟩
  · rw [← h2, ← h3]
  · have e : stepD (m, q, lefN left k, dwnN left down k) o = (m, q, 0, true) := by rw [dwn_left hd hn, hn]; exact step_down
    rw [← h2, ← h3, e]
    exact ⟨rfl, rfl, rfl, rfl⟩
set_option maxRecDepth 100000 in
set_option maxHeartbeats 12800000 in
theorem cacheDown_main (m : List Int) (q : List Dw) (left : Int) (down : Bool) (l : List (Int × Int)) (ks : List Int) (A : Option Addr) (c : Nat) (B : Option Addr) (d : Nat) (E : Option Addr) (f : Nat) (K : Option Addr) (g : Nat) (w : World) (hA : Sl w A m.length c (fU m)) (hB : Sl w B q.length d (fD q)) (hE : Sl w E l.length f (fE l)) (hK : Sl w K ks.length g (fI ks)) (wl : WfE l) (hg' : (decide (2100 < m.length) || decide (2100 < q.length)) = false) (hd : devB m q left down = true) (h20 : (l.length : Int) ≤ 20) (hkl : ks.length = l.length) :
    Calls Try.prog 11 #[.agg #[.slice A m.length c, .slice B q.length d, .int .i64 left, .bool down], .slice E l.length f, .slice K ks.length g] w fun e w' => e = .returned (.bool true) ∧ Ext w w' := by
  have h0 := devE_yes hd
  have H0 := Box4.new w (.slice A m.length c) (.slice B q.length d) (.int .i64 left) (.bool down) 25
  have hld := (devB_bd hd).2.1
  have hdl := (devB_bd hd).2.2.2.1
  have kkb : ((ks.length : Int) != l.length) = false := by simp [hkl]
  have hd0 : devB m q (lefN left 0) (dwnN left down 0) = true := by rw [lefN_zero, dwnN_zero]; exact hd
  have HE := Lib.hid (And.intro hE (And.intro hK (And.intro hkl (And.intro wl (And.intro hdl hd0)))))
  clear hE hK hkl wl hdl hd0
  have hD := DV.new w m q left down A c B d 25 hA hB
  go_enter Try.func11, Try.ntmps11
  go_wp2_with fail
  refine (dGreat_any _ _ _ _ _ _ _ _ _).mono ?_
  rintro e w1 ⟨rfl, hx1⟩
  rw [hg']
  obtain ⟨b0, b1, b2, b3, bf, bl⟩ := H0.ext (w' := w1) (by repeat (first | assumption | exact Ext.refl _ | refine Ext.drewN ?_ _ | refine Ext.drew ?_ | refine Ext.alloc ?_ _ | refine Ext.trans ?_ (by assumption)))
  go_wp2_with fail
  refine (dRefCk_any m q left down A c B d _ (hB.ext (by repeat (first | assumption | exact Ext.refl _ | refine Ext.drewN ?_ _ | refine Ext.drew ?_ | refine Ext.alloc ?_ _ | refine Ext.trans ?_ (by assumption))))).mono ?_
  rintro e w2 ⟨rfl, hx2⟩
  rw [h0]
  replace hD := hD.ext (hx1.trans hx2)
  have hX : Ext w w2 := Ext.trans ((Ext.refl w).alloc _) (hx1.trans hx2)
  clear b0 b1 b2 b3 bf bl hx1 hx2 H0
  obtain ⟨gD, hgD⟩ : ∃ g, w.heap.size = g := ⟨_, rfl⟩
  have loD : w.heap.size ≤ gD := Nat.le_of_eq hgD
  have HgD := Lib.hid hgD
  rw [hgD] at hD ⊢
  clear hgD
  have HgZ := Lib.hid hD
  obtain ⟨AD, cD, BD, dD, ⟨b0, b1, b2, b3, bf, bl⟩, sD, tD⟩ := hD
  go_upto_region 3 with fail
  clear b0 b1 b2 b3 bf bl sD tD
  have hD := HgZ.out
  clear HgZ
  obtain ⟨AD, cD, BD, dD, bD, sD, tD⟩ := hD
  obtain ⟨b0, b1, b2, b3, bf, bl⟩ := bD
  go_upto_region 4 with fail
  have hV := DV.new w2 m q left down AD cD BD dD 25 sD tD
  have hD := DV.mk (Box4.mk b0 b1 b2 b3 bf bl) sD tD
  clear b0 b1 b2 b3 bf bl
  have neDV : gD ≠ w2.heap.size := Nat.ne_of_lt hD.lt
  have loV := hX.size
  have hxx := (Ext.refl w2).alloc (Obj.cells #[.slice AD m.length cD, .slice BD q.length dD, .int .i64 left, .bool down] 25)
  obtain ⟨W101, hW⟩ : ∃ W, W = w2.alloc (Obj.cells #[.slice AD m.length cD, .slice BD q.length dD, .int .i64 left, .bool down] 25) := ⟨_, rfl⟩
  obtain ⟨gV, hg⟩ : ∃ g, w2.heap.size = g := ⟨_, rfl⟩
  rw [← hW] at hV hxx ⊢
  rw [hg] at hV loV neDV ⊢
  clear hW hg sD tD
  replace hD := hD.ext hxx
  replace hX := hX.trans hxx
  clear hxx
  have HR := Lib.hid (And.intro hD (And.intro hV hX))
  clear hD hV hX
  go_wp2_with fail
  go_loopw [8] (fun i wr => ∃ k mi qi, k ≤ l.length ∧ i = .int .i64 (k : Nat) ∧ devB mi qi (lefN left k) (dwnN left down k) = true ∧ mi.length = m.length ∧ DV wr gD m q left down ∧ DV wr gV mi qi (lefN left k) (dwnN left down k) ∧ Ext w wr) (fun i _ => l.length - (intOf i).toNat)
  case atStart => exact ⟨0, m, q, Nat.zero_le _, rfl, HE.out.2.2.2.2.2, rfl, HR.out.1, by rw [lefN_zero, dwnN_zero]; exact HR.out.2.1, HR.out.2.2⟩
  case round =>
    clear HR
    obtain ⟨k, mi, qi, hk, rfl, hv, hmi, hD, hV, hX⟩ := hrel
    by_cases hlt : k < l.length
    · obtain ⟨ad, ⟨a, v⟩, hB1, hat, g1, g2⟩ := (HE.out.1.ext hX).e_at hlt
      obtain ⟨ae, kd, hK1, hkd, k1⟩ := (HE.out.2.1.ext hX).i_at (k := k) (by rw [HE.out.2.2.1]; exact hlt)
      have hb1 : (ad.add (k * 2)).block < w.heap.size := by rw [block_of_add]; exact HE.out.1.blk (by rw [fE_length]; omega) _ hB1
      subst hB1 hK1
      have i1 : (0 : Int) ≤ k := by omega
      have i2 : (k : Int) < l.length := by omega
      have i3 : (k : Int) < ks.length := by have := HE.out.2.2.1; omega
      have HV0 := Lib.hid (And.intro hD (And.intro hV hX))
      by_cases r0 : a < 0
      · have r0b : decide (a < 0) = true := decide_eq_true r0
        clear hV hD
        go_wp2_with fail
        go_quiet (fail)
        go_wp2_with fail
        refine (alive03_any _).mono ?_
        rintro e w9 ⟨rfl, hx9⟩
        go_wp2_with fail
        go_ret
        exact ⟨rfl, HV0.out.2.2.trans ((ext_drewN wr nq).trans hx9)⟩
      have r0' : 0 ≤ a := by omega
      have r0b : decide (a < 0) = false := decide_eq_false r0
      obtain ⟨AD, cD, BD, dD, ⟨b0, b1, b2, b3, bf, bl⟩, sD, tD⟩ := hD
      by_cases r1 : (m.length : Int) ≤ a
      · have r1b : decide ((m.length : Int) ≤ a) = true := decide_eq_true r1
        clear hV sD tD r0
        go_wp2_with fail
        go_quiet (fail)
        go_wp2_with fail
        refine (alive03_any _).mono ?_
        rintro e w9 ⟨rfl, hx9⟩
        go_wp2_with fail
        go_ret
        exact ⟨rfl, HV0.out.2.2.trans ((ext_drewN wr nq).trans hx9)⟩
      have r1' : a < m.length := by omega
      have r1b : decide ((m.length : Int) ≤ a) = false := decide_eq_false r1
      clear r0 r1
      have hva := (HE.out.2.2.2.1 _ (List.mem_of_getElem? hat)).2
      obtain ⟨m1, q1, e1, v1, n1, z1⟩ := down_step (.st a v) hld HE.out.2.2.2.2.1 hv ⟨r0', by rw [hmi]; exact r1', hva⟩
      obtain ⟨m2, q2, e2, v2, n2, z2⟩ := down_step (.fl a) hld HE.out.2.2.2.2.1 hv ⟨r0', by rw [hmi]; exact r1'⟩
      obtain ⟨m3, q3, e3, v3, n3, z3⟩ := down_step .fe hld HE.out.2.2.2.2.1 hv trivial
      have c1 := fun A c B d W (ha : Sl W A mi.length c (fU mi)) (hb : Sl W B qi.length d (fD qi)) => dStore_ok (a := a) v hv r0' (by rw [hmi]; exact r1') A c B d W ha hb
      have c2 := fun A c B d W (ha : Sl W A mi.length c (fU mi)) (hb : Sl W B qi.length d (fD qi)) => dFlush_ok (a := a) hv r0' (by rw [hmi]; exact r1') A c B d W ha hb
      have c3 := fun A c B d W (ha : Sl W A mi.length c (fU mi)) (hb : Sl W B qi.length d (fD qi)) => dFence_ok hv A c B d W ha hb
      rw [e1] at c1
      rw [e2] at c2
      rw [e3] at c3
      have hN1 : dwnN left down (k + 1) = (down || decide (0 ≤ left) && decide (left ≤ k)) := by
        unfold dwnN
        congr 2
        rw [decide_eq_decide]
        omega
      have hll := HE.out.2.2.2.2.1
      obtain ⟨L, hL⟩ : ∃ L, lefN left k = L := ⟨_, rfl⟩
      obtain ⟨N, hN⟩ : ∃ L, dwnN left down k = L := ⟨_, rfl⟩
      obtain ⟨L1, hL1⟩ : ∃ L, lefN left (k + 1) = L := ⟨_, rfl⟩
      obtain ⟨N1, hN1'⟩ : ∃ L, dwnN left down (k + 1) = L := ⟨_, rfl⟩
      have HLN := Lib.hid (And.intro hL hN)
      have hL0 : N = true → L = 0 := fun h => by rw [← hL]; exact dwn_left HE.out.2.2.2.2.1 (hN.trans h)
      rw [hL, hN] at hv hV c1 c2 c3
      rw [hN] at z1 z2 z3
      rw [hL1, hN1'] at c1 c2 c3 z1 z2 z3 v1 v2 v3
      rw [hN1'] at hN1
      have HC := Lib.hid (And.intro c1 (And.intro c2 c3))
      have HZ := Lib.hid (And.intro (And.intro v1 (And.intro (n1.trans hmi) z1)) (And.intro (And.intro v2 (And.intro (n2.trans hmi) z2)) (And.intro v3 (And.intro (n3.trans hmi) z3))))
      have HL := Lib.hid (And.intro hL1 (And.intro hN1' (And.intro hN1 (And.intro hmi (And.intro hv hL0)))))
      have HA := Lib.hid (And.intro hat hkd)
      have hDb := hb1
      clear c1 c2 c3 z1 z2 z3 v1 v2 v3 n1 n2 n3 hL hN hL1 hN1' hN1 hmi hv hat hkd e1 e2 e3 hva hll hL0
      go_wp2_with fail
      go_quiet (fail)
      go_upto_region 9 with fail
      clear b0 b1 b2 b3 bf bl sD tD g1 g2 k1 r0b r1b
      have hxx : Ext wr (wr.drewN nq) := ext_drewN wr nq
      obtain ⟨W7, hW7⟩ : ∃ W, W = wr.drewN nq := ⟨_, rfl⟩
      rw [← hW7] at hxx ⊢
      have hD := HV0.out.1.ext hxx
      have hV1 := HV0.out.2.1.ext hxx
      rw [HLN.out.1, HLN.out.2] at hV1
      have hX1 := HV0.out.2.2.trans hxx
      clear hX HV0 hV hW7
      have hX := hX1
      have hV := hV1
      clear hX1 hV1 hxx
      go_cut [9, 10] (fun p e wx => e = .int .i64 0 ∧ ∃ gN, p = .pointer (some ⟨gN, 0, none⟩) ∧ w.heap.size ≤ gN ∧ gD ≠ gN ∧ gV ≠ gN ∧ DV wx gN m1 q1 L1 N1 ∧ DV wx gD m q left down ∧ DV wx gV mi qi L N ∧ Ext w wx)
      case first =>
        obtain ⟨g1, g2⟩ := (HE.out.1.ext hX).e_cell HA.out.1
        have hb2 : (ad.add (k * 2)).block ≠ W7.heap.size := Nat.ne_of_lt (Nat.lt_of_lt_of_le hb1 hX.size)
        have hb3 := Ne.symm hb2
        have H9D := Lib.hid hD
        have H9V := Lib.hid hV
        have H9a := Lib.hid hX
        obtain ⟨AV, cV, BV, dV, bV, sV, tV⟩ := hV
        obtain ⟨o0, o1, o2, o3, of, ol⟩ := bV
        have n91 : gV ≠ W7.heap.size := Nat.ne_of_lt ol
        have n92 : W7.heap.size ≠ gV := Ne.symm n91
        clear hD hX
        have H9S := Lib.hid (And.intro o0 (And.intro o1 (And.intro o2 (And.intro o3 (And.intro g1 g2)))))
        go_region_held3 (fun w' => w'.cell? ⟨gV, 0, none⟩ = some (.slice AV mi.length cV) ∧ w'.cell? ⟨gV, 1, none⟩ = some (.slice BV qi.length dV) ∧ w'.cell? ⟨gV, 2, none⟩ = some (.int .i64 L) ∧ w'.cell? ⟨gV, 3, none⟩ = some (.bool N) ∧ w'.cell? (ad.add (k * 2)) = some (.int .i64 a) ∧ w'.cell? (⟨(ad.add (k * 2)).block, (ad.add (k * 2)).off + 1, none⟩) = some (.int .u64 v)) (go_keep) ((go_at_call 37; refine (HC.out.1 AV cV BV dV _ (sV.ext (by repeat (first | assumption | exact Ext.refl _ | refine Ext.drewN ?_ _ | refine Ext.drew ?_ | refine Ext.alloc ?_ _ | refine Ext.trans ?_ (by assumption)))) (tV.ext (by repeat (first | assumption | exact Ext.refl _ | refine Ext.drewN ?_ _ | refine Ext.drew ?_ | refine Ext.alloc ?_ _ | refine Ext.trans ?_ (by assumption))))).mono ?_; rintro e wn ⟨AN, cN, BN, dN, rfl, sN, tN, hxx⟩; have hxw : Ext W7 wn := (by repeat (first | assumption | exact Ext.refl _ | refine Ext.drewN ?_ _ | refine Ext.drew ?_ | refine Ext.alloc ?_ _ | refine Ext.trans ?_ (by assumption))); have y0 := hxw.cell H9S.out.1; have y1 := hxw.cell H9S.out.2.1; have y2 := hxw.cell H9S.out.2.2.1; have y3 := hxw.cell H9S.out.2.2.2.1; have y4 := hxw.cell H9S.out.2.2.2.2.1; have y5 := hxw.cell H9S.out.2.2.2.2.2; clear hxw; (first | (refine (have hz : Box4 wn W7.heap.size (.slice none 0 0) (.slice none 0 0) (.int .i64 0) (.bool false) := ?_; ?_); exact Box4.ext (Box4.new W7 _ _ _ _ _) (Ext.trans (Ext.drew (Ext.refl _)) hxx); obtain ⟨z0, z1, z2, z3, zf, zl⟩ := hz; have zf0 := zf 0; have zf1 := zf 1; have zf2 := zf 2; have zf3 := zf 3) | skip)))
        all_goals
          first
            | (refine (have hz : DV (wn.alloc (Obj.cells #[.slice AN m1.length cN, .slice BN q1.length dN, .int .i64 L1, .bool N1] 25)) wn.heap.size m1 q1 L1 N1 ∧ Ext W7 (wn.alloc (Obj.cells #[.slice AN m1.length cN, .slice BN q1.length dN, .int .i64 L1, .bool N1] 25)) ∧ W7.heap.size ≤ wn.heap.size := ?_; ?_)
               · exact ⟨DV.new wn m1 q1 L1 N1 AN cN BN dN 25 sN tN, (((Ext.refl _).drew).trans hxx).alloc _, (((Ext.refl _).drew).trans hxx).size⟩
               have HU := Lib.hid hz
               clear hz o0 o1 o2 o3 of ol sV tV hxx sN tN n91 n92 H9S y0 y1 y2 y3 y4 y5
               try go_wp2_with fail
               obtain ⟨W101, hW5⟩ : ∃ W, W = wn.alloc (Obj.cells #[.slice AN m1.length cN, .slice BN q1.length dN, .int .i64 L1, .bool N1] 25) := ⟨_, rfl⟩
               obtain ⟨gN, hgU⟩ : ∃ g, wn.heap.size = g := ⟨_, rfl⟩
               obtain ⟨hN, hxU, lU⟩ := HU.out
               rw [← hW5] at hN hxU ⊢
               rw [hgU] at hN lU ⊢
               clear hW5 hgU HU)
            | (refine (have hz : DV (setB wn W7.heap.size (.slice AN m1.length cN) (.slice BN q1.length dN) (.int .i64 L1) (.bool N1)) W7.heap.size m1 q1 L1 N1 ∧ Ext W7 (setB wn W7.heap.size (.slice AN m1.length cN) (.slice BN q1.length dN) (.int .i64 L1) (.bool N1)) ∧ W7.heap.size ≤ W7.heap.size := ?_; ?_)
               · exact ⟨(DV.mk (q := []) (m := []) (Box4.mk z0 z1 z2 z3 zf zl) (Sl.nil_ _) (Sl.nil_ _)).set sN tN (L1) (N1), Ext.setB (Ext.trans (Ext.drew ((Ext.refl _).alloc _)) hxx) (Nat.le_refl _) _ _ _ _, Nat.le_refl _⟩
               have HU := Lib.hid hz
               clear hz o0 o1 o2 o3 of ol sV tV sN tN hxx n91 n92 H9S y0 y1 y2 y3 y4 y5
               try go_wp2_with fail
               clear z0 z1 z2 z3 zf zl zf0 zf1 zf2 zf3
               obtain ⟨W101, hW5⟩ : ∃ W, W = setB wn W7.heap.size (.slice AN m1.length cN) (.slice BN q1.length dN) (.int .i64 L1) (.bool N1) := ⟨_, rfl⟩
               obtain ⟨gN, hgU⟩ : ∃ g, W7.heap.size = g := ⟨_, rfl⟩
               rw [show ((((wn.setCell ⟨W7.heap.size, 0, none⟩ (.slice AN m1.length cN)).setCell ⟨W7.heap.size, 1, none⟩ (.slice BN q1.length dN)).setCell ⟨W7.heap.size, 2, none⟩ (.int .i64 L1)).setCell ⟨W7.heap.size, 3, none⟩ (.bool N1)) = setB wn W7.heap.size (.slice AN m1.length cN) (.slice BN q1.length dN) (.int .i64 L1) (.bool N1) from rfl, ← hW5]
               obtain ⟨hN, hxU, -⟩ := HU.out
               rw [← hW5] at hN hxU
               have lU := Nat.le_of_eq hgU
               rw [hgU] at hN ⊢
               clear hW5 hgU HU)
          have hD := H9D.out.ext hxU
          have neDN : gD ≠ gN := by have := H9D.out.lt; omega
          have hV := H9V.out.ext hxU
          have neVN : gV ≠ gN := by have := H9V.out.lt; omega
          have loN := Nat.le_trans H9a.out.size lU
          have hX := H9a.out.trans hxU
          clear hxU lU H9a H9D H9V
        all_goals
          go_meet
          exact ⟨rfl, gN, rfl, loN, neDN, neVN, hN, hD, hV, hX⟩
      case rest =>
        obtain ⟨rfl, gN, rfl, loN, neDN, neVN, hN, hD, hV, hX⟩ := hcut
        have hk1 := (HE.out.2.1.ext hX).i_cell HA.out.2
        go_upto_block 2 with fail
        clear hk1
        go_cut [10] (fun e wx => e = .int .i64 0 ∧ (∃ mn qn, DV wx gN mn qn L1 N1 ∧ devB mn qn L1 N1 = true ∧ mn.length = m.length ∧ (N = true → mn = mi ∧ qn = qi ∧ L1 = 0 ∧ N1 = true)) ∧ DV wx gD m q left down ∧ DV wx gV mi qi L N ∧ Ext w wx)
        case first =>
          by_cases hk1 : kd = 1
          · have hkb : (kd == 1) = true := by simpa using hk1
            clear hk1
            obtain ⟨g1, g2⟩ := (HE.out.1.ext hX).e_cell HA.out.1
            have hb2 : (ad.add (k * 2)).block ≠ gN := Nat.ne_of_lt (Nat.lt_of_lt_of_le hb1 loN)
            have hb3 := Ne.symm hb2
            clear g2
            go_upto_region 12 with fail
            have H9D := Lib.hid hD
            have H9V := Lib.hid hV
            have H9N := Lib.hid hN
            have H9a := Lib.hid hX
            obtain ⟨AV, cV, BV, dV, bV, sV, tV⟩ := hV
            obtain ⟨o0, o1, o2, o3, of, ol⟩ := bV
            have n91 : gV ≠ gN := (by first | exact neVN | exact Ne.symm neNV)
            have n92 : gN ≠ gV := Ne.symm n91
            clear hD hN hX
            have H9S := Lib.hid (And.intro o0 (And.intro o1 (And.intro o2 (And.intro o3 g1))))
            go_region_held3 (fun w' => w'.cell? ⟨gV, 0, none⟩ = some (.slice AV mi.length cV) ∧ w'.cell? ⟨gV, 1, none⟩ = some (.slice BV qi.length dV) ∧ w'.cell? ⟨gV, 2, none⟩ = some (.int .i64 L) ∧ w'.cell? ⟨gV, 3, none⟩ = some (.bool N) ∧ w'.cell? (ad.add (k * 2)) = some (.int .i64 a)) (go_keep) ((go_at_call 39; refine (HC.out.2.1 AV cV BV dV _ (sV.ext (by repeat (first | assumption | exact Ext.refl _ | refine Ext.drewN ?_ _ | refine Ext.drew ?_ | refine Ext.alloc ?_ _ | refine Ext.trans ?_ (by assumption)))) (tV.ext (by repeat (first | assumption | exact Ext.refl _ | refine Ext.drewN ?_ _ | refine Ext.drew ?_ | refine Ext.alloc ?_ _ | refine Ext.trans ?_ (by assumption))))).mono ?_; rintro e wn ⟨A9, c9, B9, d9, rfl, s9, t9, hxx⟩; have hxw : Ext wc wn := (by repeat (first | assumption | exact Ext.refl _ | refine Ext.drewN ?_ _ | refine Ext.drew ?_ | refine Ext.alloc ?_ _ | refine Ext.trans ?_ (by assumption))); have y0 := hxw.cell H9S.out.1; have y1 := hxw.cell H9S.out.2.1; have y2 := hxw.cell H9S.out.2.2.1; have y3 := hxw.cell H9S.out.2.2.2.1; have y4 := hxw.cell H9S.out.2.2.2.2; obtain ⟨A8, c8, B8, d8, ⟨z0, z1, z2, z3, zf, zl⟩, -, -⟩ := H9N.out.ext hxw; have zf0 := zf 0; have zf1 := zf 1; have zf2 := zf 2; have zf3 := zf 3; have H9x := Lib.hid hxw; clear hxw))
            all_goals
              have H9z := Lib.hid ((H9N.out.ext H9x.out).set s9 t9 (L1) (N1))
              clear o0 o1 o2 o3 of ol sV tV s9 t9 hxx n91 n92 H9S y0 y1 y2 y3 y4
              try go_wp2_with fail
              clear z0 z1 z2 z3 zf zl zf0 zf1 zf2 zf3
              have hD := (H9D.out.ext H9x.out).far (H9N.out.ext H9x.out) (by first | exact neDN | exact Ne.symm neND) (.slice A9 m2.length c9) (.slice B9 q2.length d9) (.int .i64 L1) (.bool N1)
              have hV := (H9V.out.ext H9x.out).far (H9N.out.ext H9x.out) (by first | exact neVN | exact Ne.symm neNV) (.slice A9 m2.length c9) (.slice B9 q2.length d9) (.int .i64 L1) (.bool N1)
              have hN := H9z.out
              have hX := (H9a.out.trans H9x.out).setB loN (.slice A9 m2.length c9) (.slice B9 q2.length d9) (.int .i64 L1) (.bool N1)
              clear H9z H9x H9a H9D H9V H9N
              obtain ⟨W101, hW⟩ : ∃ W, W = setB wn gN (.slice A9 m2.length c9) (.slice B9 q2.length d9) (.int .i64 L1) (.bool N1) := ⟨_, rfl⟩
              rw [show ((((wn.setCell ⟨gN, 0, none⟩ (.slice A9 m2.length c9)).setCell ⟨gN, 1, none⟩ (.slice B9 q2.length d9)).setCell ⟨gN, 2, none⟩ (.int .i64 L1)).setCell ⟨gN, 3, none⟩ (.bool N1)) = setB wn gN (.slice A9 m2.length c9) (.slice B9 q2.length d9) (.int .i64 L1) (.bool N1) from rfl, ← hW]
              rw [← hW] at hD hV hN hX
              clear hW
            all_goals
              go_meet
              exact ⟨rfl, ⟨m2, q2, hN, HZ.out.2.1⟩, hD, hV, hX⟩
          · have hkb : (kd == 1) = false := by simpa using hk1
            clear hk1
            by_cases hk2 : kd = 2
            · have hkc : (kd == 2) = true := by simpa using hk2
              clear hk2
              obtain ⟨AN, cN, BN, dN, bN, sN, tN⟩ := hN
              obtain ⟨y0, y1, y2, y3, yf, yl⟩ := bN
              obtain ⟨AV, cV, BV, dV, bV, sV, tV⟩ := hV
              obtain ⟨b0, b1, b2, b3, bf, bl⟩ := bV
              go_wp2_with fail
              refine (HC.out.2.2 AV cV BV dV wc sV tV).mono ?_
              rintro e W101 ⟨A9, c9, B9, d9, rfl, s9, t9, hxx⟩
              have hV := DV.mk (Box4.mk b0 b1 b2 b3 bf bl) sV tV
              clear b0 b1 b2 b3 bf bl
              have hN := DV.mk (Box4.mk y0 y1 y2 y3 yf yl) sN tN
              clear y0 y1 y2 y3 yf yl
              replace hD := hD.ext hxx
              replace hV := hV.ext hxx
              replace hN := hN.ext hxx
              replace hX := hX.trans hxx
              have h9 := hN
              obtain ⟨A8, c8, B8, d8, b9, s8, t8⟩ := h9
              obtain ⟨b0, b1, b2, b3, bf, bl⟩ := b9
              go_wp2_with fail
              clear b0 b1 b2 b3 bf bl s8 t8 hxx
              have h9 := hN.set s9 t9 (L1) (N1)
              replace hD := hD.far hN (by first | exact neDN | exact Ne.symm neND) (.slice A9 m3.length c9) (.slice B9 q3.length d9) (.int .i64 L1) (.bool N1)
              replace hV := hV.far hN (by first | exact neVN | exact Ne.symm neNV) (.slice A9 m3.length c9) (.slice B9 q3.length d9) (.int .i64 L1) (.bool N1)
              replace hX := hX.setB loN (.slice A9 m3.length c9) (.slice B9 q3.length d9) (.int .i64 L1) (.bool N1)
              obtain ⟨W102, hW⟩ : ∃ W, W = setB W101 gN (.slice A9 m3.length c9) (.slice B9 q3.length d9) (.int .i64 L1) (.bool N1) := ⟨_, rfl⟩
              rw [show ((((W101.setCell ⟨gN, 0, none⟩ (.slice A9 m3.length c9)).setCell ⟨gN, 1, none⟩ (.slice B9 q3.length d9)).setCell ⟨gN, 2, none⟩ (.int .i64 L1)).setCell ⟨gN, 3, none⟩ (.bool N1)) = setB W101 gN (.slice A9 m3.length c9) (.slice B9 q3.length d9) (.int .i64 L1) (.bool N1) from rfl, ← hW]
              rw [← hW] at h9 hX hD hV
              replace hN := h9
              clear h9 hW s9 t9
              go_meet
              exact ⟨rfl, ⟨m3, q3, hN, HZ.out.2.2⟩, hD, hV, hX⟩
            · have hkc : (kd == 2) = false := by simpa using hk2
              clear hk2
              have HQ := Lib.hid (And.intro hN (And.intro hD (And.intro hV hX)))
              clear hN hD hV hX
              go_wp2_with fail
              go_meet
              exact ⟨rfl, ⟨m1, q1, HQ.out.1, HZ.out.1⟩, HQ.out.2⟩
        case rest =>
          obtain ⟨rfl, ⟨mn, qn, hN, hNz⟩, hD, hV, hX⟩ := hcut
          have HNz := Lib.hid hNz
          clear hNz
          go_upto_region 15 with fail
          go_cut [117] (fun v wx => v = .bool false ∧ wx = wc)
          case first =>
            obtain ⟨AD, cD, BD, dD, ⟨b0, b1, b2, b3, bf, bl⟩, sD, tD⟩ := hD
            obtain ⟨AN, cN, BN, dN, ⟨o0, o1, o2, o3, of, ol⟩, sN, tN⟩ := hN
            have hn1 := HL.out.2.2.1
            clear hV hX sD tD sN tN
            cases down with
            | true =>
              rw [Bool.true_or] at hn1
              rw [hn1] at o3
              clear hn1
              go_wp2_with fail
              go_meet
              exact ⟨rfl, rfl⟩
            | false =>
              by_cases hl0 : 0 ≤ left
              · have hl0b : decide (0 ≤ left) = true := decide_eq_true hl0
                by_cases hl1 : left ≤ k
                · have hl1b : decide (left ≤ (k : Int)) = true := decide_eq_true hl1
                  rw [hl0b, hl1b] at hn1
                  rw [show N1 = true from hn1] at o3
                  clear hn1
                  go_wp2_with fail
                  go_meet
                  exact ⟨rfl, rfl⟩
                · have hl1b : decide (left ≤ (k : Int)) = false := decide_eq_false hl1
                  rw [hl0b, hl1b] at hn1
                  rw [show N1 = false from hn1] at o3
                  clear hn1
                  go_wp2_with fail
                  go_meet
                  exact ⟨rfl, rfl⟩
              · have hl0b : decide (0 ≤ left) = false := decide_eq_false hl0
                rw [hl0b] at hn1
                rw [show N1 = false from hn1] at o3
                clear hn1
                go_wp2_with fail
                go_meet
                exact ⟨rfl, rfl⟩
          case rest =>
            obtain ⟨rfl, rfl⟩ := hcut
            cases N with
            | false =>
              have HQ := Lib.hid (And.intro hN (And.intro hD (And.intro hV hX)))
              obtain ⟨AV, cV, BV, dV, ⟨b0, b1, b2, b3, bf, bl⟩, sV, tV⟩ := hV
              clear hN hD hX sV tV
              go_upto_region 22 with fail
              clear b0 b1 b2 b3 bf bl
              obtain ⟨hN, hD, hV, hX⟩ := HQ.out
              clear HQ
              have h9 := hV
              have h7 := hN
              obtain ⟨A8, c8, B8, d8, b9, s8, t8⟩ := h9
              obtain ⟨b0, b1, b2, b3, bf, bl⟩ := b9
              obtain ⟨A9, c9, B9, d9, b7, s9, t9⟩ := h7
              obtain ⟨o0, o1, o2, o3, of, ol⟩ := b7
              go_upto_region 6 with fail
              clear b0 b1 b2 b3 bf bl s8 t8 o0 o1 o2 o3 of ol
              have h9 := hV.set s9 t9 (L1) (N1)
              replace hD := hD.far hV (by first | exact neDV | exact Ne.symm neVD) (.slice A9 mn.length c9) (.slice B9 qn.length d9) (.int .i64 L1) (.bool N1)
              replace hN := hN.far hV (by first | exact neNV | exact Ne.symm neVN) (.slice A9 mn.length c9) (.slice B9 qn.length d9) (.int .i64 L1) (.bool N1)
              replace hX := hX.setB loV (.slice A9 mn.length c9) (.slice B9 qn.length d9) (.int .i64 L1) (.bool N1)
              obtain ⟨W101, hW⟩ : ∃ W, W = setB wc gV (.slice A9 mn.length c9) (.slice B9 qn.length d9) (.int .i64 L1) (.bool N1) := ⟨_, rfl⟩
              rw [show ((((wc.setCell ⟨gV, 0, none⟩ (.slice A9 mn.length c9)).setCell ⟨gV, 1, none⟩ (.slice B9 qn.length d9)).setCell ⟨gV, 2, none⟩ (.int .i64 L1)).setCell ⟨gV, 3, none⟩ (.bool N1)) = setB wc gV (.slice A9 mn.length c9) (.slice B9 qn.length d9) (.int .i64 L1) (.bool N1) from rfl, ← hW]
              rw [← hW] at h9 hX hD hN
              replace hV := h9
              clear h9 hW s9 t9
              go_wp2_with fail
              go_roundw
              case rel =>
                exact ⟨k + 1, mn, qn, by omega, by go_num, by rw [HL.out.1, HL.out.2.1]; exact HNz.out.1, HNz.out.2.1, hD, by rw [HL.out.1, HL.out.2.1]; exact hV, hX⟩
              case measure => simp [intOf]; omega
            | true =>
              obtain ⟨e1, e2, e3, e4⟩ := HNz.out.2.2 rfl
              obtain ⟨f1, f2, -, -⟩ := HZ.out.2.1.2.2 rfl
              obtain ⟨f3, f4, -, -⟩ := HZ.out.2.2.2.2 rfl
              have e5 := HL.out.2.2.2.2.2 rfl
              have c2 := HC.out.2.1
              have c3 := HC.out.2.2
              rw [f1, f2, e3, e4, e5] at c2
              rw [f3, f4, e3, e4, e5] at c3
              rw [e1, e2, e3, e4] at hN
              rw [e5] at hV
              have HC2 := Lib.hid (And.intro c2 c3)
              have HEE := Lib.hid (And.intro e3 (And.intro e4 e5))
              clear c2 c3 e1 e2 e3 e4 e5 f1 f2 f3 f4
              have HQ := Lib.hid (And.intro hN (And.intro hD (And.intro hV hX)))
              obtain ⟨AV, cV, BV, dV, ⟨b0, b1, b2, b3, bf, bl⟩, sV, tV⟩ := hV
              clear hN hD hX sV tV
              go_upto_region 18 with fail
              clear b0 b1 b2 b3 bf bl
              obtain ⟨hN, hD, hV, hX⟩ := HQ.out
              clear HQ
              obtain ⟨g1, g2⟩ := (HE.out.1.ext hX).e_cell HA.out.1
              have hb2 : (ad.add (k * 2)).block ≠ wc.heap.size := Nat.ne_of_lt (Nat.lt_of_lt_of_le hb1 hX.size)
              have hb3 := Ne.symm hb2
              clear g2
              have H9D := Lib.hid hD
              have H9V := Lib.hid hV
              have H9N := Lib.hid hN
              have H9a := Lib.hid hX
              obtain ⟨AV, cV, BV, dV, bV, sV, tV⟩ := hV
              obtain ⟨o0, o1, o2, o3, of, ol⟩ := bV
              have n91 : gV ≠ wc.heap.size := Nat.ne_of_lt ol
              have n92 : wc.heap.size ≠ gV := Ne.symm n91
              clear hD hN hX
              have H9S := Lib.hid (And.intro o0 (And.intro o1 (And.intro o2 (And.intro o3 g1))))
              go_region_held3 (fun w' => w'.cell? ⟨gV, 0, none⟩ = some (.slice AV mi.length cV) ∧ w'.cell? ⟨gV, 1, none⟩ = some (.slice BV qi.length dV) ∧ w'.cell? ⟨gV, 2, none⟩ = some (.int .i64 0) ∧ w'.cell? ⟨gV, 3, none⟩ = some (.bool true) ∧ w'.cell? (ad.add (k * 2)) = some (.int .i64 a)) (go_keep) ((go_at_call 39; refine (HC2.out.1 AV cV BV dV _ (sV.ext (by repeat (first | assumption | exact Ext.refl _ | refine Ext.drewN ?_ _ | refine Ext.drew ?_ | refine Ext.alloc ?_ _ | refine Ext.trans ?_ (by assumption)))) (tV.ext (by repeat (first | assumption | exact Ext.refl _ | refine Ext.drewN ?_ _ | refine Ext.drew ?_ | refine Ext.alloc ?_ _ | refine Ext.trans ?_ (by assumption))))).mono ?_; rintro e wn ⟨AY, cY, BY, dY, rfl, sY, tY, hxx⟩; have hxw : Ext wc wn := (by repeat (first | assumption | exact Ext.refl _ | refine Ext.drewN ?_ _ | refine Ext.drew ?_ | refine Ext.alloc ?_ _ | refine Ext.trans ?_ (by assumption))); have y0 := hxw.cell H9S.out.1; have y1 := hxw.cell H9S.out.2.1; have y2 := hxw.cell H9S.out.2.2.1; have y3 := hxw.cell H9S.out.2.2.2.1; have y4 := hxw.cell H9S.out.2.2.2.2; clear hxw; (first | (refine (have hz : Box4 wn wc.heap.size (.slice none 0 0) (.slice none 0 0) (.int .i64 0) (.bool false) := ?_; ?_); exact Box4.ext (Box4.new wc _ _ _ _ _) (Ext.trans (Ext.drew (Ext.refl _)) hxx); obtain ⟨z0, z1, z2, z3, zf, zl⟩ := hz; have zf0 := zf 0; have zf1 := zf 1; have zf2 := zf 2; have zf3 := zf 3) | skip)))
              all_goals
                first
                  | (refine (have hz : DV (wn.alloc (Obj.cells #[.slice AY mi.length cY, .slice BY qi.length dY, .int .i64 0, .bool true] 25)) wn.heap.size mi qi 0 true ∧ Ext wc (wn.alloc (Obj.cells #[.slice AY mi.length cY, .slice BY qi.length dY, .int .i64 0, .bool true] 25)) ∧ wc.heap.size ≤ wn.heap.size := ?_; ?_)
                     · exact ⟨DV.new wn mi qi 0 true AY cY BY dY 25 sY tY, (((Ext.refl _).drew).trans hxx).alloc _, (((Ext.refl _).drew).trans hxx).size⟩
                     have HU := Lib.hid hz
                     clear hz o0 o1 o2 o3 of ol sV tV hxx sY tY n91 n92 H9S y0 y1 y2 y3 y4
                     go_upto_region 19 with fail
                     obtain ⟨W101, hW5⟩ : ∃ W, W = wn.alloc (Obj.cells #[.slice AY mi.length cY, .slice BY qi.length dY, .int .i64 0, .bool true] 25) := ⟨_, rfl⟩
                     obtain ⟨gY, hgU⟩ : ∃ g, wn.heap.size = g := ⟨_, rfl⟩
                     obtain ⟨hY, hxU, lU⟩ := HU.out
                     rw [← hW5] at hY hxU ⊢
                     rw [hgU] at hY lU ⊢
                     clear hW5 hgU HU)
                  | (refine (have hz : DV (setB wn wc.heap.size (.slice AY mi.length cY) (.slice BY qi.length dY) (.int .i64 0) (.bool true)) wc.heap.size mi qi 0 true ∧ Ext wc (setB wn wc.heap.size (.slice AY mi.length cY) (.slice BY qi.length dY) (.int .i64 0) (.bool true)) ∧ wc.heap.size ≤ wc.heap.size := ?_; ?_)
                     · exact ⟨(DV.mk (q := []) (m := []) (Box4.mk z0 z1 z2 z3 zf zl) (Sl.nil_ _) (Sl.nil_ _)).set sY tY (0) (true), Ext.setB (Ext.trans (Ext.drew ((Ext.refl _).alloc _)) hxx) (Nat.le_refl _) _ _ _ _, Nat.le_refl _⟩
                     have HU := Lib.hid hz
                     clear hz o0 o1 o2 o3 of ol sV tV sY tY hxx n91 n92 H9S y0 y1 y2 y3 y4
                     go_upto_region 19 with fail
                     clear z0 z1 z2 z3 zf zl zf0 zf1 zf2 zf3
                     obtain ⟨W101, hW5⟩ : ∃ W, W = setB wn wc.heap.size (.slice AY mi.length cY) (.slice BY qi.length dY) (.int .i64 0) (.bool true) := ⟨_, rfl⟩
                     obtain ⟨gY, hgU⟩ : ∃ g, wc.heap.size = g := ⟨_, rfl⟩
                     rw [show ((((wn.setCell ⟨wc.heap.size, 0, none⟩ (.slice AY mi.length cY)).setCell ⟨wc.heap.size, 1, none⟩ (.slice BY qi.length dY)).setCell ⟨wc.heap.size, 2, none⟩ (.int .i64 0)).setCell ⟨wc.heap.size, 3, none⟩ (.bool true)) = setB wn wc.heap.size (.slice AY mi.length cY) (.slice BY qi.length dY) (.int .i64 0) (.bool true) from rfl, ← hW5]
                     obtain ⟨hY, hxU, -⟩ := HU.out
                     rw [← hW5] at hY hxU
                     have lU := Nat.le_of_eq hgU
                     rw [hgU] at hY ⊢
                     clear hW5 hgU HU)
                have hD := H9D.out.ext hxU
                have neDY : gD ≠ gY := by have := H9D.out.lt; omega
                have hV := H9V.out.ext hxU
                have neVY : gV ≠ gY := by have := H9V.out.lt; omega
                have hN := H9N.out.ext hxU
                have neNY : gN ≠ gY := by have := H9N.out.lt; omega
                have loY := Nat.le_trans H9a.out.size lU
                have hX := H9a.out.trans hxU
                clear hxU lU H9a H9D H9V H9N
                clear g1 hb2 hb3
                obtain ⟨AV, cV, BV, dV, bV, sV, tV⟩ := hV
                obtain ⟨b0, b1, b2, b3, bf, bl⟩ := bV
                go_wp2_with fail
                refine (HC2.out.2 AV cV BV dV W101 sV tV).mono ?_
                rintro e W102 ⟨AZ, cZ, BZ, dZ, rfl, sZ, tZ, hxx⟩
                have hV := DV.mk (Box4.mk b0 b1 b2 b3 bf bl) sV tV
                clear b0 b1 b2 b3 bf bl
                go_upto_region 20 with fail
                have hZ := DV.new W102 mi qi 0 true AZ cZ BZ dZ 25 sZ tZ
                have neDZ : gD ≠ W102.heap.size := Nat.ne_of_lt (Nat.lt_of_lt_of_le hD.lt hxx.size)
                have neVZ : gV ≠ W102.heap.size := Nat.ne_of_lt (Nat.lt_of_lt_of_le hV.lt hxx.size)
                have neNZ : gN ≠ W102.heap.size := Nat.ne_of_lt (Nat.lt_of_lt_of_le hN.lt hxx.size)
                have neYZ : gY ≠ W102.heap.size := Nat.ne_of_lt (Nat.lt_of_lt_of_le hY.lt hxx.size)
                have loZ := Nat.le_trans hX.size hxx.size
                replace hxx := Ext.trans hxx ((Ext.refl W102).alloc (Obj.cells #[.slice AZ mi.length cZ, .slice BZ qi.length dZ, .int .i64 0, .bool true] 25))
                obtain ⟨W103, hW⟩ : ∃ W, W = W102.alloc (Obj.cells #[.slice AZ mi.length cZ, .slice BZ qi.length dZ, .int .i64 0, .bool true] 25) := ⟨_, rfl⟩
                obtain ⟨gZ, hg⟩ : ∃ g, W102.heap.size = g := ⟨_, rfl⟩
                rw [← hW] at hZ hxx ⊢
                rw [hg] at hZ loZ neDZ neVZ neNZ neYZ ⊢
                clear hW hg sZ tZ
                replace hD := hD.ext hxx
                replace hV := hV.ext hxx
                replace hN := hN.ext hxx
                replace hY := hY.ext hxx
                replace hX := hX.trans hxx
                clear hxx
                obtain ⟨AN, cN, BN, dN, bN, sN, tN⟩ := hN
                obtain ⟨b0, b1, b2, b3, bf, bl⟩ := bN
                obtain ⟨AV, cV, BV, dV, bV, sV, tV⟩ := hV
                obtain ⟨o0, o1, o2, o3, of, ol⟩ := bV
                go_wp2_with fail
                refine (dSame_yes mi qi 0 true AN cN BN dN AV cV BV dV W103 sN tN sV tV).mono ?_
                rintro e W104 ⟨rfl, hxx⟩
                have hN := DV.mk (Box4.mk b0 b1 b2 b3 bf bl) sN tN
                clear b0 b1 b2 b3 bf bl
                have hV := DV.mk (Box4.mk o0 o1 o2 o3 of ol) sV tV
                clear o0 o1 o2 o3 of ol
                replace hD := hD.ext hxx
                replace hV := hV.ext hxx
                replace hN := hN.ext hxx
                replace hY := hY.ext hxx
                replace hZ := hZ.ext hxx
                replace hX := hX.trans hxx
                clear hxx
                obtain ⟨AY, cY, BY, dY, bY, sY, tY⟩ := hY
                obtain ⟨b0, b1, b2, b3, bf, bl⟩ := bY
                obtain ⟨AV, cV, BV, dV, bV, sV, tV⟩ := hV
                obtain ⟨o0, o1, o2, o3, of, ol⟩ := bV
                go_wp2_with fail
                refine (dSame_yes mi qi 0 true AY cY BY dY AV cV BV dV W104 sY tY sV tV).mono ?_
                rintro e W105 ⟨rfl, hxx⟩
                have hY := DV.mk (Box4.mk b0 b1 b2 b3 bf bl) sY tY
                clear b0 b1 b2 b3 bf bl
                have hV := DV.mk (Box4.mk o0 o1 o2 o3 of ol) sV tV
                clear o0 o1 o2 o3 of ol
                replace hD := hD.ext hxx
                replace hV := hV.ext hxx
                replace hN := hN.ext hxx
                replace hY := hY.ext hxx
                replace hZ := hZ.ext hxx
                replace hX := hX.trans hxx
                clear hxx
                obtain ⟨AZ, cZ, BZ, dZ, bZ, sZ, tZ⟩ := hZ
                obtain ⟨b0, b1, b2, b3, bf, bl⟩ := bZ
                obtain ⟨AV, cV, BV, dV, bV, sV, tV⟩ := hV
                obtain ⟨o0, o1, o2, o3, of, ol⟩ := bV
                go_wp2_with fail
                refine (dSame_yes mi qi 0 true AZ cZ BZ dZ AV cV BV dV W105 sZ tZ sV tV).mono ?_
                rintro e W106 ⟨rfl, hxx⟩
                have hZ := DV.mk (Box4.mk b0 b1 b2 b3 bf bl) sZ tZ
                clear b0 b1 b2 b3 bf bl
                have hV := DV.mk (Box4.mk o0 o1 o2 o3 of ol) sV tV
                clear o0 o1 o2 o3 of ol
                replace hD := hD.ext hxx
                replace hV := hV.ext hxx
                replace hN := hN.ext hxx
                replace hY := hY.ext hxx
                replace hZ := hZ.ext hxx
                replace hX := hX.trans hxx
                clear hxx
                have h9 := hV
                have h7 := hN
                obtain ⟨A8, c8, B8, d8, b9, s8, t8⟩ := h9
                obtain ⟨b0, b1, b2, b3, bf, bl⟩ := b9
                obtain ⟨A9, c9, B9, d9, b7, s9, t9⟩ := h7
                obtain ⟨o0, o1, o2, o3, of, ol⟩ := b7
                go_upto_region 6 with fail
                clear b0 b1 b2 b3 bf bl s8 t8 o0 o1 o2 o3 of ol
                have h9 := hV.set s9 t9 (0) (true)
                replace hD := hD.far hV (by first | exact neDV | exact Ne.symm neVD) (.slice A9 mi.length c9) (.slice B9 qi.length d9) (.int .i64 0) (.bool true)
                replace hN := hN.far hV (by first | exact neNV | exact Ne.symm neVN) (.slice A9 mi.length c9) (.slice B9 qi.length d9) (.int .i64 0) (.bool true)
                replace hX := hX.setB loV (.slice A9 mi.length c9) (.slice B9 qi.length d9) (.int .i64 0) (.bool true)
                obtain ⟨W107, hW⟩ : ∃ W, W = setB W106 gV (.slice A9 mi.length c9) (.slice B9 qi.length d9) (.int .i64 0) (.bool true) := ⟨_, rfl⟩
                rw [show ((((W106.setCell ⟨gV, 0, none⟩ (.slice A9 mi.length c9)).setCell ⟨gV, 1, none⟩ (.slice B9 qi.length d9)).setCell ⟨gV, 2, none⟩ (.int .i64 0)).setCell ⟨gV, 3, none⟩ (.bool true)) = setB W106 gV (.slice A9 mi.length c9) (.slice B9 qi.length d9) (.int .i64 0) (.bool true) from rfl, ← hW]
                rw [← hW] at h9 hX hD hN
                replace hV := h9
                clear h9 hW s9 t9
                go_wp2_with fail
                go_roundw
                case rel =>
                  exact ⟨k + 1, mi, qi, by omega, by go_num, by rw [HL.out.1, HL.out.2.1, HEE.out.1, HEE.out.2.1, ← HEE.out.2.2]; exact HL.out.2.2.2.2.1, HL.out.2.2.2.1, hD, by rw [HL.out.1, HL.out.2.1, HEE.out.1, HEE.out.2.1]; exact hV, hX⟩
                case measure => simp [intOf]; omega
    · obtain rfl : k = l.length := by omega
      have HQ := Lib.hid hX
      clear hD hV hX
      go_wp2_with fail
      refine (alive03_any _).mono ?_
      rintro e w9 ⟨rfl, hx9⟩
      go_wp2_with fail
      go_ret
      exact ⟨rfl, HQ.out.trans hx9⟩
set_option maxRecDepth 100000 in
set_option maxHeartbeats 6400000 in
theorem cacheDown_any (m : List Int) (q : List Dw) (left : Int) (down : Bool) (l : List (Int × Int)) (ks : List Int) (A : Option Addr) (c : Nat) (B : Option Addr) (d : Nat) (E : Option Addr) (f : Nat) (K : Option Addr) (g : Nat) (w : World) (hA : Sl w A m.length c (fU m)) (hB : Sl w B q.length d (fD q)) (hE : Sl w E l.length f (fE l)) (hK : Sl w K ks.length g (fI ks)) (wl : WfE l) :
    Calls Try.prog 11 #[.agg #[.slice A m.length c, .slice B q.length d, .int .i64 left, .bool down], .slice E l.length f, .slice K ks.length g] w fun e w' => e = .returned (.bool true) ∧ Ext w w' := by
  by_cases hg : (decide (2100 < m.length) || decide (2100 < q.length)) = true
  · go_enter Try.func11, Try.ntmps11
    go_wp2_with fail
    refine (dGreat_any _ _ _ _ _ _ _ _ _).mono ?_
    rintro e w1 ⟨rfl, hx1⟩
    rw [hg]
    go_wp2_with fail
    refine (alive03_any _).mono ?_
    rintro e w2 ⟨rfl, hx2⟩
    go_wp2_with fail
    go_ret
    exact ⟨rfl, (by repeat (first | assumption | exact Ext.refl _ | refine Ext.drewN ?_ _ | refine Ext.drew ?_ | refine Ext.alloc ?_ _ | refine Ext.trans ?_ (by assumption)))⟩
  have hg' : (decide (2100 < m.length) || decide (2100 < q.length)) = false := by simpa using hg
  clear hg
  have H0 := Box4.new w (.slice A m.length c) (.slice B q.length d) (.int .i64 left) (.bool down) 25
  by_cases hd : devB m q left down = true
  rotate_left
  · have h0 := devE_no (by simpa using hd)
    go_enter Try.func11, Try.ntmps11
    go_wp2_with fail
    refine (dGreat_any _ _ _ _ _ _ _ _ _).mono ?_
    rintro e w1 ⟨rfl, hx1⟩
    rw [hg']
    obtain ⟨b0, b1, b2, b3, bf, bl⟩ := H0.ext (w' := w1) (by repeat (first | assumption | exact Ext.refl _ | refine Ext.drewN ?_ _ | refine Ext.drew ?_ | refine Ext.alloc ?_ _ | refine Ext.trans ?_ (by assumption)))
    go_wp2_with fail
    refine (dRefCk_any m q left down A c B d _ (hB.ext (by repeat (first | assumption | exact Ext.refl _ | refine Ext.drewN ?_ _ | refine Ext.drew ?_ | refine Ext.alloc ?_ _ | refine Ext.trans ?_ (by assumption))))).mono ?_
    rintro e w2 ⟨rfl, hx2⟩
    rw [h0]
    go_wp2_with fail
    refine (alive03_any _).mono ?_
    rintro e w3 ⟨rfl, hx3⟩
    go_wp2_with fail
    go_ret
    exact ⟨rfl, (by repeat (first | assumption | exact Ext.refl _ | refine Ext.drewN ?_ _ | refine Ext.drew ?_ | refine Ext.alloc ?_ _ | refine Ext.trans ?_ (by assumption)))⟩
  have h0 := devE_yes hd
  by_cases hr : (l.length : Int) ≤ 20
  rotate_left
  · have hn : (20 : Int) < l.length := by omega
    clear hr
    go_enter Try.func11, Try.ntmps11
    go_wp2_with fail
    refine (dGreat_any _ _ _ _ _ _ _ _ _).mono ?_
    rintro e w1 ⟨rfl, hx1⟩
    rw [hg']
    obtain ⟨b0, b1, b2, b3, bf, bl⟩ := H0.ext (w' := w1) (by repeat (first | assumption | exact Ext.refl _ | refine Ext.drewN ?_ _ | refine Ext.drew ?_ | refine Ext.alloc ?_ _ | refine Ext.trans ?_ (by assumption)))
    go_wp2_with fail
    refine (dRefCk_any m q left down A c B d _ (hB.ext (by repeat (first | assumption | exact Ext.refl _ | refine Ext.drewN ?_ _ | refine Ext.drew ?_ | refine Ext.alloc ?_ _ | refine Ext.trans ?_ (by assumption))))).mono ?_
    rintro e w2 ⟨rfl, hx2⟩
    rw [h0]
    clear b0 b1 b2 b3 bf bl
    obtain ⟨b0, b1, b2, b3, bf, bl⟩ := H0.ext (w' := w2) (by repeat (first | assumption | exact Ext.refl _ | refine Ext.drewN ?_ _ | refine Ext.drew ?_ | refine Ext.alloc ?_ _ | refine Ext.trans ?_ (by assumption)))
    go_wp2_with fail
    refine (alive03_any _).mono ?_
    rintro e w3 ⟨rfl, hx3⟩
    go_wp2_with fail
    go_ret
    exact ⟨rfl, (by repeat (first | assumption | exact Ext.refl _ | refine Ext.drewN ?_ _ | refine Ext.drew ?_ | refine Ext.alloc ?_ _ | refine Ext.trans ?_ (by assumption)))⟩
  have hr8 := hr
  clear hr
  by_cases hr : ks.length = l.length
  rotate_left
  · have hn : ((ks.length : Int) != l.length) = true := by simp; omega
    clear hr
    go_enter Try.func11, Try.ntmps11
    go_wp2_with fail
    refine (dGreat_any _ _ _ _ _ _ _ _ _).mono ?_
    rintro e w1 ⟨rfl, hx1⟩
    rw [hg']
    obtain ⟨b0, b1, b2, b3, bf, bl⟩ := H0.ext (w' := w1) (by repeat (first | assumption | exact Ext.refl _ | refine Ext.drewN ?_ _ | refine Ext.drew ?_ | refine Ext.alloc ?_ _ | refine Ext.trans ?_ (by assumption)))
    go_wp2_with fail
    refine (dRefCk_any m q left down A c B d _ (hB.ext (by repeat (first | assumption | exact Ext.refl _ | refine Ext.drewN ?_ _ | refine Ext.drew ?_ | refine Ext.alloc ?_ _ | refine Ext.trans ?_ (by assumption))))).mono ?_
    rintro e w2 ⟨rfl, hx2⟩
    rw [h0]
    clear b0 b1 b2 b3 bf bl
    obtain ⟨b0, b1, b2, b3, bf, bl⟩ := H0.ext (w' := w2) (by repeat (first | assumption | exact Ext.refl _ | refine Ext.drewN ?_ _ | refine Ext.drew ?_ | refine Ext.alloc ?_ _ | refine Ext.trans ?_ (by assumption)))
    go_wp2_with fail
    refine (alive03_any _).mono ?_
    rintro e w3 ⟨rfl, hx3⟩
    go_wp2_with fail
    go_ret
    exact ⟨rfl, (by repeat (first | assumption | exact Ext.refl _ | refine Ext.drewN ?_ _ | refine Ext.drew ?_ | refine Ext.alloc ?_ _ | refine Ext.trans ?_ (by assumption)))⟩
  have hr9 := hr
  clear hr
  exact cacheDown_main m q left down l ks A c B d E f K g w hA hB hE hK wl hg' hd (by assumption) (by assumption)
set_option maxRecDepth 100000 in
theorem cacheDown_lifted (os : Os) (started : os.Started) (H : Type) (enc : TypeId × Value → H) :
    ReturnsInHanded {} Try.checked os 11 .any (Rows.cacheDownSpec.pre6 enc Try.prog Try.f11 Rows.cacheDownRow.domain false) (Rows.cacheDownSpec.post enc Try.prog Try.f11 false true false false) := by
  refine returnsInHanded_of_change (C := Try.checked) own_knob started (by kernel_rfl) Try.func11
    (ChangeSpec.witness6 (enc := enc) (C := Try.checked) false ⟨#[], #[.agg #[.slice none 0 0, .slice none 0 0, .int .i64 0, .bool false], .slice none 0 0, .slice none 0 0], []⟩ 8 (by kernel_rfl) (by kernel_rfl) (by kernel_rfl) (by kernel_rfl)) ?_
  intro W base args ds gs before hval0 hW hcnd _
  have hval : ∀ (j : Nat) t v, Try.f11.params[j]? = some t → args[j]? = some v → Value.okWide Try.prog W .any base t v := hval0
  have hW' := hW
  obtain ⟨p, q, hA0, hV, rfl, hfz, hnd⟩ := hW
  have hA : DataW.TrodAll enc Try.prog W 0 (fun _ => true) true Try.f11.params.toList args.toList ds p := hA0
  rw [Try.params11] at hA hval
  obtain ⟨v0, vs0, d0, ds0, p0, q0, hargs, rfl, rfl, h0, r0⟩ := trodAll_cons hA
  obtain ⟨v1, vs1, d1, ds1, p1, q1, rfl, rfl, rfl, h1, r1⟩ := trodAll_cons r0
  obtain ⟨v2, vs2, d2, ds2, p2, q2, rfl, rfl, rfl, h2, r2⟩ := trodAll_cons r1
  obtain ⟨rfl, rfl, rfl⟩ := trodAll_nil r2
  obtain rfl : args = #[v0, v1, v2] := by cases args; simp_all
  obtain ⟨rfl, rfl⟩ := trodVars_none hV
  obtain ⟨A0, c0, m0, B0, k0, ds0, left0, down0, rfl, hS0, wA0, hB0, wB0, wl0⟩ := op_V (hval 0 25 v0 rfl rfl) h0
  obtain ⟨A1, c1, l1, rfl, hS1, wA1⟩ := op_E (hval 1 71 v1 rfl rfl) h1
  obtain ⟨A2, c2, m2, rfl, hS2, wA2⟩ := op_I (hval 2 39 v2 rfl rfl) h2
  clear hA0 hval0 hval hA
  refine (cacheDown_any m0 ds0 left0 down0 l1 m2 A0 c0 B0 k0 A1 c1 A2 c2 W hS0 hB0 hS1 hS2 wA1).mono fun e W' ⟨he, hx⟩ => ?_
  subst he
  exact ⟨_, rfl, post_law laid_out (by kernel_rfl) hW' rfl rfl rfl Try.underlying4 hx⟩
theorem cacheDown_holds : Rows.CacheDownSaid :=
  OpenClaim.holds_of_wide 11 Try.f11 rfl rfl rfl rfl rfl rfl rfl ⟨rfl, rfl, rfl, rfl, rfl⟩ rfl rfl rfl rfl rfl (by kernel_rfl) Try.func11 (by kernel_rfl)
    (of_decide_eq_true (by kernel_rfl)) (by unfold Func.isWrapper; first | (rw [if_pos (by decide +kernel)]; kernel_rfl) | (rw [if_neg (by decide +kernel)]; exact ⟨rfl, rfl⟩))
    (fun os started H enc _ => cacheDown_lifted os started H enc)
end Go.Proofs.Ytmmcbleoglgamaa
