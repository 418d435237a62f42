/-
  CrashFenced, for every device, every address, every two words and every mask: the law returns true. No condition.
-/
import Derived.Test.YtmmcbleoglgamaaDV
import Derived.Test.YtmmcbleoglgamaaCrWord
import Derived.Test.YtmmcbleoglgamaaAlive04
import Derived.Test.YtmmcbleoglgamaaOpen
namespace Go.Proofs.Ytmmcbleoglgamaa
open Go.ChangeShapes Go.WideShapes Go.ChangeAt Go.RowKit
theorem ins_mem (a v : Int) : ∀ q : List Dw, ((a, v, false) : Dw) ∈ insD a v q
  | [] => by simp [insD]
  | x :: l => by
    unfold insD
    split
    · exact List.mem_cons_of_mem _ (ins_mem a v l)
    · split <;> exact List.mem_cons_self ..
theorem crf_facts {m : List Int} {q : List Dw} (a v z mask : Int) (hasc : ascB m.length (-1) q = true) (a0 : 0 ≤ a) (a1 : a < m.length) :
    (crM mask 0 (fenM m (fluD a (insD a v q))) (fenD (fluD a (insD a v q)))).getD a.toNat 0 = v ∧
    ((crM mask 0 (fenM m (fluD a (insD a v q))) (insD a z (fenD (fluD a (insD a v q))))).getD a.toNat 0 = v ∨ (crM mask 0 (fenM m (fluD a (insD a v q))) (insD a z (fenD (fluD a (insD a v q))))).getD a.toNat 0 = z) := by
  have h1 : ascB m.length (-1) (insD a v q) = true := ascB_ins (by omega) a1 hasc
  have h2 : ascB m.length (-1) (fluD a (insD a v q)) = true := ascB_flu h1
  have hm : ((a, v, true) : Dw) ∈ fluD a (insD a v q) := List.mem_map.2 ⟨(a, v, false), ins_mem a v q, by simp⟩
  obtain ⟨q2, hq2⟩ : ∃ x, fluD a (insD a v q) = x := ⟨_, rfl⟩
  rw [hq2] at h2 hm ⊢
  have h3 := fenM_at (m := m) (by decide) h2 rfl _ hm rfl
  simp only at h3
  have h4 : ascB (fenM m q2).length (-1) (fenD q2) = true := by rw [fenM_length]; exact ascB_fen h2
  have hfar : ∀ x ∈ fenD q2, x.1.toNat ≠ a.toNat := by
    intro x hx e
    obtain ⟨hx1, hx2⟩ := List.mem_filter.1 hx
    have k1 := ascB_mem h2 x hx1
    have := asc_inj h2 x hx1 _ hm (by simp only; omega)
    rw [this] at hx2
    simp at hx2
  have h5 : ascB (fenM m q2).length (-1) (insD a z (fenD q2)) = true := ascB_ins (by omega) (by rw [fenM_length]; exact a1) h4
  refine ⟨by rw [List.getD, crM_far hfar, h3]; rfl, ?_⟩
  rcases crM_or (mask := mask) h5 rfl a.toNat with h | h
  · left; rw [List.getD, h, h3]; rfl
  · right
    rw [List.getD, h, wrd_ins a0 (by decide) h4, List.getElem?_set_self (by rw [wrd_length, fenM_length]; omega)]
    rfl
theorem dCrash_ok {m : List Int} {q : List Dw} {left : Int} {down : Bool} {mask : Int} (hd : devB m q left down = true) (hm : InU mask) (A : Option Addr) (c : Nat) (B : Option Addr) (d : Nat) (w : World) (hA : Sl w A m.length c (fU m)) (hB : Sl w B q.length d (fD q)) :
    Calls Try.prog 19 #[.agg #[.slice A m.length c, .slice B q.length d, .int .i64 left, .bool down], .int .u64 mask] w (RetV w (crM mask 0 m q, [], -1, false) 0) := by
  have := dCrash_any m q left down mask A c B d w hA hB hm
  rw [devE_yes hd, crashV_ok hd] at this
  exact this
set_option maxRecDepth 100000 in
set_option maxHeartbeats 6400000 in
theorem crashFenced_0 (m : List Int) (q : List Dw) (a v z mask : Int) (A : Option Addr) (c : Nat) (B : Option Addr) (d : Nat) (w : World) (hA : Sl w A m.length c (fU m)) (hB : Sl w B q.length d (fD q)) (hg' : (decide (2100 < m.length) || decide (2100 < q.length)) = false) (hd : devB m q (-1) false = true) (a0 : 0 ≤ a) (a1 : a < m.length) (hv : InU v) (hz : InU z) (hmk : InU mask)
    (hc : (crM mask 0 (fenM m (fluD a (insD a v q))) (insD a z (fenD (fluD a (insD a v q))))).getD a.toNat 0 = v) :
    Calls Try.prog 15 #[.agg #[.slice A m.length c, .slice B q.length d, .int .i64 (-1), .bool false], .int .i64 a, .int .u64 v, .int .u64 z, .int .u64 mask] w fun e w' => e = .returned (.bool true) ∧ Ext w w' := by
  have h0 := devE_yes hd
  have H0 := Box4.new w (.slice A m.length c) (.slice B q.length d) (.int .i64 (-1)) (.bool false) 25
  have hf := (crf_facts a v z mask (devB_bd hd).2.2.2.2 a0 a1).1
  have e1 : stepD (m, q, -1, false) (.st a v) = (m, insD a v q, -1, false) := by simp [stepD, effD, spL]
  have u1 := devB_step (o := .st a v) hd ⟨a0, a1, hv⟩
  rw [e1] at u1
  have e2 : stepD (m, insD a v q, -1, false) (.fl a) = (m, fluD a (insD a v q), -1, false) := by simp [stepD, effD, spL]
  have u2 := devB_step (o := .fl a) u1.1 ⟨a0, by rw [u1.2]; exact a1⟩
  rw [e2] at u2
  have e3 : stepD (m, fluD a (insD a v q), -1, false) .fe = (fenM m (fluD a (insD a v q)), fenD (fluD a (insD a v q)), -1, false) := by simp [stepD, effD, spL]
  have u3 := devB_step (o := .fe) u2.1 trivial
  rw [e3] at u3
  have h1 := fun A c B d W (ha : Sl W A m.length c (fU m)) (hb : Sl W B q.length d (fD q)) => dStore_ok (a := a) v hd a0 a1 A c B d W ha hb
  rw [e1] at h1
  obtain ⟨q1, hq1⟩ : ∃ x, insD a v q = x := ⟨_, rfl⟩
  rw [hq1] at h1 u1 u2 u3 hf hc e2 e3
  have h2 := fun A c B d W (ha : Sl W A m.length c (fU m)) (hb : Sl W B q1.length d (fD q1)) => dFlush_ok (a := a) u1.1 a0 a1 A c B d W ha hb
  rw [e2] at h2
  obtain ⟨q2, hq2⟩ : ∃ x, fluD a q1 = x := ⟨_, rfl⟩
  rw [hq2] at h2 u2 u3 hf hc e3
  have h3 := fun A c B d W (ha : Sl W A m.length c (fU m)) (hb : Sl W B q2.length d (fD q2)) => dFence_ok u2.1 A c B d W ha hb
  rw [e3] at h3
  obtain ⟨m3, hm3⟩ : ∃ x, fenM m q2 = x := ⟨_, rfl⟩
  obtain ⟨q3, hq3⟩ : ∃ x, fenD q2 = x := ⟨_, rfl⟩
  rw [hm3, hq3] at h3 u3 hf hc
  simp only at u3
  have a3 : a < m3.length := by rw [u3.2]; exact a1
  have e4 : stepD (m3, q3, -1, false) (.st a z) = (m3, insD a z q3, -1, false) := by simp [stepD, effD, spL]
  have u4 := devB_step (o := .st a z) u3.1 ⟨a0, a3, hz⟩
  have h4 := fun A c B d W (ha : Sl W A m3.length c (fU m3)) (hb : Sl W B q3.length d (fD q3)) => dStore_ok (a := a) z u3.1 a0 a3 A c B d W ha hb
  rw [e4] at h4 u4
  obtain ⟨q4, hq4⟩ : ∃ x, insD a z q3 = x := ⟨_, rfl⟩
  rw [hq4] at h4 u4 hc
  simp only at u4
  have h5 := fun A c B d W (ha : Sl W A m3.length c (fU m3)) (hb : Sl W B q3.length d (fD q3)) => dCrash_ok (mask := mask) u3.1 hmk A c B d W ha hb
  have h6 := fun A c B d W (ha : Sl W A m3.length c (fU m3)) (hb : Sl W B q4.length d (fD q4)) => dCrash_ok (mask := mask) u4.1 hmk A c B d W ha hb
  have v5 := devB_cr u3.1 (crM mask 0 m3 q3) (crM_length ..)
  have v6 := devB_cr u4.1 (crM mask 0 m3 q4) (crM_length ..)
  have k5 : (crM mask 0 m3 q3).length = m3.length := crM_length ..
  have k6 : (crM mask 0 m3 q4).length = m3.length := crM_length ..
  obtain ⟨m5, hm5⟩ : ∃ x, crM mask 0 m3 q3 = x := ⟨_, rfl⟩
  obtain ⟨m6, hm6⟩ : ∃ x, crM mask 0 m3 q4 = x := ⟨_, rfl⟩
  rw [hm5] at h5 v5 k5 hf
  rw [hm6] at h6 v6 k6 hc
  obtain ⟨q5, hq5⟩ : ∃ x : List Dw, [] = x := ⟨_, rfl⟩
  rw [hq5] at h5 v5 h6 v6
  have h7 := fun A c B d W (ha : Sl W A m5.length c (fU m5)) (hb : Sl W B q5.length d (fD q5)) => dLoad_ok (a := a) v5 a0 (by rw [k5]; exact a3) A c B d W ha hb
  have h8 := fun A c B d W (ha : Sl W A m6.length c (fU m6)) (hb : Sl W B q5.length d (fD q5)) => dLoad_ok (a := a) v6 a0 (by rw [k6]; exact a3) A c B d W ha hb
  rw [show ldV m5 q5 a = v from by rw [← hq5]; exact hf] at h7
  rw [show ldV m6 q5 a = v from by rw [← hq5]; exact hc] at h8
  have HH := Lib.hid (And.intro h1 (And.intro h2 (And.intro h3 (And.intro h4 (And.intro h5 (And.intro h6 (And.intro h7 h8)))))))
  skip
  clear h1 h2 h3 h4 h5 h6 h7 h8 u1 u2 u3 u4 v5 v6 k5 k6 hf hc e1 e2 e3 e4 hq1 hq2 hq3 hq4 hq5 hm3 hm5 hm6 a3 
  have hD := DV.new w m q (-1) false A c B d 25 hA hB
  go_enter Try.func15, Try.ntmps15
  go_wp2_with fail
  refine (dGreat_any _ _ _ _ _ _ _ _ _).mono ?_
  rintro e w1 ⟨rfl, hx1⟩
  rw [hg']
  obtain ⟨b0, b1, b2, b3, bf, bl⟩ := H0.ext (w' := w1) (by repeat (first | assumption | exact Ext.refl _ | refine Ext.drewN ?_ _ | refine Ext.drew ?_ | refine Ext.alloc ?_ _ | refine Ext.trans ?_ (by assumption)))
  go_wp2_with fail
  refine (dRefCk_any m q (-1) false A c B d _ (hB.ext (by repeat (first | assumption | exact Ext.refl _ | refine Ext.drewN ?_ _ | refine Ext.drew ?_ | refine Ext.alloc ?_ _ | refine Ext.trans ?_ (by assumption))))).mono ?_
  rintro e w2 ⟨rfl, hx2⟩
  rw [h0]
  replace hD := hD.ext (hx1.trans hx2)
  have hX : Ext w w2 := Ext.trans ((Ext.refl w).alloc _) (hx1.trans hx2)
  clear b0 b1 b2 b3 bf bl hx1 hx2 H0
  obtain ⟨gD, hgD⟩ : ∃ g, w.heap.size = g := ⟨_, rfl⟩
  have loD : w.heap.size ≤ gD := Nat.le_of_eq hgD
  have HgD := Lib.hid hgD
  rw [hgD] at hD ⊢
  clear hgD
  obtain ⟨AD, cD, BD, dD, bD, sD, tD⟩ := hD
  obtain ⟨b0, b1, b2, b3, bf, bl⟩ := bD
  go_wp2_with fail
  refine (HH.out.1 AD cD BD dD w2 sD tD).mono ?_
  rintro e W101 ⟨AS, cS, BS, dS, rfl, sS, tS, hxx⟩
  have hD := DV.mk (Box4.mk b0 b1 b2 b3 bf bl) sD tD
  clear b0 b1 b2 b3 bf bl
  go_upto_region 4 with fail
  have hS := DV.new W101 m q1 ((-1)) false AS cS BS dS 25 sS tS
  have neDS : gD ≠ W101.heap.size := Nat.ne_of_lt (Nat.lt_of_lt_of_le hD.lt hxx.size)
  have loS := Nat.le_trans hX.size hxx.size
  replace hxx := Ext.trans hxx ((Ext.refl W101).alloc (Obj.cells #[.slice AS m.length cS, .slice BS q1.length dS, .int .i64 (-1), .bool false] 25))
  obtain ⟨W102, hW⟩ : ∃ W, W = W101.alloc (Obj.cells #[.slice AS m.length cS, .slice BS q1.length dS, .int .i64 (-1), .bool false] 25) := ⟨_, rfl⟩
  obtain ⟨gS, hg⟩ : ∃ g, W101.heap.size = g := ⟨_, rfl⟩
  rw [← hW] at hS hxx ⊢
  rw [hg] at hS loS neDS ⊢
  clear hW hg sS tS
  replace hD := hD.ext hxx
  replace hX := hX.trans hxx
  clear hxx
  obtain ⟨AS, cS, BS, dS, bS, sS, tS⟩ := hS
  obtain ⟨b0, b1, b2, b3, bf, bl⟩ := bS
  go_wp2_with fail
  refine (HH.out.2.1 AS cS BS dS W102 sS tS).mono ?_
  rintro e W103 ⟨A9, c9, B9, d9, rfl, s9, t9, hxx⟩
  have hS := DV.mk (Box4.mk b0 b1 b2 b3 bf bl) sS tS
  clear b0 b1 b2 b3 bf bl
  replace hD := hD.ext hxx
  replace hS := hS.ext hxx
  replace hX := hX.trans hxx
  have h9 := hS
  obtain ⟨A8, c8, B8, d8, b9, s8, t8⟩ := h9
  obtain ⟨b0, b1, b2, b3, bf, bl⟩ := b9
  go_upto_region 5 with fail
  clear b0 b1 b2 b3 bf bl s8 t8 hxx
  have h9 := hS.set s9 t9 ((-1)) (false)
  replace hD := hD.far hS (by first | exact neDS | exact Ne.symm neSD) (.slice A9 m.length c9) (.slice B9 q2.length d9) (.int .i64 (-1)) (.bool false)
  replace hX := hX.setB loS (.slice A9 m.length c9) (.slice B9 q2.length d9) (.int .i64 (-1)) (.bool false)
  obtain ⟨W104, hW⟩ : ∃ W, W = setB W103 gS (.slice A9 m.length c9) (.slice B9 q2.length d9) (.int .i64 (-1)) (.bool false) := ⟨_, rfl⟩
  rw [show ((((W103.setCell ⟨gS, 0, none⟩ (.slice A9 m.length c9)).setCell ⟨gS, 1, none⟩ (.slice B9 q2.length d9)).setCell ⟨gS, 2, none⟩ (.int .i64 (-1))).setCell ⟨gS, 3, none⟩ (.bool false)) = setB W103 gS (.slice A9 m.length c9) (.slice B9 q2.length d9) (.int .i64 (-1)) (.bool false) from rfl, ← hW]
  rw [← hW] at h9 hX hD
  replace hS := h9
  clear h9 hW s9 t9
  obtain ⟨AS, cS, BS, dS, bS, sS, tS⟩ := hS
  obtain ⟨b0, b1, b2, b3, bf, bl⟩ := bS
  go_wp2_with fail
  refine (HH.out.2.2.1 AS cS BS dS W104 sS tS).mono ?_
  rintro e W105 ⟨A9, c9, B9, d9, rfl, s9, t9, hxx⟩
  have hS := DV.mk (Box4.mk b0 b1 b2 b3 bf bl) sS tS
  clear b0 b1 b2 b3 bf bl
  replace hD := hD.ext hxx
  replace hS := hS.ext hxx
  replace hX := hX.trans hxx
  have h9 := hS
  obtain ⟨A8, c8, B8, d8, b9, s8, t8⟩ := h9
  obtain ⟨b0, b1, b2, b3, bf, bl⟩ := b9
  go_upto_region 6 with fail
  clear b0 b1 b2 b3 bf bl s8 t8 hxx
  have h9 := hS.set s9 t9 ((-1)) (false)
  replace hD := hD.far hS (by first | exact neDS | exact Ne.symm neSD) (.slice A9 m3.length c9) (.slice B9 q3.length d9) (.int .i64 (-1)) (.bool false)
  replace hX := hX.setB loS (.slice A9 m3.length c9) (.slice B9 q3.length d9) (.int .i64 (-1)) (.bool false)
  obtain ⟨W106, hW⟩ : ∃ W, W = setB W105 gS (.slice A9 m3.length c9) (.slice B9 q3.length d9) (.int .i64 (-1)) (.bool false) := ⟨_, rfl⟩
  rw [show ((((W105.setCell ⟨gS, 0, none⟩ (.slice A9 m3.length c9)).setCell ⟨gS, 1, none⟩ (.slice B9 q3.length d9)).setCell ⟨gS, 2, none⟩ (.int .i64 (-1))).setCell ⟨gS, 3, none⟩ (.bool false)) = setB W105 gS (.slice A9 m3.length c9) (.slice B9 q3.length d9) (.int .i64 (-1)) (.bool false) from rfl, ← hW]
  rw [← hW] at h9 hX hD
  replace hS := h9
  clear h9 hW s9 t9
  obtain ⟨AS, cS, BS, dS, bS, sS, tS⟩ := hS
  obtain ⟨b0, b1, b2, b3, bf, bl⟩ := bS
  go_wp2_with fail
  refine (HH.out.2.2.2.2.1 AS cS BS dS W106 sS tS).mono ?_
  rintro e W107 ⟨AP, cP, BP, dP, rfl, sP, tP, hxx⟩
  have hS := DV.mk (Box4.mk b0 b1 b2 b3 bf bl) sS tS
  clear b0 b1 b2 b3 bf bl
  go_upto_region 7 with fail
  have hP := DV.new W107 m5 q5 ((-1)) false AP cP BP dP 25 sP tP
  have neDP : gD ≠ W107.heap.size := Nat.ne_of_lt (Nat.lt_of_lt_of_le hD.lt hxx.size)
  have neSP : gS ≠ W107.heap.size := Nat.ne_of_lt (Nat.lt_of_lt_of_le hS.lt hxx.size)
  have loP := Nat.le_trans hX.size hxx.size
  replace hxx := Ext.trans hxx ((Ext.refl W107).alloc (Obj.cells #[.slice AP m5.length cP, .slice BP q5.length dP, .int .i64 (-1), .bool false] 25))
  obtain ⟨W108, hW⟩ : ∃ W, W = W107.alloc (Obj.cells #[.slice AP m5.length cP, .slice BP q5.length dP, .int .i64 (-1), .bool false] 25) := ⟨_, rfl⟩
  obtain ⟨gP, hg⟩ : ∃ g, W107.heap.size = g := ⟨_, rfl⟩
  rw [← hW] at hP hxx ⊢
  rw [hg] at hP loP neDP neSP ⊢
  clear hW hg sP tP
  replace hD := hD.ext hxx
  replace hS := hS.ext hxx
  replace hX := hX.trans hxx
  clear hxx
  obtain ⟨AS, cS, BS, dS, bS, sS, tS⟩ := hS
  obtain ⟨b0, b1, b2, b3, bf, bl⟩ := bS
  go_wp2_with fail
  refine (HH.out.2.2.2.1 AS cS BS dS W108 sS tS).mono ?_
  rintro e W109 ⟨AR, cR, BR, dR, rfl, sR, tR, hxx⟩
  have hS := DV.mk (Box4.mk b0 b1 b2 b3 bf bl) sS tS
  clear b0 b1 b2 b3 bf bl
  go_upto_region 8 with fail
  have hR := DV.new W109 m3 q4 ((-1)) false AR cR BR dR 25 sR tR
  have neDR : gD ≠ W109.heap.size := Nat.ne_of_lt (Nat.lt_of_lt_of_le hD.lt hxx.size)
  have neSR : gS ≠ W109.heap.size := Nat.ne_of_lt (Nat.lt_of_lt_of_le hS.lt hxx.size)
  have nePR : gP ≠ W109.heap.size := Nat.ne_of_lt (Nat.lt_of_lt_of_le hP.lt hxx.size)
  have loR := Nat.le_trans hX.size hxx.size
  replace hxx := Ext.trans hxx ((Ext.refl W109).alloc (Obj.cells #[.slice AR m3.length cR, .slice BR q4.length dR, .int .i64 (-1), .bool false] 25))
  obtain ⟨W110, hW⟩ : ∃ W, W = W109.alloc (Obj.cells #[.slice AR m3.length cR, .slice BR q4.length dR, .int .i64 (-1), .bool false] 25) := ⟨_, rfl⟩
  obtain ⟨gR, hg⟩ : ∃ g, W109.heap.size = g := ⟨_, rfl⟩
  rw [← hW] at hR hxx ⊢
  rw [hg] at hR loR neDR neSR nePR ⊢
  clear hW hg sR tR
  replace hD := hD.ext hxx
  replace hS := hS.ext hxx
  replace hP := hP.ext hxx
  replace hX := hX.trans hxx
  clear hxx
  obtain ⟨AR, cR, BR, dR, bR, sR, tR⟩ := hR
  obtain ⟨b0, b1, b2, b3, bf, bl⟩ := bR
  go_wp2_with fail
  refine (HH.out.2.2.2.2.2.1 AR cR BR dR W110 sR tR).mono ?_
  rintro e W111 ⟨AQ, cQ, BQ, dQ, rfl, sQ, tQ, hxx⟩
  have hR := DV.mk (Box4.mk b0 b1 b2 b3 bf bl) sR tR
  clear b0 b1 b2 b3 bf bl
  go_upto_region 9 with fail
  have hQ := DV.new W111 m6 q5 ((-1)) false AQ cQ BQ dQ 25 sQ tQ
  have neDQ : gD ≠ W111.heap.size := Nat.ne_of_lt (Nat.lt_of_lt_of_le hD.lt hxx.size)
  have neSQ : gS ≠ W111.heap.size := Nat.ne_of_lt (Nat.lt_of_lt_of_le hS.lt hxx.size)
  have nePQ : gP ≠ W111.heap.size := Nat.ne_of_lt (Nat.lt_of_lt_of_le hP.lt hxx.size)
  have neRQ : gR ≠ W111.heap.size := Nat.ne_of_lt (Nat.lt_of_lt_of_le hR.lt hxx.size)
  have loQ := Nat.le_trans hX.size hxx.size
  replace hxx := Ext.trans hxx ((Ext.refl W111).alloc (Obj.cells #[.slice AQ m6.length cQ, .slice BQ q5.length dQ, .int .i64 (-1), .bool false] 25))
  obtain ⟨W112, hW⟩ : ∃ W, W = W111.alloc (Obj.cells #[.slice AQ m6.length cQ, .slice BQ q5.length dQ, .int .i64 (-1), .bool false] 25) := ⟨_, rfl⟩
  obtain ⟨gQ, hg⟩ : ∃ g, W111.heap.size = g := ⟨_, rfl⟩
  rw [← hW] at hQ hxx ⊢
  rw [hg] at hQ loQ neDQ neSQ nePQ neRQ ⊢
  clear hW hg sQ tQ
  replace hD := hD.ext hxx
  replace hS := hS.ext hxx
  replace hP := hP.ext hxx
  replace hR := hR.ext hxx
  replace hX := hX.trans hxx
  clear hxx
  obtain ⟨AP, cP, BP, dP, bP, sP, tP⟩ := hP
  obtain ⟨b0, b1, b2, b3, bf, bl⟩ := bP
  go_wp2_with fail
  refine (HH.out.2.2.2.2.2.2.1 AP cP BP dP W112 sP tP).mono ?_
  rintro e W113 ⟨rfl, hxx⟩
  have hP := DV.mk (Box4.mk b0 b1 b2 b3 bf bl) sP tP
  clear b0 b1 b2 b3 bf bl
  replace hD := hD.ext hxx
  replace hS := hS.ext hxx
  replace hP := hP.ext hxx
  replace hR := hR.ext hxx
  replace hQ := hQ.ext hxx
  replace hX := hX.trans hxx
  clear hxx
  obtain ⟨AQ, cQ, BQ, dQ, bQ, sQ, tQ⟩ := hQ
  obtain ⟨b0, b1, b2, b3, bf, bl⟩ := bQ
  go_wp2_with fail
  refine (HH.out.2.2.2.2.2.2.2 AQ cQ BQ dQ W113 sQ tQ).mono ?_
  rintro e W114 ⟨rfl, hxx⟩
  have hQ := DV.mk (Box4.mk b0 b1 b2 b3 bf bl) sQ tQ
  clear b0 b1 b2 b3 bf bl
  replace hD := hD.ext hxx
  replace hS := hS.ext hxx
  replace hP := hP.ext hxx
  replace hR := hR.ext hxx
  replace hQ := hQ.ext hxx
  replace hX := hX.trans hxx
  clear hxx
  go_wp2_with fail
  refine (alive04_any _).mono ?_
  rintro e w9 ⟨rfl, hx9⟩
  go_wp2_with fail
  go_ret
  exact ⟨rfl, hX.trans hx9⟩
set_option maxRecDepth 100000 in
set_option maxHeartbeats 6400000 in
theorem crashFenced_1 (m : List Int) (q : List Dw) (a v z mask : Int) (A : Option Addr) (c : Nat) (B : Option Addr) (d : Nat) (w : World) (hA : Sl w A m.length c (fU m)) (hB : Sl w B q.length d (fD q)) (hg' : (decide (2100 < m.length) || decide (2100 < q.length)) = false) (hd : devB m q (-1) false = true) (a0 : 0 ≤ a) (a1 : a < m.length) (hv : InU v) (hz : InU z) (hmk : InU mask)
    (hc : (crM mask 0 (fenM m (fluD a (insD a v q))) (insD a z (fenD (fluD a (insD a v q))))).getD a.toNat 0 = z) (hvz : z ≠ v) :
    Calls Try.prog 15 #[.agg #[.slice A m.length c, .slice B q.length d, .int .i64 (-1), .bool false], .int .i64 a, .int .u64 v, .int .u64 z, .int .u64 mask] w fun e w' => e = .returned (.bool true) ∧ Ext w w' := by
  have h0 := devE_yes hd
  have H0 := Box4.new w (.slice A m.length c) (.slice B q.length d) (.int .i64 (-1)) (.bool false) 25
  have hf := (crf_facts a v z mask (devB_bd hd).2.2.2.2 a0 a1).1
  have e1 : stepD (m, q, -1, false) (.st a v) = (m, insD a v q, -1, false) := by simp [stepD, effD, spL]
  have u1 := devB_step (o := .st a v) hd ⟨a0, a1, hv⟩
  rw [e1] at u1
  have e2 : stepD (m, insD a v q, -1, false) (.fl a) = (m, fluD a (insD a v q), -1, false) := by simp [stepD, effD, spL]
  have u2 := devB_step (o := .fl a) u1.1 ⟨a0, by rw [u1.2]; exact a1⟩
  rw [e2] at u2
  have e3 : stepD (m, fluD a (insD a v q), -1, false) .fe = (fenM m (fluD a (insD a v q)), fenD (fluD a (insD a v q)), -1, false) := by simp [stepD, effD, spL]
  have u3 := devB_step (o := .fe) u2.1 trivial
  rw [e3] at u3
  have h1 := fun A c B d W (ha : Sl W A m.length c (fU m)) (hb : Sl W B q.length d (fD q)) => dStore_ok (a := a) v hd a0 a1 A c B d W ha hb
  rw [e1] at h1
  obtain ⟨q1, hq1⟩ : ∃ x, insD a v q = x := ⟨_, rfl⟩
  rw [hq1] at h1 u1 u2 u3 hf hc e2 e3
  have h2 := fun A c B d W (ha : Sl W A m.length c (fU m)) (hb : Sl W B q1.length d (fD q1)) => dFlush_ok (a := a) u1.1 a0 a1 A c B d W ha hb
  rw [e2] at h2
  obtain ⟨q2, hq2⟩ : ∃ x, fluD a q1 = x := ⟨_, rfl⟩
  rw [hq2] at h2 u2 u3 hf hc e3
  have h3 := fun A c B d W (ha : Sl W A m.length c (fU m)) (hb : Sl W B q2.length d (fD q2)) => dFence_ok u2.1 A c B d W ha hb
  rw [e3] at h3
  obtain ⟨m3, hm3⟩ : ∃ x, fenM m q2 = x := ⟨_, rfl⟩
  obtain ⟨q3, hq3⟩ : ∃ x, fenD q2 = x := ⟨_, rfl⟩
  rw [hm3, hq3] at h3 u3 hf hc
  simp only at u3
  have a3 : a < m3.length := by rw [u3.2]; exact a1
  have e4 : stepD (m3, q3, -1, false) (.st a z) = (m3, insD a z q3, -1, false) := by simp [stepD, effD, spL]
  have u4 := devB_step (o := .st a z) u3.1 ⟨a0, a3, hz⟩
  have h4 := fun A c B d W (ha : Sl W A m3.length c (fU m3)) (hb : Sl W B q3.length d (fD q3)) => dStore_ok (a := a) z u3.1 a0 a3 A c B d W ha hb
  rw [e4] at h4 u4
  obtain ⟨q4, hq4⟩ : ∃ x, insD a z q3 = x := ⟨_, rfl⟩
  rw [hq4] at h4 u4 hc
  simp only at u4
  have h5 := fun A c B d W (ha : Sl W A m3.length c (fU m3)) (hb : Sl W B q3.length d (fD q3)) => dCrash_ok (mask := mask) u3.1 hmk A c B d W ha hb
  have h6 := fun A c B d W (ha : Sl W A m3.length c (fU m3)) (hb : Sl W B q4.length d (fD q4)) => dCrash_ok (mask := mask) u4.1 hmk A c B d W ha hb
  have v5 := devB_cr u3.1 (crM mask 0 m3 q3) (crM_length ..)
  have v6 := devB_cr u4.1 (crM mask 0 m3 q4) (crM_length ..)
  have k5 : (crM mask 0 m3 q3).length = m3.length := crM_length ..
  have k6 : (crM mask 0 m3 q4).length = m3.length := crM_length ..
  obtain ⟨m5, hm5⟩ : ∃ x, crM mask 0 m3 q3 = x := ⟨_, rfl⟩
  obtain ⟨m6, hm6⟩ : ∃ x, crM mask 0 m3 q4 = x := ⟨_, rfl⟩
  rw [hm5] at h5 v5 k5 hf
  rw [hm6] at h6 v6 k6 hc
  obtain ⟨q5, hq5⟩ : ∃ x : List Dw, [] = x := ⟨_, rfl⟩
  rw [hq5] at h5 v5 h6 v6
  have h7 := fun A c B d W (ha : Sl W A m5.length c (fU m5)) (hb : Sl W B q5.length d (fD q5)) => dLoad_ok (a := a) v5 a0 (by rw [k5]; exact a3) A c B d W ha hb
  have h8 := fun A c B d W (ha : Sl W A m6.length c (fU m6)) (hb : Sl W B q5.length d (fD q5)) => dLoad_ok (a := a) v6 a0 (by rw [k6]; exact a3) A c B d W ha hb
  rw [show ldV m5 q5 a = v from by rw [← hq5]; exact hf] at h7
  rw [show ldV m6 q5 a = z from by rw [← hq5]; exact hc] at h8
  have HH := Lib.hid (And.intro h1 (And.intro h2 (And.intro h3 (And.intro h4 (And.intro h5 (And.intro h6 (And.intro h7 h8)))))))
  have hvb : (z == v) = false := by simpa using hvz
  clear h1 h2 h3 h4 h5 h6 h7 h8 u1 u2 u3 u4 v5 v6 k5 k6 hf hc e1 e2 e3 e4 hq1 hq2 hq3 hq4 hq5 hm3 hm5 hm6 a3 hvz
  have hD := DV.new w m q (-1) false A c B d 25 hA hB
  go_enter Try.func15, Try.ntmps15
  go_wp2_with fail
  refine (dGreat_any _ _ _ _ _ _ _ _ _).mono ?_
  rintro e w1 ⟨rfl, hx1⟩
  rw [hg']
  obtain ⟨b0, b1, b2, b3, bf, bl⟩ := H0.ext (w' := w1) (by repeat (first | assumption | exact Ext.refl _ | refine Ext.drewN ?_ _ | refine Ext.drew ?_ | refine Ext.alloc ?_ _ | refine Ext.trans ?_ (by assumption)))
  go_wp2_with fail
  refine (dRefCk_any m q (-1) false A c B d _ (hB.ext (by repeat (first | assumption | exact Ext.refl _ | refine Ext.drewN ?_ _ | refine Ext.drew ?_ | refine Ext.alloc ?_ _ | refine Ext.trans ?_ (by assumption))))).mono ?_
  rintro e w2 ⟨rfl, hx2⟩
  rw [h0]
  replace hD := hD.ext (hx1.trans hx2)
  have hX : Ext w w2 := Ext.trans ((Ext.refl w).alloc _) (hx1.trans hx2)
  clear b0 b1 b2 b3 bf bl hx1 hx2 H0
  obtain ⟨gD, hgD⟩ : ∃ g, w.heap.size = g := ⟨_, rfl⟩
  have loD : w.heap.size ≤ gD := Nat.le_of_eq hgD
  have HgD := Lib.hid hgD
  rw [hgD] at hD ⊢
  clear hgD
  obtain ⟨AD, cD, BD, dD, bD, sD, tD⟩ := hD
  obtain ⟨b0, b1, b2, b3, bf, bl⟩ := bD
  go_wp2_with fail
  refine (HH.out.1 AD cD BD dD w2 sD tD).mono ?_
  rintro e W101 ⟨AS, cS, BS, dS, rfl, sS, tS, hxx⟩
  have hD := DV.mk (Box4.mk b0 b1 b2 b3 bf bl) sD tD
  clear b0 b1 b2 b3 bf bl
  go_upto_region 4 with fail
  have hS := DV.new W101 m q1 ((-1)) false AS cS BS dS 25 sS tS
  have neDS : gD ≠ W101.heap.size := Nat.ne_of_lt (Nat.lt_of_lt_of_le hD.lt hxx.size)
  have loS := Nat.le_trans hX.size hxx.size
  replace hxx := Ext.trans hxx ((Ext.refl W101).alloc (Obj.cells #[.slice AS m.length cS, .slice BS q1.length dS, .int .i64 (-1), .bool false] 25))
  obtain ⟨W102, hW⟩ : ∃ W, W = W101.alloc (Obj.cells #[.slice AS m.length cS, .slice BS q1.length dS, .int .i64 (-1), .bool false] 25) := ⟨_, rfl⟩
  obtain ⟨gS, hg⟩ : ∃ g, W101.heap.size = g := ⟨_, rfl⟩
  rw [← hW] at hS hxx ⊢
  rw [hg] at hS loS neDS ⊢
  clear hW hg sS tS
  replace hD := hD.ext hxx
  replace hX := hX.trans hxx
  clear hxx
  obtain ⟨AS, cS, BS, dS, bS, sS, tS⟩ := hS
  obtain ⟨b0, b1, b2, b3, bf, bl⟩ := bS
  go_wp2_with fail
  refine (HH.out.2.1 AS cS BS dS W102 sS tS).mono ?_
  rintro e W103 ⟨A9, c9, B9, d9, rfl, s9, t9, hxx⟩
  have hS := DV.mk (Box4.mk b0 b1 b2 b3 bf bl) sS tS
  clear b0 b1 b2 b3 bf bl
  replace hD := hD.ext hxx
  replace hS := hS.ext hxx
  replace hX := hX.trans hxx
  have h9 := hS
  obtain ⟨A8, c8, B8, d8, b9, s8, t8⟩ := h9
  obtain ⟨b0, b1, b2, b3, bf, bl⟩ := b9
  go_upto_region 5 with fail
  clear b0 b1 b2 b3 bf bl s8 t8 hxx
  have h9 := hS.set s9 t9 ((-1)) (false)
  replace hD := hD.far hS (by first | exact neDS | exact Ne.symm neSD) (.slice A9 m.length c9) (.slice B9 q2.length d9) (.int .i64 (-1)) (.bool false)
  replace hX := hX.setB loS (.slice A9 m.length c9) (.slice B9 q2.length d9) (.int .i64 (-1)) (.bool false)
  obtain ⟨W104, hW⟩ : ∃ W, W = setB W103 gS (.slice A9 m.length c9) (.slice B9 q2.length d9) (.int .i64 (-1)) (.bool false) := ⟨_, rfl⟩
  rw [show ((((W103.setCell ⟨gS, 0, none⟩ (.slice A9 m.length c9)).setCell ⟨gS, 1, none⟩ (.slice B9 q2.length d9)).setCell ⟨gS, 2, none⟩ (.int .i64 (-1))).setCell ⟨gS, 3, none⟩ (.bool false)) = setB W103 gS (.slice A9 m.length c9) (.slice B9 q2.length d9) (.int .i64 (-1)) (.bool false) from rfl, ← hW]
  rw [← hW] at h9 hX hD
  replace hS := h9
  clear h9 hW s9 t9
  obtain ⟨AS, cS, BS, dS, bS, sS, tS⟩ := hS
  obtain ⟨b0, b1, b2, b3, bf, bl⟩ := bS
  go_wp2_with fail
  refine (HH.out.2.2.1 AS cS BS dS W104 sS tS).mono ?_
  rintro e W105 ⟨A9, c9, B9, d9, rfl, s9, t9, hxx⟩
  have hS := DV.mk (Box4.mk b0 b1 b2 b3 bf bl) sS tS
  clear b0 b1 b2 b3 bf bl
  replace hD := hD.ext hxx
  replace hS := hS.ext hxx
  replace hX := hX.trans hxx
  have h9 := hS
  obtain ⟨A8, c8, B8, d8, b9, s8, t8⟩ := h9
  obtain ⟨b0, b1, b2, b3, bf, bl⟩ := b9
  go_upto_region 6 with fail
  clear b0 b1 b2 b3 bf bl s8 t8 hxx
  have h9 := hS.set s9 t9 ((-1)) (false)
  replace hD := hD.far hS (by first | exact neDS | exact Ne.symm neSD) (.slice A9 m3.length c9) (.slice B9 q3.length d9) (.int .i64 (-1)) (.bool false)
  replace hX := hX.setB loS (.slice A9 m3.length c9) (.slice B9 q3.length d9) (.int .i64 (-1)) (.bool false)
  obtain ⟨W106, hW⟩ : ∃ W, W = setB W105 gS (.slice A9 m3.length c9) (.slice B9 q3.length d9) (.int .i64 (-1)) (.bool false) := ⟨_, rfl⟩
  rw [show ((((W105.setCell ⟨gS, 0, none⟩ (.slice A9 m3.length c9)).setCell ⟨gS, 1, none⟩ (.slice B9 q3.length d9)).setCell ⟨gS, 2, none⟩ (.int .i64 (-1))).setCell ⟨gS, 3, none⟩ (.bool false)) = setB W105 gS (.slice A9 m3.length c9) (.slice B9 q3.length d9) (.int .i64 (-1)) (.bool false) from rfl, ← hW]
  rw [← hW] at h9 hX hD
  replace hS := h9
  clear h9 hW s9 t9
  obtain ⟨AS, cS, BS, dS, bS, sS, tS⟩ := hS
  obtain ⟨b0, b1, b2, b3, bf, bl⟩ := bS
  go_wp2_with fail
  refine (HH.out.2.2.2.2.1 AS cS BS dS W106 sS tS).mono ?_
  rintro e W107 ⟨AP, cP, BP, dP, rfl, sP, tP, hxx⟩
  have hS := DV.mk (Box4.mk b0 b1 b2 b3 bf bl) sS tS
  clear b0 b1 b2 b3 bf bl
  go_upto_region 7 with fail
  have hP := DV.new W107 m5 q5 ((-1)) false AP cP BP dP 25 sP tP
  have neDP : gD ≠ W107.heap.size := Nat.ne_of_lt (Nat.lt_of_lt_of_le hD.lt hxx.size)
  have neSP : gS ≠ W107.heap.size := Nat.ne_of_lt (Nat.lt_of_lt_of_le hS.lt hxx.size)
  have loP := Nat.le_trans hX.size hxx.size
  replace hxx := Ext.trans hxx ((Ext.refl W107).alloc (Obj.cells #[.slice AP m5.length cP, .slice BP q5.length dP, .int .i64 (-1), .bool false] 25))
  obtain ⟨W108, hW⟩ : ∃ W, W = W107.alloc (Obj.cells #[.slice AP m5.length cP, .slice BP q5.length dP, .int .i64 (-1), .bool false] 25) := ⟨_, rfl⟩
  obtain ⟨gP, hg⟩ : ∃ g, W107.heap.size = g := ⟨_, rfl⟩
  rw [← hW] at hP hxx ⊢
  rw [hg] at hP loP neDP neSP ⊢
  clear hW hg sP tP
  replace hD := hD.ext hxx
  replace hS := hS.ext hxx
  replace hX := hX.trans hxx
  clear hxx
  obtain ⟨AS, cS, BS, dS, bS, sS, tS⟩ := hS
  obtain ⟨b0, b1, b2, b3, bf, bl⟩ := bS
  go_wp2_with fail
  refine (HH.out.2.2.2.1 AS cS BS dS W108 sS tS).mono ?_
  rintro e W109 ⟨AR, cR, BR, dR, rfl, sR, tR, hxx⟩
  have hS := DV.mk (Box4.mk b0 b1 b2 b3 bf bl) sS tS
  clear b0 b1 b2 b3 bf bl
  go_upto_region 8 with fail
  have hR := DV.new W109 m3 q4 ((-1)) false AR cR BR dR 25 sR tR
  have neDR : gD ≠ W109.heap.size := Nat.ne_of_lt (Nat.lt_of_lt_of_le hD.lt hxx.size)
  have neSR : gS ≠ W109.heap.size := Nat.ne_of_lt (Nat.lt_of_lt_of_le hS.lt hxx.size)
  have nePR : gP ≠ W109.heap.size := Nat.ne_of_lt (Nat.lt_of_lt_of_le hP.lt hxx.size)
  have loR := Nat.le_trans hX.size hxx.size
  replace hxx := Ext.trans hxx ((Ext.refl W109).alloc (Obj.cells #[.slice AR m3.length cR, .slice BR q4.length dR, .int .i64 (-1), .bool false] 25))
  obtain ⟨W110, hW⟩ : ∃ W, W = W109.alloc (Obj.cells #[.slice AR m3.length cR, .slice BR q4.length dR, .int .i64 (-1), .bool false] 25) := ⟨_, rfl⟩
  obtain ⟨gR, hg⟩ : ∃ g, W109.heap.size = g := ⟨_, rfl⟩
  rw [← hW] at hR hxx ⊢
  rw [hg] at hR loR neDR neSR nePR ⊢
  clear hW hg sR tR
  replace hD := hD.ext hxx
  replace hS := hS.ext hxx
  replace hP := hP.ext hxx
  replace hX := hX.trans hxx
  clear hxx
  obtain ⟨AR, cR, BR, dR, bR, sR, tR⟩ := hR
  obtain ⟨b0, b1, b2, b3, bf, bl⟩ := bR
  go_wp2_with fail
  refine (HH.out.2.2.2.2.2.1 AR cR BR dR W110 sR tR).mono ?_
  rintro e W111 ⟨AQ, cQ, BQ, dQ, rfl, sQ, tQ, hxx⟩
  have hR := DV.mk (Box4.mk b0 b1 b2 b3 bf bl) sR tR
  clear b0 b1 b2 b3 bf bl
  go_upto_region 9 with fail
  have hQ := DV.new W111 m6 q5 ((-1)) false AQ cQ BQ dQ 25 sQ tQ
  have neDQ : gD ≠ W111.heap.size := Nat.ne_of_lt (Nat.lt_of_lt_of_le hD.lt hxx.size)
  have neSQ : gS ≠ W111.heap.size := Nat.ne_of_lt (Nat.lt_of_lt_of_le hS.lt hxx.size)
  have nePQ : gP ≠ W111.heap.size := Nat.ne_of_lt (Nat.lt_of_lt_of_le hP.lt hxx.size)
  have neRQ : gR ≠ W111.heap.size := Nat.ne_of_lt (Nat.lt_of_lt_of_le hR.lt hxx.size)
  have loQ := Nat.le_trans hX.size hxx.size
  replace hxx := Ext.trans hxx ((Ext.refl W111).alloc (Obj.cells #[.slice AQ m6.length cQ, .slice BQ q5.length dQ, .int .i64 (-1), .bool false] 25))
  obtain ⟨W112, hW⟩ : ∃ W, W = W111.alloc (Obj.cells #[.slice AQ m6.length cQ, .slice BQ q5.length dQ, .int .i64 (-1), .bool false] 25) := ⟨_, rfl⟩
  obtain ⟨gQ, hg⟩ : ∃ g, W111.heap.size = g := ⟨_, rfl⟩
  rw [← hW] at hQ hxx ⊢
  rw [hg] at hQ loQ neDQ neSQ nePQ neRQ ⊢
  clear hW hg sQ tQ
  replace hD := hD.ext hxx
  replace hS := hS.ext hxx
  replace hP := hP.ext hxx
  replace hR := hR.ext hxx
  replace hX := hX.trans hxx
  clear hxx
  obtain ⟨AP, cP, BP, dP, bP, sP, tP⟩ := hP
  obtain ⟨b0, b1, b2, b3, bf, bl⟩ := bP
  go_wp2_with fail
  refine (HH.out.2.2.2.2.2.2.1 AP cP BP dP W112 sP tP).mono ?_
  rintro e W113 ⟨rfl, hxx⟩
  have hP := DV.mk (Box4.mk b0 b1 b2 b3 bf bl) sP tP
  clear b0 b1 b2 b3 bf bl
  replace hD := hD.ext hxx
  replace hS := hS.ext hxx
  replace hP := hP.ext hxx
  replace hR := hR.ext hxx
  replace hQ := hQ.ext hxx
  replace hX := hX.trans hxx
  clear hxx
  obtain ⟨AQ, cQ, BQ, dQ, bQ, sQ, tQ⟩ := hQ
  obtain ⟨b0, b1, b2, b3, bf, bl⟩ := bQ
  go_wp2_with fail
  refine (HH.out.2.2.2.2.2.2.2 AQ cQ BQ dQ W113 sQ tQ).mono ?_
  rintro e W114 ⟨rfl, hxx⟩
  have hQ := DV.mk (Box4.mk b0 b1 b2 b3 bf bl) sQ tQ
  clear b0 b1 b2 b3 bf bl
  replace hD := hD.ext hxx
  replace hS := hS.ext hxx
  replace hP := hP.ext hxx
  replace hR := hR.ext hxx
  replace hQ := hQ.ext hxx
  replace hX := hX.trans hxx
  clear hxx
  go_wp2_with fail
  refine (alive04_any _).mono ?_
  rintro e w9 ⟨rfl, hx9⟩
  go_wp2_with fail
  go_ret
  exact ⟨rfl, hX.trans hx9⟩
set_option maxRecDepth 100000 in
set_option maxHeartbeats 6400000 in
theorem crashFenced_any (m : List Int) (q : List Dw) (left : Int) (down : Bool) (a v z mask : Int) (A : Option Addr) (c : Nat) (B : Option Addr) (d : Nat) (w : World) (hA : Sl w A m.length c (fU m)) (hB : Sl w B q.length d (fD q)) (hv : InU v) (hz : InU z) (hmk : InU mask) :
    Calls Try.prog 15 #[.agg #[.slice A m.length c, .slice B q.length d, .int .i64 left, .bool down], .int .i64 a, .int .u64 v, .int .u64 z, .int .u64 mask] w fun e w' => e = .returned (.bool true) ∧ Ext w w' := by
  by_cases hg : (decide (2100 < m.length) || decide (2100 < q.length)) = true
  · go_enter Try.func15, Try.ntmps15
    go_wp2_with fail
    refine (dGreat_any _ _ _ _ _ _ _ _ _).mono ?_
    rintro e w1 ⟨rfl, hx1⟩
    rw [hg]
    go_wp2_with fail
    refine (alive04_any _).mono ?_
    rintro e w2 ⟨rfl, hx2⟩
    go_wp2_with fail
    go_ret
    exact ⟨rfl, (by repeat (first | assumption | exact Ext.refl _ | refine Ext.drewN ?_ _ | refine Ext.drew ?_ | refine Ext.alloc ?_ _ | refine Ext.trans ?_ (by assumption)))⟩
  have hg' : (decide (2100 < m.length) || decide (2100 < q.length)) = false := by simpa using hg
  clear hg
  have H0 := Box4.new w (.slice A m.length c) (.slice B q.length d) (.int .i64 left) (.bool down) 25
  by_cases hd : devB m q left down = true
  rotate_left
  · have h0 := devE_no (by simpa using hd)
    go_enter Try.func15, Try.ntmps15
    go_wp2_with fail
    refine (dGreat_any _ _ _ _ _ _ _ _ _).mono ?_
    rintro e w1 ⟨rfl, hx1⟩
    rw [hg']
    obtain ⟨b0, b1, b2, b3, bf, bl⟩ := H0.ext (w' := w1) (by repeat (first | assumption | exact Ext.refl _ | refine Ext.drewN ?_ _ | refine Ext.drew ?_ | refine Ext.alloc ?_ _ | refine Ext.trans ?_ (by assumption)))
    go_wp2_with fail
    refine (dRefCk_any m q left down A c B d _ (hB.ext (by repeat (first | assumption | exact Ext.refl _ | refine Ext.drewN ?_ _ | refine Ext.drew ?_ | refine Ext.alloc ?_ _ | refine Ext.trans ?_ (by assumption))))).mono ?_
    rintro e w2 ⟨rfl, hx2⟩
    rw [h0]
    go_wp2_with fail
    refine (alive04_any _).mono ?_
    rintro e w3 ⟨rfl, hx3⟩
    go_wp2_with fail
    go_ret
    exact ⟨rfl, (by repeat (first | assumption | exact Ext.refl _ | refine Ext.drewN ?_ _ | refine Ext.drew ?_ | refine Ext.alloc ?_ _ | refine Ext.trans ?_ (by assumption)))⟩
  have h0 := devE_yes hd
  by_cases hr : left = -1
  rotate_left
  · have hn : (left != -1) = true := by simpa using hr
    clear hr
    go_enter Try.func15, Try.ntmps15
    go_wp2_with fail
    refine (dGreat_any _ _ _ _ _ _ _ _ _).mono ?_
    rintro e w1 ⟨rfl, hx1⟩
    rw [hg']
    obtain ⟨b0, b1, b2, b3, bf, bl⟩ := H0.ext (w' := w1) (by repeat (first | assumption | exact Ext.refl _ | refine Ext.drewN ?_ _ | refine Ext.drew ?_ | refine Ext.alloc ?_ _ | refine Ext.trans ?_ (by assumption)))
    go_wp2_with fail
    refine (dRefCk_any m q left down A c B d _ (hB.ext (by repeat (first | assumption | exact Ext.refl _ | refine Ext.drewN ?_ _ | refine Ext.drew ?_ | refine Ext.alloc ?_ _ | refine Ext.trans ?_ (by assumption))))).mono ?_
    rintro e w2 ⟨rfl, hx2⟩
    rw [h0]
    clear b0 b1 b2 b3 bf bl
    obtain ⟨b0, b1, b2, b3, bf, bl⟩ := H0.ext (w' := w2) (by repeat (first | assumption | exact Ext.refl _ | refine Ext.drewN ?_ _ | refine Ext.drew ?_ | refine Ext.alloc ?_ _ | refine Ext.trans ?_ (by assumption)))
    go_wp2_with fail
    refine (alive04_any _).mono ?_
    rintro e w3 ⟨rfl, hx3⟩
    go_wp2_with fail
    go_ret
    exact ⟨rfl, (by repeat (first | assumption | exact Ext.refl _ | refine Ext.drewN ?_ _ | refine Ext.drew ?_ | refine Ext.alloc ?_ _ | refine Ext.trans ?_ (by assumption)))⟩
  have HL := Lib.hid hr
  clear hr
  have hlb : (left != -1) = false := by simp; exact HL.out
  by_cases hr : 0 ≤ a
  rotate_left
  · have hn : a < 0 := by omega
    clear hr
    go_enter Try.func15, Try.ntmps15
    go_wp2_with fail
    refine (dGreat_any _ _ _ _ _ _ _ _ _).mono ?_
    rintro e w1 ⟨rfl, hx1⟩
    rw [hg']
    obtain ⟨b0, b1, b2, b3, bf, bl⟩ := H0.ext (w' := w1) (by repeat (first | assumption | exact Ext.refl _ | refine Ext.drewN ?_ _ | refine Ext.drew ?_ | refine Ext.alloc ?_ _ | refine Ext.trans ?_ (by assumption)))
    go_wp2_with fail
    refine (dRefCk_any m q left down A c B d _ (hB.ext (by repeat (first | assumption | exact Ext.refl _ | refine Ext.drewN ?_ _ | refine Ext.drew ?_ | refine Ext.alloc ?_ _ | refine Ext.trans ?_ (by assumption))))).mono ?_
    rintro e w2 ⟨rfl, hx2⟩
    rw [h0]
    clear b0 b1 b2 b3 bf bl
    obtain ⟨b0, b1, b2, b3, bf, bl⟩ := H0.ext (w' := w2) (by repeat (first | assumption | exact Ext.refl _ | refine Ext.drewN ?_ _ | refine Ext.drew ?_ | refine Ext.alloc ?_ _ | refine Ext.trans ?_ (by assumption)))
    go_wp2_with fail
    refine (alive04_any _).mono ?_
    rintro e w3 ⟨rfl, hx3⟩
    go_wp2_with fail
    go_ret
    exact ⟨rfl, (by repeat (first | assumption | exact Ext.refl _ | refine Ext.drewN ?_ _ | refine Ext.drew ?_ | refine Ext.alloc ?_ _ | refine Ext.trans ?_ (by assumption)))⟩
  have hr16 := hr
  clear hr
  by_cases hr : a < m.length
  rotate_left
  · have hn : (m.length : Int) ≤ a := by omega
    clear hr
    go_enter Try.func15, Try.ntmps15
    go_wp2_with fail
    refine (dGreat_any _ _ _ _ _ _ _ _ _).mono ?_
    rintro e w1 ⟨rfl, hx1⟩
    rw [hg']
    obtain ⟨b0, b1, b2, b3, bf, bl⟩ := H0.ext (w' := w1) (by repeat (first | assumption | exact Ext.refl _ | refine Ext.drewN ?_ _ | refine Ext.drew ?_ | refine Ext.alloc ?_ _ | refine Ext.trans ?_ (by assumption)))
    go_wp2_with fail
    refine (dRefCk_any m q left down A c B d _ (hB.ext (by repeat (first | assumption | exact Ext.refl _ | refine Ext.drewN ?_ _ | refine Ext.drew ?_ | refine Ext.alloc ?_ _ | refine Ext.trans ?_ (by assumption))))).mono ?_
    rintro e w2 ⟨rfl, hx2⟩
    rw [h0]
    clear b0 b1 b2 b3 bf bl
    obtain ⟨b0, b1, b2, b3, bf, bl⟩ := H0.ext (w' := w2) (by repeat (first | assumption | exact Ext.refl _ | refine Ext.drewN ?_ _ | refine Ext.drew ?_ | refine Ext.alloc ?_ _ | refine Ext.trans ?_ (by assumption)))
    go_wp2_with fail
    refine (alive04_any _).mono ?_
    rintro e w3 ⟨rfl, hx3⟩
    go_wp2_with fail
    go_ret
    exact ⟨rfl, (by repeat (first | assumption | exact Ext.refl _ | refine Ext.drewN ?_ _ | refine Ext.drew ?_ | refine Ext.alloc ?_ _ | refine Ext.trans ?_ (by assumption)))⟩
  have hr17 := hr
  clear hr
  clear H0 h0 hlb
  obtain rfl : left = -1 := HL.out
  have hdn := (devB_bd hd).2.2.2.1
  obtain rfl : down = false := by cases down with | false => rfl | true => exact absurd (hdn rfl) (by decide)
  have hf := crf_facts a v z mask (devB_bd hd).2.2.2.2 (by assumption) (by assumption)
  by_cases hvz : z = v
  · subst hvz
    exact crashFenced_0 m q a z z mask A c B d w hA hB hg' hd (by assumption) (by assumption) hv hz hmk (by rcases hf.2 with h | h <;> exact h)
  · by_cases hc : (crM mask 0 (fenM m (fluD a (insD a v q))) (insD a z (fenD (fluD a (insD a v q))))).getD a.toNat 0 = v
    · exact crashFenced_0 m q a v z mask A c B d w hA hB hg' hd (by assumption) (by assumption) hv hz hmk hc
    · exact crashFenced_1 m q a v z mask A c B d w hA hB hg' hd (by assumption) (by assumption) hv hz hmk (by rcases hf.2 with h | h; exact absurd h hc; exact h) hvz
set_option maxRecDepth 100000 in
theorem crashFenced_lifted (os : Os) (started : os.Started) (H : Type) (enc : TypeId × Value → H) :
    ReturnsInHanded {} Try.checked os 15 .any (Rows.crashFencedSpec.pre6 enc Try.prog Try.f15 Rows.crashFencedRow.domain false) (Rows.crashFencedSpec.post enc Try.prog Try.f15 false true false false) := by
  refine returnsInHanded_of_change (C := Try.checked) own_knob started (by kernel_rfl) Try.func15
    (ChangeSpec.witness6 (enc := enc) (C := Try.checked) false ⟨#[], #[.agg #[.slice none 0 0, .slice none 0 0, .int .i64 0, .bool false], .int .i64 0, .int .u64 0, .int .u64 0, .int .u64 0], []⟩ 8 (by kernel_rfl) (by kernel_rfl) (by kernel_rfl) (by kernel_rfl)) ?_
  intro W base args ds gs before hval0 hW hcnd _
  have hval : ∀ (j : Nat) t v, Try.f15.params[j]? = some t → args[j]? = some v → Value.okWide Try.prog W .any base t v := hval0
  have hW' := hW
  obtain ⟨p, q, hA0, hV, rfl, hfz, hnd⟩ := hW
  have hA : DataW.TrodAll enc Try.prog W 0 (fun _ => true) true Try.f15.params.toList args.toList ds p := hA0
  rw [Try.params15] at hA hval
  obtain ⟨v0, vs0, d0, ds0, p0, q0, hargs, rfl, rfl, h0, r0⟩ := trodAll_cons hA
  obtain ⟨v1, vs1, d1, ds1, p1, q1, rfl, rfl, rfl, h1, r1⟩ := trodAll_cons r0
  obtain ⟨v2, vs2, d2, ds2, p2, q2, rfl, rfl, rfl, h2, r2⟩ := trodAll_cons r1
  obtain ⟨v3, vs3, d3, ds3, p3, q3, rfl, rfl, rfl, h3, r3⟩ := trodAll_cons r2
  obtain ⟨v4, vs4, d4, ds4, p4, q4, rfl, rfl, rfl, h4, r4⟩ := trodAll_cons r3
  obtain ⟨rfl, rfl, rfl⟩ := trodAll_nil r4
  obtain rfl : args = #[v0, v1, v2, v3, v4] := by cases args; simp_all
  obtain ⟨rfl, rfl⟩ := trodVars_none hV
  obtain ⟨A0, c0, m0, B0, k0, ds0, left0, down0, rfl, hS0, wA0, hB0, wB0, wl0⟩ := op_V (hval 0 25 v0 rfl rfl) h0
  obtain ⟨x1, rfl, wx1⟩ := op_i (hval 1 3 v1 rfl rfl) h1
  obtain ⟨x2, rfl, wx2⟩ := op_u (hval 2 26 v2 rfl rfl) h2
  obtain ⟨x3, rfl, wx3⟩ := op_u (hval 3 26 v3 rfl rfl) h3
  obtain ⟨x4, rfl, wx4⟩ := op_u (hval 4 26 v4 rfl rfl) h4
  clear hA0 hval0 hval hA
  refine (crashFenced_any m0 ds0 left0 down0 x1 x2 x3 x4 A0 c0 B0 k0 W hS0 hB0 wx2 wx3 wx4).mono fun e W' ⟨he, hx⟩ => ?_
  subst he
  exact ⟨_, rfl, post_law laid_out (by kernel_rfl) hW' rfl rfl rfl Try.underlying4 hx⟩
theorem crashFenced_holds : Rows.CrashFencedSaid :=
  OpenClaim.holds_of_wide 15 Try.f15 rfl rfl rfl rfl rfl rfl rfl ⟨rfl, rfl, rfl, rfl, rfl⟩ rfl rfl rfl rfl rfl (by kernel_rfl) Try.func15 (by kernel_rfl)
    (of_decide_eq_true (by kernel_rfl)) (by unfold Func.isWrapper; first | (rw [if_pos (by decide +kernel)]; kernel_rfl) | (rw [if_neg (by decide +kernel)]; exact ⟨rfl, rfl⟩))
    (fun os started H enc _ => crashFenced_lifted os started H enc)
end Go.Proofs.Ytmmcbleoglgamaa
