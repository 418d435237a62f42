/-
  CacheOrder, for every device, every two addresses and every two words: the law returns true. No condition.
-/
import Derived.Test.YtmmcbleoglgamaaAlive03
import Derived.Test.YtmmcbleoglgamaaOpen
import Derived.BigQuiet
import Derived.Deep.QuietTactic
namespace Go.Proofs.Ytmmcbleoglgamaa
open Go.ChangeShapes Go.WideShapes Go.ChangeAt Go.RowKit
theorem ins_mem3 (a v : Int) : ∀ q : List Dw, ((a, v, false) : Dw) ∈ insD a v q
  | [] => by simp [insD]
  | x :: l => by
    unfold insD
    split
    · exact List.mem_cons_of_mem _ (ins_mem3 a v l)
    · split <;> exact List.mem_cons_self ..
/-- Two stores at two addresses: in either order. -/
theorem insD_comm {a b v z : Int} (hab : a ≠ b) : ∀ q : List Dw, insD a v (insD b z q) = insD b z (insD a v q)
  | [] => by
    rcases Int.lt_or_gt_of_ne hab with h | h
    · simp [insD, h, show ¬ b < a from by omega, show b ≠ a from fun e => hab e.symm]
    · simp [insD, h, show ¬ a < b from by omega, show a ≠ b from hab]
  | x :: l => by
    have ih := insD_comm (v := v) (z := z) hab l
    rcases Int.lt_trichotomy x.1 a with h1 | h1 | h1 <;> rcases Int.lt_trichotomy x.1 b with h2 | h2 | h2
    all_goals first | (exfalso; omega) | skip
    all_goals rcases Int.lt_or_gt_of_ne hab with h3 | h3
    all_goals first | (exfalso; omega) | skip
    all_goals
      simp only [insD]
      repeat' (first | rw [if_pos (by omega)] | rw [if_neg (by omega)] | (simp only [insD]))
      all_goals (try rw [ih])
/-- Storing twice at one address. -/
theorem insD_same {a v z : Int} : ∀ q : List Dw, insD a z (insD a v q) = insD a z q
  | [] => by simp [insD]
  | x :: l => by
    have ih := insD_same (a := a) (v := v) (z := z) l
    rcases Int.lt_trichotomy x.1 a with h1 | h1 | h1
    · simp [insD, h1, ih]
    · simp [insD, h1]
    · simp [insD, show ¬ x.1 < a from by omega, show ¬ x.1 = a from by omega]
set_option maxRecDepth 100000 in
set_option maxHeartbeats 6400000 in
theorem cacheOrder_0 (m : List Int) (q : List Dw) (a o v z : Int) (A : Option Addr) (c : Nat) (B : Option Addr) (d : Nat) (w : World) (hA : Sl w A m.length c (fU m)) (hB : Sl w B q.length d (fD q)) (hg' : (decide (2100 < m.length) || decide (2100 < q.length)) = false) (hd : devB m q (-1) false = true) (a0 : 0 ≤ a) (a1 : a < m.length) (o0 : 0 ≤ o) (o1 : o < m.length) (hv : InU v) (hz : InU z) (hao : a ≠ o) :
    Calls Try.prog 10 #[.agg #[.slice A m.length c, .slice B q.length d, .int .i64 (-1), .bool false], .int .i64 a, .int .i64 o, .int .u64 v, .int .u64 z] w fun e w' => e = .returned (.bool true) ∧ Ext w w' := by
  have h0 := devE_yes hd
  have H0 := Box4.new w (.slice A m.length c) (.slice B q.length d) (.int .i64 (-1)) (.bool false) 25
  have hs : ∀ (q : List Dw) (a v : Int), stepD (m, q, -1, false) (.st a v) = (m, insD a v q, -1, false) := fun q a v => by simp [stepD, effD, spL]
  have hab : (a != o) = true := by simpa using hao
  have u1 := devB_step (o := .st a v) hd ⟨a0, a1, hv⟩
  have u3 := devB_step (o := .st o z) hd ⟨o0, o1, hz⟩
  have h1 := fun A c B d W (ha : Sl W A m.length c (fU m)) (hb : Sl W B q.length d (fD q)) => dStore_ok (a := a) v hd a0 a1 A c B d W ha hb
  have h3 := fun A c B d W (ha : Sl W A m.length c (fU m)) (hb : Sl W B q.length d (fD q)) => dStore_ok (a := o) z hd o0 o1 A c B d W ha hb
  rw [hs] at u1 u3 h1 h3
  have hmem := ins_mem3 o z (insD a v q)
  have e2 : insD a v (insD o z q) = insD o z (insD a v q) := insD_comm hao q
  obtain ⟨q1, hq1⟩ : ∃ x, insD a v q = x := ⟨_, rfl⟩
  rw [hq1] at h1 u1 e2 hmem
  have h2 := fun A c B d W (ha : Sl W A m.length c (fU m)) (hb : Sl W B q1.length d (fD q1)) => dStore_ok (a := o) z u1.1 o0 o1 A c B d W ha hb
  rw [hs] at h2
  obtain ⟨q2, hq2⟩ : ∃ x, insD o z q1 = x := ⟨_, rfl⟩
  rw [hq2] at h2 e2 hmem
  obtain ⟨q3, hq3⟩ : ∃ x, insD o z q = x := ⟨_, rfl⟩
  rw [hq3] at h3 u3 e2
  have h4 := fun A c B d W (ha : Sl W A m.length c (fU m)) (hb : Sl W B q3.length d (fD q3)) => dStore_ok (a := a) v u3.1 a0 a1 A c B d W ha hb
  rw [hs, e2] at h4
  have HH := Lib.hid (And.intro h1 (And.intro h2 (And.intro h3 (And.intro h4 hmem))))
  clear h1 h2 h3 h4 u1 u3 hs e2 hq1 hq2 hq3 hmem hao
  have hD := DV.new w m q (-1) false A c B d 25 hA hB
  go_enter Try.func10, Try.ntmps10
  go_wp2_with fail
  refine (dGreat_any _ _ _ _ _ _ _ _ _).mono ?_
  rintro e w1 ⟨rfl, hx1⟩
  rw [hg']
  obtain ⟨b0, b1, b2, b3, bf, bl⟩ := H0.ext (w' := w1) (by repeat (first | assumption | exact Ext.refl _ | refine Ext.drewN ?_ _ | refine Ext.drew ?_ | refine Ext.alloc ?_ _ | refine Ext.trans ?_ (by assumption)))
  go_wp2_with fail
  refine (dRefCk_any m q (-1) false A c B d _ (hB.ext (by repeat (first | assumption | exact Ext.refl _ | refine Ext.drewN ?_ _ | refine Ext.drew ?_ | refine Ext.alloc ?_ _ | refine Ext.trans ?_ (by assumption))))).mono ?_
  rintro e w2 ⟨rfl, hx2⟩
  rw [h0]
  replace hD := hD.ext (hx1.trans hx2)
  have hX : Ext w w2 := Ext.trans ((Ext.refl w).alloc _) (hx1.trans hx2)
  clear b0 b1 b2 b3 bf bl hx1 hx2 H0
  obtain ⟨gD, hgD⟩ : ∃ g, w.heap.size = g := ⟨_, rfl⟩
  have loD : w.heap.size ≤ gD := Nat.le_of_eq hgD
  have HgD := Lib.hid hgD
  rw [hgD] at hD ⊢
  clear hgD
  obtain ⟨AD, cD, BD, dD, bD, sD, tD⟩ := hD
  obtain ⟨b0, b1, b2, b3, bf, bl⟩ := bD
  go_wp2_with fail
  refine (HH.out.1 AD cD BD dD w2 sD tD).mono ?_
  rintro e W101 ⟨AP, cP, BP, dP, rfl, sP, tP, hxx⟩
  have hD := DV.mk (Box4.mk b0 b1 b2 b3 bf bl) sD tD
  clear b0 b1 b2 b3 bf bl
  go_upto_region 4 with fail
  have hP := DV.new W101 m q1 ((-1)) false AP cP BP dP 25 sP tP
  have neDP : gD ≠ W101.heap.size := Nat.ne_of_lt (Nat.lt_of_lt_of_le hD.lt hxx.size)
  have loP := Nat.le_trans hX.size hxx.size
  replace hxx := Ext.trans hxx ((Ext.refl W101).alloc (Obj.cells #[.slice AP m.length cP, .slice BP q1.length dP, .int .i64 (-1), .bool false] 25))
  obtain ⟨W102, hW⟩ : ∃ W, W = W101.alloc (Obj.cells #[.slice AP m.length cP, .slice BP q1.length dP, .int .i64 (-1), .bool false] 25) := ⟨_, rfl⟩
  obtain ⟨gP, hg⟩ : ∃ g, W101.heap.size = g := ⟨_, rfl⟩
  rw [← hW] at hP hxx ⊢
  rw [hg] at hP loP neDP ⊢
  clear hW hg sP tP
  replace hD := hD.ext hxx
  replace hX := hX.trans hxx
  clear hxx
  obtain ⟨AP, cP, BP, dP, bP, sP, tP⟩ := hP
  obtain ⟨b0, b1, b2, b3, bf, bl⟩ := bP
  go_wp2_with fail
  refine (HH.out.2.1 AP cP BP dP W102 sP tP).mono ?_
  rintro e W103 ⟨A9, c9, B9, d9, rfl, s9, t9, hxx⟩
  have hP := DV.mk (Box4.mk b0 b1 b2 b3 bf bl) sP tP
  clear b0 b1 b2 b3 bf bl
  replace hD := hD.ext hxx
  replace hP := hP.ext hxx
  replace hX := hX.trans hxx
  have h9 := hP
  obtain ⟨A8, c8, B8, d8, b9, s8, t8⟩ := h9
  obtain ⟨b0, b1, b2, b3, bf, bl⟩ := b9
  go_upto_region 5 with fail
  clear b0 b1 b2 b3 bf bl s8 t8 hxx
  have h9 := hP.set s9 t9 ((-1)) (false)
  replace hD := hD.far hP (by first | exact neDP | exact Ne.symm nePD) (.slice A9 m.length c9) (.slice B9 q2.length d9) (.int .i64 (-1)) (.bool false)
  replace hX := hX.setB loP (.slice A9 m.length c9) (.slice B9 q2.length d9) (.int .i64 (-1)) (.bool false)
  obtain ⟨W104, hW⟩ : ∃ W, W = setB W103 gP (.slice A9 m.length c9) (.slice B9 q2.length d9) (.int .i64 (-1)) (.bool false) := ⟨_, rfl⟩
  rw [show ((((W103.setCell ⟨gP, 0, none⟩ (.slice A9 m.length c9)).setCell ⟨gP, 1, none⟩ (.slice B9 q2.length d9)).setCell ⟨gP, 2, none⟩ (.int .i64 (-1))).setCell ⟨gP, 3, none⟩ (.bool false)) = setB W103 gP (.slice A9 m.length c9) (.slice B9 q2.length d9) (.int .i64 (-1)) (.bool false) from rfl, ← hW]
  rw [← hW] at h9 hX hD
  replace hP := h9
  clear h9 hW s9 t9
  obtain ⟨AD, cD, BD, dD, bD, sD, tD⟩ := hD
  obtain ⟨b0, b1, b2, b3, bf, bl⟩ := bD
  go_wp2_with fail
  refine (HH.out.2.2.1 AD cD BD dD W104 sD tD).mono ?_
  rintro e W105 ⟨AR, cR, BR, dR, rfl, sR, tR, hxx⟩
  have hD := DV.mk (Box4.mk b0 b1 b2 b3 bf bl) sD tD
  clear b0 b1 b2 b3 bf bl
  go_upto_region 6 with fail
  have hR := DV.new W105 m q3 ((-1)) false AR cR BR dR 25 sR tR
  have neDR : gD ≠ W105.heap.size := Nat.ne_of_lt (Nat.lt_of_lt_of_le hD.lt hxx.size)
  have nePR : gP ≠ W105.heap.size := Nat.ne_of_lt (Nat.lt_of_lt_of_le hP.lt hxx.size)
  have loR := Nat.le_trans hX.size hxx.size
  replace hxx := Ext.trans hxx ((Ext.refl W105).alloc (Obj.cells #[.slice AR m.length cR, .slice BR q3.length dR, .int .i64 (-1), .bool false] 25))
  obtain ⟨W106, hW⟩ : ∃ W, W = W105.alloc (Obj.cells #[.slice AR m.length cR, .slice BR q3.length dR, .int .i64 (-1), .bool false] 25) := ⟨_, rfl⟩
  obtain ⟨gR, hg⟩ : ∃ g, W105.heap.size = g := ⟨_, rfl⟩
  rw [← hW] at hR hxx ⊢
  rw [hg] at hR loR neDR nePR ⊢
  clear hW hg sR tR
  replace hD := hD.ext hxx
  replace hP := hP.ext hxx
  replace hX := hX.trans hxx
  clear hxx
  obtain ⟨AR, cR, BR, dR, bR, sR, tR⟩ := hR
  obtain ⟨b0, b1, b2, b3, bf, bl⟩ := bR
  go_wp2_with fail
  refine (HH.out.2.2.2.1 AR cR BR dR W106 sR tR).mono ?_
  rintro e W107 ⟨A9, c9, B9, d9, rfl, s9, t9, hxx⟩
  have hR := DV.mk (Box4.mk b0 b1 b2 b3 bf bl) sR tR
  clear b0 b1 b2 b3 bf bl
  replace hD := hD.ext hxx
  replace hP := hP.ext hxx
  replace hR := hR.ext hxx
  replace hX := hX.trans hxx
  have h9 := hR
  obtain ⟨A8, c8, B8, d8, b9, s8, t8⟩ := h9
  obtain ⟨b0, b1, b2, b3, bf, bl⟩ := b9
  go_upto_region 10 with fail
  clear b0 b1 b2 b3 bf bl s8 t8 hxx
  have h9 := hR.set s9 t9 ((-1)) (false)
  replace hD := hD.far hR (by first | exact neDR | exact Ne.symm neRD) (.slice A9 m.length c9) (.slice B9 q2.length d9) (.int .i64 (-1)) (.bool false)
  replace hP := hP.far hR (by first | exact nePR | exact Ne.symm neRP) (.slice A9 m.length c9) (.slice B9 q2.length d9) (.int .i64 (-1)) (.bool false)
  replace hX := hX.setB loR (.slice A9 m.length c9) (.slice B9 q2.length d9) (.int .i64 (-1)) (.bool false)
  obtain ⟨W108, hW⟩ : ∃ W, W = setB W107 gR (.slice A9 m.length c9) (.slice B9 q2.length d9) (.int .i64 (-1)) (.bool false) := ⟨_, rfl⟩
  rw [show ((((W107.setCell ⟨gR, 0, none⟩ (.slice A9 m.length c9)).setCell ⟨gR, 1, none⟩ (.slice B9 q2.length d9)).setCell ⟨gR, 2, none⟩ (.int .i64 (-1))).setCell ⟨gR, 3, none⟩ (.bool false)) = setB W107 gR (.slice A9 m.length c9) (.slice B9 q2.length d9) (.int .i64 (-1)) (.bool false) from rfl, ← hW]
  rw [← hW] at h9 hX hD hP
  replace hR := h9
  clear h9 hW s9 t9
  have HP0 := Lib.hid hP
  obtain ⟨AP, cP, BP, dP, bP, sP, tP⟩ := hP
  obtain ⟨b0, b1, b2, b3, bf, bl⟩ := bP
  go_wp2_with fail
  clear b0 b1 b2 b3 bf bl
  go_loopw [16, 17] (fun f i wr => ∃ k : Nat, k ≤ q2.length ∧ f = .bool (decide (((o, z, false) : Dw) ∈ q2.take k)) ∧ i = .int .i64 k ∧ DV wr gP m q2 (-1) false ∧ DV wr gR m q2 (-1) false ∧ Ext w wr) (fun _ i _ => q2.length - (intOf i).toNat)
  case atStart => exact ⟨0, Nat.zero_le _, rfl, rfl, HP0.out, hR, hX⟩
  case round =>
    clear hX hR hD sP tP HP0
    obtain ⟨k, hk, rfl, rfl, hP, hR, hX⟩ := hrel
    by_cases hlt : k < q2.length
    · have HR := Lib.hid (And.intro hP (And.intro hR hX))
      obtain ⟨AP, cP, BP, dP, bP, sP, tP⟩ := hP
      obtain ⟨b0, b1, b2, b3, bf, bl⟩ := bP
      have t0 := tP.max
      have t1 := tP.le
      unfold maxLen at t0
      obtain ⟨ad, x, rfl, hat, g0, g1, g2⟩ := tP.d_at hlt
      have hnew : decide (((o, z, false) : Dw) ∈ q2.take (k + 1)) = (decide (((o, z, false) : Dw) ∈ q2.take k) || eqD x.1 x.2.1 x.2.2 o z false) := by
        rw [List.take_add_one, hat]
        obtain ⟨x1, x2, x3⟩ := x
        have he : eqD x1 x2 x3 o z false = decide (((o, z, false) : Dw) = (x1, x2, x3)) := by
          rw [Bool.eq_iff_iff, decide_eq_true_iff]
          simp only [eqD, Bool.and_eq_true, beq_iff_eq, Prod.mk.injEq]
          exact ⟨fun ⟨⟨h1, h2⟩, h3⟩ => ⟨h1.symm, h2.symm, h3.symm⟩, fun ⟨h1, h2, h3⟩ => ⟨⟨h1.symm, h2.symm⟩, h3.symm⟩⟩
        rw [he]
        simp only [Option.toList, List.mem_append, List.mem_singleton, Bool.decide_or]
      obtain ⟨f, hf⟩ : ∃ f, decide (((o, z, false) : Dw) ∈ q2.take k) = f := ⟨_, rfl⟩
      obtain ⟨e, he⟩ : ∃ e, eqD x.1 x.2.1 x.2.2 o z false = e := ⟨_, rfl⟩
      have heq := run_eqlD x.1 x.2.1 x.2.2 o z false
      have i1 : (0 : Int) ≤ k := by omega
      have i2 : (k : Int) < q2.length := by omega
      rw [hf, he] at hnew
      rw [hf]
      rw [he] at heq
      have HN := Lib.hid hnew
      clear hf he hat hnew hR hX
      cases f
      all_goals
        go_wp2_with fail
        go_roundw
        case rel => exact ⟨k + 1, by omega, by rw [HN.out]; rfl, by go_num, HR.out⟩
        case measure => simp [intOf]; omega
    · obtain rfl : k = q2.length := by omega
      rw [List.take_length, decide_eq_true HH.out.2.2.2.2]
      obtain ⟨AP, cP, BP, dP, bP, sP, tP⟩ := hP
      obtain ⟨b0, b1, b2, b3, bf, bl⟩ := bP
      obtain ⟨AR, cR, BR, dR, bR, sR, tR⟩ := hR
      obtain ⟨o0, o1, o2, o3, of, ol⟩ := bR
      go_wp2_with fail
      refine (dSame_yes m q2 (-1) false AP cP BP dP AR cR BR dR wr sP tP sR tR).mono ?_
      rintro e W101 ⟨rfl, hxx⟩
      have hP := DV.mk (Box4.mk b0 b1 b2 b3 bf bl) sP tP
      clear b0 b1 b2 b3 bf bl
      have hR := DV.mk (Box4.mk o0 o1 o2 o3 of ol) sR tR
      clear o0 o1 o2 o3 of ol
      replace hP := hP.ext hxx
      replace hR := hR.ext hxx
      replace hX := hX.trans hxx
      clear hxx
      go_wp2_with fail
      refine (alive03_any _).mono ?_
      rintro e w9 ⟨rfl, hx9⟩
      go_wp2_with fail
      go_ret
      exact ⟨rfl, hX.trans hx9⟩
set_option maxRecDepth 100000 in
set_option maxHeartbeats 6400000 in
theorem cacheOrder_1 (m : List Int) (q : List Dw) (a o v z : Int) (A : Option Addr) (c : Nat) (B : Option Addr) (d : Nat) (w : World) (hA : Sl w A m.length c (fU m)) (hB : Sl w B q.length d (fD q)) (hg' : (decide (2100 < m.length) || decide (2100 < q.length)) = false) (hd : devB m q (-1) false = true) (a0 : 0 ≤ a) (a1 : a < m.length) (o0 : 0 ≤ o) (o1 : o < m.length) (hv : InU v) (hz : InU z) (hao : a = o) :
    Calls Try.prog 10 #[.agg #[.slice A m.length c, .slice B q.length d, .int .i64 (-1), .bool false], .int .i64 a, .int .i64 o, .int .u64 v, .int .u64 z] w fun e w' => e = .returned (.bool true) ∧ Ext w w' := by
  have h0 := devE_yes hd
  have H0 := Box4.new w (.slice A m.length c) (.slice B q.length d) (.int .i64 (-1)) (.bool false) 25
  have hs : ∀ (q : List Dw) (a v : Int), stepD (m, q, -1, false) (.st a v) = (m, insD a v q, -1, false) := fun q a v => by simp [stepD, effD, spL]
  have hab : (a != o) = false := by simpa using hao
  have u1 := devB_step (o := .st a v) hd ⟨a0, a1, hv⟩
  have u3 := devB_step (o := .st o z) hd ⟨o0, o1, hz⟩
  have h1 := fun A c B d W (ha : Sl W A m.length c (fU m)) (hb : Sl W B q.length d (fD q)) => dStore_ok (a := a) v hd a0 a1 A c B d W ha hb
  have h3 := fun A c B d W (ha : Sl W A m.length c (fU m)) (hb : Sl W B q.length d (fD q)) => dStore_ok (a := o) z hd o0 o1 A c B d W ha hb
  rw [hs] at u1 u3 h1 h3
  have hmem := ins_mem3 o z (insD a v q)
  have e2 : insD o z q = insD o z (insD a v q) := by rw [hao]; exact (insD_same q).symm
  obtain ⟨q1, hq1⟩ : ∃ x, insD a v q = x := ⟨_, rfl⟩
  rw [hq1] at h1 u1 e2 hmem
  have h2 := fun A c B d W (ha : Sl W A m.length c (fU m)) (hb : Sl W B q1.length d (fD q1)) => dStore_ok (a := o) z u1.1 o0 o1 A c B d W ha hb
  rw [hs] at h2
  obtain ⟨q2, hq2⟩ : ∃ x, insD o z q1 = x := ⟨_, rfl⟩
  rw [hq2] at h2 e2 hmem
  obtain ⟨q3, hq3⟩ : ∃ x, insD o z q = x := ⟨_, rfl⟩
  rw [hq3] at h3 u3 e2
  have h4 := True.intro
  rw [e2] at h3
  have HH := Lib.hid (And.intro h1 (And.intro h2 (And.intro h3 (And.intro h4 hmem))))
  clear h1 h2 h3 h4 u1 u3 hs e2 hq1 hq2 hq3 hmem hao
  have hD := DV.new w m q (-1) false A c B d 25 hA hB
  go_enter Try.func10, Try.ntmps10
  go_wp2_with fail
  refine (dGreat_any _ _ _ _ _ _ _ _ _).mono ?_
  rintro e w1 ⟨rfl, hx1⟩
  rw [hg']
  obtain ⟨b0, b1, b2, b3, bf, bl⟩ := H0.ext (w' := w1) (by repeat (first | assumption | exact Ext.refl _ | refine Ext.drewN ?_ _ | refine Ext.drew ?_ | refine Ext.alloc ?_ _ | refine Ext.trans ?_ (by assumption)))
  go_wp2_with fail
  refine (dRefCk_any m q (-1) false A c B d _ (hB.ext (by repeat (first | assumption | exact Ext.refl _ | refine Ext.drewN ?_ _ | refine Ext.drew ?_ | refine Ext.alloc ?_ _ | refine Ext.trans ?_ (by assumption))))).mono ?_
  rintro e w2 ⟨rfl, hx2⟩
  rw [h0]
  replace hD := hD.ext (hx1.trans hx2)
  have hX : Ext w w2 := Ext.trans ((Ext.refl w).alloc _) (hx1.trans hx2)
  clear b0 b1 b2 b3 bf bl hx1 hx2 H0
  obtain ⟨gD, hgD⟩ : ∃ g, w.heap.size = g := ⟨_, rfl⟩
  have loD : w.heap.size ≤ gD := Nat.le_of_eq hgD
  have HgD := Lib.hid hgD
  rw [hgD] at hD ⊢
  clear hgD
  obtain ⟨AD, cD, BD, dD, bD, sD, tD⟩ := hD
  obtain ⟨b0, b1, b2, b3, bf, bl⟩ := bD
  go_wp2_with fail
  refine (HH.out.1 AD cD BD dD w2 sD tD).mono ?_
  rintro e W101 ⟨AP, cP, BP, dP, rfl, sP, tP, hxx⟩
  have hD := DV.mk (Box4.mk b0 b1 b2 b3 bf bl) sD tD
  clear b0 b1 b2 b3 bf bl
  go_upto_region 4 with fail
  have hP := DV.new W101 m q1 ((-1)) false AP cP BP dP 25 sP tP
  have neDP : gD ≠ W101.heap.size := Nat.ne_of_lt (Nat.lt_of_lt_of_le hD.lt hxx.size)
  have loP := Nat.le_trans hX.size hxx.size
  replace hxx := Ext.trans hxx ((Ext.refl W101).alloc (Obj.cells #[.slice AP m.length cP, .slice BP q1.length dP, .int .i64 (-1), .bool false] 25))
  obtain ⟨W102, hW⟩ : ∃ W, W = W101.alloc (Obj.cells #[.slice AP m.length cP, .slice BP q1.length dP, .int .i64 (-1), .bool false] 25) := ⟨_, rfl⟩
  obtain ⟨gP, hg⟩ : ∃ g, W101.heap.size = g := ⟨_, rfl⟩
  rw [← hW] at hP hxx ⊢
  rw [hg] at hP loP neDP ⊢
  clear hW hg sP tP
  replace hD := hD.ext hxx
  replace hX := hX.trans hxx
  clear hxx
  obtain ⟨AP, cP, BP, dP, bP, sP, tP⟩ := hP
  obtain ⟨b0, b1, b2, b3, bf, bl⟩ := bP
  go_wp2_with fail
  refine (HH.out.2.1 AP cP BP dP W102 sP tP).mono ?_
  rintro e W103 ⟨A9, c9, B9, d9, rfl, s9, t9, hxx⟩
  have hP := DV.mk (Box4.mk b0 b1 b2 b3 bf bl) sP tP
  clear b0 b1 b2 b3 bf bl
  replace hD := hD.ext hxx
  replace hP := hP.ext hxx
  replace hX := hX.trans hxx
  have h9 := hP
  obtain ⟨A8, c8, B8, d8, b9, s8, t8⟩ := h9
  obtain ⟨b0, b1, b2, b3, bf, bl⟩ := b9
  go_upto_region 5 with fail
  clear b0 b1 b2 b3 bf bl s8 t8 hxx
  have h9 := hP.set s9 t9 ((-1)) (false)
  replace hD := hD.far hP (by first | exact neDP | exact Ne.symm nePD) (.slice A9 m.length c9) (.slice B9 q2.length d9) (.int .i64 (-1)) (.bool false)
  replace hX := hX.setB loP (.slice A9 m.length c9) (.slice B9 q2.length d9) (.int .i64 (-1)) (.bool false)
  obtain ⟨W104, hW⟩ : ∃ W, W = setB W103 gP (.slice A9 m.length c9) (.slice B9 q2.length d9) (.int .i64 (-1)) (.bool false) := ⟨_, rfl⟩
  rw [show ((((W103.setCell ⟨gP, 0, none⟩ (.slice A9 m.length c9)).setCell ⟨gP, 1, none⟩ (.slice B9 q2.length d9)).setCell ⟨gP, 2, none⟩ (.int .i64 (-1))).setCell ⟨gP, 3, none⟩ (.bool false)) = setB W103 gP (.slice A9 m.length c9) (.slice B9 q2.length d9) (.int .i64 (-1)) (.bool false) from rfl, ← hW]
  rw [← hW] at h9 hX hD
  replace hP := h9
  clear h9 hW s9 t9
  obtain ⟨AD, cD, BD, dD, bD, sD, tD⟩ := hD
  obtain ⟨b0, b1, b2, b3, bf, bl⟩ := bD
  go_wp2_with fail
  refine (HH.out.2.2.1 AD cD BD dD W104 sD tD).mono ?_
  rintro e W105 ⟨AR, cR, BR, dR, rfl, sR, tR, hxx⟩
  have hD := DV.mk (Box4.mk b0 b1 b2 b3 bf bl) sD tD
  clear b0 b1 b2 b3 bf bl
  go_upto_region 6 with fail
  have hR := DV.new W105 m q2 ((-1)) false AR cR BR dR 25 sR tR
  have neDR : gD ≠ W105.heap.size := Nat.ne_of_lt (Nat.lt_of_lt_of_le hD.lt hxx.size)
  have nePR : gP ≠ W105.heap.size := Nat.ne_of_lt (Nat.lt_of_lt_of_le hP.lt hxx.size)
  have loR := Nat.le_trans hX.size hxx.size
  replace hxx := Ext.trans hxx ((Ext.refl W105).alloc (Obj.cells #[.slice AR m.length cR, .slice BR q2.length dR, .int .i64 (-1), .bool false] 25))
  obtain ⟨W106, hW⟩ : ∃ W, W = W105.alloc (Obj.cells #[.slice AR m.length cR, .slice BR q2.length dR, .int .i64 (-1), .bool false] 25) := ⟨_, rfl⟩
  obtain ⟨gR, hg⟩ : ∃ g, W105.heap.size = g := ⟨_, rfl⟩
  rw [← hW] at hR hxx ⊢
  rw [hg] at hR loR neDR nePR ⊢
  clear hW hg sR tR
  replace hD := hD.ext hxx
  replace hP := hP.ext hxx
  replace hX := hX.trans hxx
  clear hxx
  have HP0 := Lib.hid hP
  obtain ⟨AP, cP, BP, dP, bP, sP, tP⟩ := hP
  obtain ⟨b0, b1, b2, b3, bf, bl⟩ := bP
  go_wp2_with fail
  clear b0 b1 b2 b3 bf bl
  go_loopw [16, 17] (fun f i wr => ∃ k : Nat, k ≤ q2.length ∧ f = .bool (decide (((o, z, false) : Dw) ∈ q2.take k)) ∧ i = .int .i64 k ∧ DV wr gP m q2 (-1) false ∧ DV wr gR m q2 (-1) false ∧ Ext w wr) (fun _ i _ => q2.length - (intOf i).toNat)
  case atStart => exact ⟨0, Nat.zero_le _, rfl, rfl, HP0.out, hR, hX⟩
  case round =>
    clear hX hR hD sP tP HP0
    obtain ⟨k, hk, rfl, rfl, hP, hR, hX⟩ := hrel
    by_cases hlt : k < q2.length
    · have HR := Lib.hid (And.intro hP (And.intro hR hX))
      obtain ⟨AP, cP, BP, dP, bP, sP, tP⟩ := hP
      obtain ⟨b0, b1, b2, b3, bf, bl⟩ := bP
      have t0 := tP.max
      have t1 := tP.le
      unfold maxLen at t0
      obtain ⟨ad, x, rfl, hat, g0, g1, g2⟩ := tP.d_at hlt
      have hnew : decide (((o, z, false) : Dw) ∈ q2.take (k + 1)) = (decide (((o, z, false) : Dw) ∈ q2.take k) || eqD x.1 x.2.1 x.2.2 o z false) := by
        rw [List.take_add_one, hat]
        obtain ⟨x1, x2, x3⟩ := x
        have he : eqD x1 x2 x3 o z false = decide (((o, z, false) : Dw) = (x1, x2, x3)) := by
          rw [Bool.eq_iff_iff, decide_eq_true_iff]
          simp only [eqD, Bool.and_eq_true, beq_iff_eq, Prod.mk.injEq]
          exact ⟨fun ⟨⟨h1, h2⟩, h3⟩ => ⟨h1.symm, h2.symm, h3.symm⟩, fun ⟨h1, h2, h3⟩ => ⟨⟨h1.symm, h2.symm⟩, h3.symm⟩⟩
        rw [he]
        simp only [Option.toList, List.mem_append, List.mem_singleton, Bool.decide_or]
      obtain ⟨f, hf⟩ : ∃ f, decide (((o, z, false) : Dw) ∈ q2.take k) = f := ⟨_, rfl⟩
      obtain ⟨e, he⟩ : ∃ e, eqD x.1 x.2.1 x.2.2 o z false = e := ⟨_, rfl⟩
      have heq := run_eqlD x.1 x.2.1 x.2.2 o z false
      have i1 : (0 : Int) ≤ k := by omega
      have i2 : (k : Int) < q2.length := by omega
      rw [hf, he] at hnew
      rw [hf]
      rw [he] at heq
      have HN := Lib.hid hnew
      clear hf he hat hnew hR hX
      cases f
      all_goals
        go_wp2_with fail
        go_roundw
        case rel => exact ⟨k + 1, by omega, by rw [HN.out]; rfl, by go_num, HR.out⟩
        case measure => simp [intOf]; omega
    · obtain rfl : k = q2.length := by omega
      rw [List.take_length, decide_eq_true HH.out.2.2.2.2]
      obtain ⟨AP, cP, BP, dP, bP, sP, tP⟩ := hP
      obtain ⟨b0, b1, b2, b3, bf, bl⟩ := bP
      obtain ⟨AR, cR, BR, dR, bR, sR, tR⟩ := hR
      obtain ⟨o0, o1, o2, o3, of, ol⟩ := bR
      go_wp2_with fail
      refine (dSame_yes m q2 (-1) false AP cP BP dP AR cR BR dR wr sP tP sR tR).mono ?_
      rintro e W101 ⟨rfl, hxx⟩
      have hP := DV.mk (Box4.mk b0 b1 b2 b3 bf bl) sP tP
      clear b0 b1 b2 b3 bf bl
      have hR := DV.mk (Box4.mk o0 o1 o2 o3 of ol) sR tR
      clear o0 o1 o2 o3 of ol
      replace hP := hP.ext hxx
      replace hR := hR.ext hxx
      replace hX := hX.trans hxx
      clear hxx
      go_wp2_with fail
      refine (alive03_any _).mono ?_
      rintro e w9 ⟨rfl, hx9⟩
      go_wp2_with fail
      go_ret
      exact ⟨rfl, hX.trans hx9⟩
set_option maxRecDepth 100000 in
set_option maxHeartbeats 6400000 in
theorem cacheOrder_any (m : List Int) (q : List Dw) (left : Int) (down : Bool) (a o v z : Int) (A : Option Addr) (c : Nat) (B : Option Addr) (d : Nat) (w : World) (hA : Sl w A m.length c (fU m)) (hB : Sl w B q.length d (fD q)) (hv : InU v) (hz : InU z) :
    Calls Try.prog 10 #[.agg #[.slice A m.length c, .slice B q.length d, .int .i64 left, .bool down], .int .i64 a, .int .i64 o, .int .u64 v, .int .u64 z] w fun e w' => e = .returned (.bool true) ∧ Ext w w' := by
  by_cases hg : (decide (2100 < m.length) || decide (2100 < q.length)) = true
  · go_enter Try.func10, Try.ntmps10
    go_wp2_with fail
    refine (dGreat_any _ _ _ _ _ _ _ _ _).mono ?_
    rintro e w1 ⟨rfl, hx1⟩
    rw [hg]
    go_wp2_with fail
    refine (alive03_any _).mono ?_
    rintro e w2 ⟨rfl, hx2⟩
    go_wp2_with fail
    go_ret
    exact ⟨rfl, (by repeat (first | assumption | exact Ext.refl _ | refine Ext.drewN ?_ _ | refine Ext.drew ?_ | refine Ext.alloc ?_ _ | refine Ext.trans ?_ (by assumption)))⟩
  have hg' : (decide (2100 < m.length) || decide (2100 < q.length)) = false := by simpa using hg
  clear hg
  have H0 := Box4.new w (.slice A m.length c) (.slice B q.length d) (.int .i64 left) (.bool down) 25
  by_cases hd : devB m q left down = true
  rotate_left
  · have h0 := devE_no (by simpa using hd)
    go_enter Try.func10, Try.ntmps10
    go_wp2_with fail
    refine (dGreat_any _ _ _ _ _ _ _ _ _).mono ?_
    rintro e w1 ⟨rfl, hx1⟩
    rw [hg']
    obtain ⟨b0, b1, b2, b3, bf, bl⟩ := H0.ext (w' := w1) (by repeat (first | assumption | exact Ext.refl _ | refine Ext.drewN ?_ _ | refine Ext.drew ?_ | refine Ext.alloc ?_ _ | refine Ext.trans ?_ (by assumption)))
    go_wp2_with fail
    refine (dRefCk_any m q left down A c B d _ (hB.ext (by repeat (first | assumption | exact Ext.refl _ | refine Ext.drewN ?_ _ | refine Ext.drew ?_ | refine Ext.alloc ?_ _ | refine Ext.trans ?_ (by assumption))))).mono ?_
    rintro e w2 ⟨rfl, hx2⟩
    rw [h0]
    go_wp2_with fail
    refine (alive03_any _).mono ?_
    rintro e w3 ⟨rfl, hx3⟩
    go_wp2_with fail
    go_ret
    exact ⟨rfl, (by repeat (first | assumption | exact Ext.refl _ | refine Ext.drewN ?_ _ | refine Ext.drew ?_ | refine Ext.alloc ?_ _ | refine Ext.trans ?_ (by assumption)))⟩
  have h0 := devE_yes hd
  by_cases hr : left = -1
  rotate_left
  · have hn : (left != -1) = true := by simpa using hr
    clear hr
    go_enter Try.func10, Try.ntmps10
    go_wp2_with fail
    refine (dGreat_any _ _ _ _ _ _ _ _ _).mono ?_
    rintro e w1 ⟨rfl, hx1⟩
    rw [hg']
    obtain ⟨b0, b1, b2, b3, bf, bl⟩ := H0.ext (w' := w1) (by repeat (first | assumption | exact Ext.refl _ | refine Ext.drewN ?_ _ | refine Ext.drew ?_ | refine Ext.alloc ?_ _ | refine Ext.trans ?_ (by assumption)))
    go_wp2_with fail
    refine (dRefCk_any m q left down A c B d _ (hB.ext (by repeat (first | assumption | exact Ext.refl _ | refine Ext.drewN ?_ _ | refine Ext.drew ?_ | refine Ext.alloc ?_ _ | refine Ext.trans ?_ (by assumption))))).mono ?_
    rintro e w2 ⟨rfl, hx2⟩
    rw [h0]
    clear b0 b1 b2 b3 bf bl
    obtain ⟨b0, b1, b2, b3, bf, bl⟩ := H0.ext (w' := w2) (by repeat (first | assumption | exact Ext.refl _ | refine Ext.drewN ?_ _ | refine Ext.drew ?_ | refine Ext.alloc ?_ _ | refine Ext.trans ?_ (by assumption)))
    go_wp2_with fail
    refine (alive03_any _).mono ?_
    rintro e w3 ⟨rfl, hx3⟩
    go_wp2_with fail
    go_ret
    exact ⟨rfl, (by repeat (first | assumption | exact Ext.refl _ | refine Ext.drewN ?_ _ | refine Ext.drew ?_ | refine Ext.alloc ?_ _ | refine Ext.trans ?_ (by assumption)))⟩
  have HL := Lib.hid hr
  clear hr
  have hlb : (left != -1) = false := by simp; exact HL.out
  by_cases hr : 0 ≤ a
  rotate_left
  · have hn : a < 0 := by omega
    clear hr
    go_enter Try.func10, Try.ntmps10
    go_wp2_with fail
    refine (dGreat_any _ _ _ _ _ _ _ _ _).mono ?_
    rintro e w1 ⟨rfl, hx1⟩
    rw [hg']
    obtain ⟨b0, b1, b2, b3, bf, bl⟩ := H0.ext (w' := w1) (by repeat (first | assumption | exact Ext.refl _ | refine Ext.drewN ?_ _ | refine Ext.drew ?_ | refine Ext.alloc ?_ _ | refine Ext.trans ?_ (by assumption)))
    go_wp2_with fail
    refine (dRefCk_any m q left down A c B d _ (hB.ext (by repeat (first | assumption | exact Ext.refl _ | refine Ext.drewN ?_ _ | refine Ext.drew ?_ | refine Ext.alloc ?_ _ | refine Ext.trans ?_ (by assumption))))).mono ?_
    rintro e w2 ⟨rfl, hx2⟩
    rw [h0]
    clear b0 b1 b2 b3 bf bl
    obtain ⟨b0, b1, b2, b3, bf, bl⟩ := H0.ext (w' := w2) (by repeat (first | assumption | exact Ext.refl _ | refine Ext.drewN ?_ _ | refine Ext.drew ?_ | refine Ext.alloc ?_ _ | refine Ext.trans ?_ (by assumption)))
    go_wp2_with fail
    refine (alive03_any _).mono ?_
    rintro e w3 ⟨rfl, hx3⟩
    go_wp2_with fail
    go_ret
    exact ⟨rfl, (by repeat (first | assumption | exact Ext.refl _ | refine Ext.drewN ?_ _ | refine Ext.drew ?_ | refine Ext.alloc ?_ _ | refine Ext.trans ?_ (by assumption)))⟩
  have hr3 := hr
  clear hr
  by_cases hr : a < m.length
  rotate_left
  · have hn : (m.length : Int) ≤ a := by omega
    clear hr
    go_enter Try.func10, Try.ntmps10
    go_wp2_with fail
    refine (dGreat_any _ _ _ _ _ _ _ _ _).mono ?_
    rintro e w1 ⟨rfl, hx1⟩
    rw [hg']
    obtain ⟨b0, b1, b2, b3, bf, bl⟩ := H0.ext (w' := w1) (by repeat (first | assumption | exact Ext.refl _ | refine Ext.drewN ?_ _ | refine Ext.drew ?_ | refine Ext.alloc ?_ _ | refine Ext.trans ?_ (by assumption)))
    go_wp2_with fail
    refine (dRefCk_any m q left down A c B d _ (hB.ext (by repeat (first | assumption | exact Ext.refl _ | refine Ext.drewN ?_ _ | refine Ext.drew ?_ | refine Ext.alloc ?_ _ | refine Ext.trans ?_ (by assumption))))).mono ?_
    rintro e w2 ⟨rfl, hx2⟩
    rw [h0]
    clear b0 b1 b2 b3 bf bl
    obtain ⟨b0, b1, b2, b3, bf, bl⟩ := H0.ext (w' := w2) (by repeat (first | assumption | exact Ext.refl _ | refine Ext.drewN ?_ _ | refine Ext.drew ?_ | refine Ext.alloc ?_ _ | refine Ext.trans ?_ (by assumption)))
    go_wp2_with fail
    refine (alive03_any _).mono ?_
    rintro e w3 ⟨rfl, hx3⟩
    go_wp2_with fail
    go_ret
    exact ⟨rfl, (by repeat (first | assumption | exact Ext.refl _ | refine Ext.drewN ?_ _ | refine Ext.drew ?_ | refine Ext.alloc ?_ _ | refine Ext.trans ?_ (by assumption)))⟩
  have hr4 := hr
  clear hr
  by_cases hr : 0 ≤ o
  rotate_left
  · have hn : o < 0 := by omega
    clear hr
    go_enter Try.func10, Try.ntmps10
    go_wp2_with fail
    refine (dGreat_any _ _ _ _ _ _ _ _ _).mono ?_
    rintro e w1 ⟨rfl, hx1⟩
    rw [hg']
    obtain ⟨b0, b1, b2, b3, bf, bl⟩ := H0.ext (w' := w1) (by repeat (first | assumption | exact Ext.refl _ | refine Ext.drewN ?_ _ | refine Ext.drew ?_ | refine Ext.alloc ?_ _ | refine Ext.trans ?_ (by assumption)))
    go_wp2_with fail
    refine (dRefCk_any m q left down A c B d _ (hB.ext (by repeat (first | assumption | exact Ext.refl _ | refine Ext.drewN ?_ _ | refine Ext.drew ?_ | refine Ext.alloc ?_ _ | refine Ext.trans ?_ (by assumption))))).mono ?_
    rintro e w2 ⟨rfl, hx2⟩
    rw [h0]
    clear b0 b1 b2 b3 bf bl
    obtain ⟨b0, b1, b2, b3, bf, bl⟩ := H0.ext (w' := w2) (by repeat (first | assumption | exact Ext.refl _ | refine Ext.drewN ?_ _ | refine Ext.drew ?_ | refine Ext.alloc ?_ _ | refine Ext.trans ?_ (by assumption)))
    go_wp2_with fail
    refine (alive03_any _).mono ?_
    rintro e w3 ⟨rfl, hx3⟩
    go_wp2_with fail
    go_ret
    exact ⟨rfl, (by repeat (first | assumption | exact Ext.refl _ | refine Ext.drewN ?_ _ | refine Ext.drew ?_ | refine Ext.alloc ?_ _ | refine Ext.trans ?_ (by assumption)))⟩
  have hr5 := hr
  clear hr
  by_cases hr : o < m.length
  rotate_left
  · have hn : (m.length : Int) ≤ o := by omega
    clear hr
    go_enter Try.func10, Try.ntmps10
    go_wp2_with fail
    refine (dGreat_any _ _ _ _ _ _ _ _ _).mono ?_
    rintro e w1 ⟨rfl, hx1⟩
    rw [hg']
    obtain ⟨b0, b1, b2, b3, bf, bl⟩ := H0.ext (w' := w1) (by repeat (first | assumption | exact Ext.refl _ | refine Ext.drewN ?_ _ | refine Ext.drew ?_ | refine Ext.alloc ?_ _ | refine Ext.trans ?_ (by assumption)))
    go_wp2_with fail
    refine (dRefCk_any m q left down A c B d _ (hB.ext (by repeat (first | assumption | exact Ext.refl _ | refine Ext.drewN ?_ _ | refine Ext.drew ?_ | refine Ext.alloc ?_ _ | refine Ext.trans ?_ (by assumption))))).mono ?_
    rintro e w2 ⟨rfl, hx2⟩
    rw [h0]
    clear b0 b1 b2 b3 bf bl
    obtain ⟨b0, b1, b2, b3, bf, bl⟩ := H0.ext (w' := w2) (by repeat (first | assumption | exact Ext.refl _ | refine Ext.drewN ?_ _ | refine Ext.drew ?_ | refine Ext.alloc ?_ _ | refine Ext.trans ?_ (by assumption)))
    go_wp2_with fail
    refine (alive03_any _).mono ?_
    rintro e w3 ⟨rfl, hx3⟩
    go_wp2_with fail
    go_ret
    exact ⟨rfl, (by repeat (first | assumption | exact Ext.refl _ | refine Ext.drewN ?_ _ | refine Ext.drew ?_ | refine Ext.alloc ?_ _ | refine Ext.trans ?_ (by assumption)))⟩
  have hr6 := hr
  clear hr
  clear H0 h0 hlb
  obtain rfl : left = -1 := HL.out
  have hdn := (devB_bd hd).2.2.2.1
  obtain rfl : down = false := by cases down with | false => rfl | true => exact absurd (hdn rfl) (by decide)
  by_cases hao : a = o
  · exact cacheOrder_1 m q a o v z A c B d w hA hB hg' hd (by assumption) (by assumption) (by assumption) (by assumption) hv hz hao
  · exact cacheOrder_0 m q a o v z A c B d w hA hB hg' hd (by assumption) (by assumption) (by assumption) (by assumption) hv hz hao
set_option maxRecDepth 100000 in
theorem cacheOrder_lifted (os : Os) (started : os.Started) (H : Type) (enc : TypeId × Value → H) :
    ReturnsInHanded {} Try.checked os 10 .any (Rows.cacheOrderSpec.pre6 enc Try.prog Try.f10 Rows.cacheOrderRow.domain false) (Rows.cacheOrderSpec.post enc Try.prog Try.f10 false true false false) := by
  refine returnsInHanded_of_change (C := Try.checked) own_knob started (by kernel_rfl) Try.func10
    (ChangeSpec.witness6 (enc := enc) (C := Try.checked) false ⟨#[], #[.agg #[.slice none 0 0, .slice none 0 0, .int .i64 0, .bool false], .int .i64 0, .int .i64 0, .int .u64 0, .int .u64 0], []⟩ 8 (by kernel_rfl) (by kernel_rfl) (by kernel_rfl) (by kernel_rfl)) ?_
  intro W base args ds gs before hval0 hW hcnd _
  have hval : ∀ (j : Nat) t v, Try.f10.params[j]? = some t → args[j]? = some v → Value.okWide Try.prog W .any base t v := hval0
  have hW' := hW
  obtain ⟨p, q, hA0, hV, rfl, hfz, hnd⟩ := hW
  have hA : DataW.TrodAll enc Try.prog W 0 (fun _ => true) true Try.f10.params.toList args.toList ds p := hA0
  rw [Try.params10] at hA hval
  obtain ⟨v0, vs0, d0, ds0, p0, q0, hargs, rfl, rfl, h0, r0⟩ := trodAll_cons hA
  obtain ⟨v1, vs1, d1, ds1, p1, q1, rfl, rfl, rfl, h1, r1⟩ := trodAll_cons r0
  obtain ⟨v2, vs2, d2, ds2, p2, q2, rfl, rfl, rfl, h2, r2⟩ := trodAll_cons r1
  obtain ⟨v3, vs3, d3, ds3, p3, q3, rfl, rfl, rfl, h3, r3⟩ := trodAll_cons r2
  obtain ⟨v4, vs4, d4, ds4, p4, q4, rfl, rfl, rfl, h4, r4⟩ := trodAll_cons r3
  obtain ⟨rfl, rfl, rfl⟩ := trodAll_nil r4
  obtain rfl : args = #[v0, v1, v2, v3, v4] := by cases args; simp_all
  obtain ⟨rfl, rfl⟩ := trodVars_none hV
  obtain ⟨A0, c0, m0, B0, k0, ds0, left0, down0, rfl, hS0, wA0, hB0, wB0, wl0⟩ := op_V (hval 0 25 v0 rfl rfl) h0
  obtain ⟨x1, rfl, wx1⟩ := op_i (hval 1 3 v1 rfl rfl) h1
  obtain ⟨x2, rfl, wx2⟩ := op_i (hval 2 3 v2 rfl rfl) h2
  obtain ⟨x3, rfl, wx3⟩ := op_u (hval 3 26 v3 rfl rfl) h3
  obtain ⟨x4, rfl, wx4⟩ := op_u (hval 4 26 v4 rfl rfl) h4
  clear hA0 hval0 hval hA
  refine (cacheOrder_any m0 ds0 left0 down0 x1 x2 x3 x4 A0 c0 B0 k0 W hS0 hB0 wx3 wx4).mono fun e W' ⟨he, hx⟩ => ?_
  subst he
  exact ⟨_, rfl, post_law laid_out (by kernel_rfl) hW' rfl rfl rfl Try.underlying4 hx⟩
theorem cacheOrder_holds : Rows.CacheOrderSaid :=
  OpenClaim.holds_of_wide 10 Try.f10 rfl rfl rfl rfl rfl rfl rfl ⟨rfl, rfl, rfl, rfl, rfl⟩ rfl rfl rfl rfl rfl (by kernel_rfl) Try.func10 (by kernel_rfl)
    (of_decide_eq_true (by kernel_rfl)) (by unfold Func.isWrapper; first | (rw [if_pos (by decide +kernel)]; kernel_rfl) | (rw [if_neg (by decide +kernel)]; exact ⟨rfl, rfl⟩))
    (fun os started H enc _ => cacheOrder_lifted os started H enc)
end Go.Proofs.Ytmmcbleoglgamaa
