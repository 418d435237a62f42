/-
  CacheLast, for every device, every two addresses and every word: the law returns true. No condition.
-/
import Derived.Test.YtmmcbleoglgamaaAlive03
import Derived.Test.YtmmcbleoglgamaaOpen
namespace Go.Proofs.Ytmmcbleoglgamaa
open Go.ChangeShapes Go.WideShapes Go.ChangeAt Go.RowKit
theorem ldV_step {m : List Int} {q : List Dw} {left : Int} {down : Bool} {a v o : Int} (hd : devB m q left down = true) (a0 : 0 ≤ a) (a1 : a < m.length) (o0 : 0 ≤ o) (hl : left ≠ 0) :
    ldV (stepD (m, q, left, down) (.st a v)).1 (stepD (m, q, left, down) (.st a v)).2.1 o = if o = a then v else ldV m q o := by
  have hasc := (devB_bd hd).2.2.2.2
  have e : stepD (m, q, left, down) (.st a v) = (m, insD a v q, spL left, down) := by simp [stepD, hl, effD]
  rw [e]
  simp only [ldV, wrd_ins a0 (by decide) hasc]
  split
  · rename_i h
    subst h
    rw [List.getD, List.getElem?_set_self (by rw [wrd_length]; omega)]
    rfl
  · rw [List.getD, List.getElem?_set_ne (by omega)]
    rfl
theorem wrd_step {m : List Int} {q : List Dw} {left : Int} {down : Bool} {o : Dop} (hd : devB m q left down = true) (ho : OpIn m.length o) (hs : ∀ a v, o ≠ .st a v) :
    wrd (stepD (m, q, left, down) o).1 (stepD (m, q, left, down) o).2.1 = wrd m q := by
  have hasc := (devB_bd hd).2.2.2.2
  by_cases hl : left = 0
  · simp [stepD, hl]
  · have := wrd_eff (n := m.length) (s := (m, q)) ⟨rfl, hasc⟩ ho
    simp only [stepD, hl, if_false, this]
    cases o with
    | st a v => exact absurd rfl (hs a v)
    | fl a => rfl
    | fe => rfl
set_option maxRecDepth 100000 in
set_option maxHeartbeats 6400000 in
theorem cacheLast_0 (m : List Int) (q : List Dw) (left : Int) (a o v : Int) (A : Option Addr) (c : Nat) (B : Option Addr) (d : Nat) (w : World) (hA : Sl w A m.length c (fU m)) (hB : Sl w B q.length d (fD q)) (hg' : (decide (2100 < m.length) || decide (2100 < q.length)) = false) (hd : devB m q left false = true) (a0 : 0 ≤ a) (a1 : a < m.length) (o0 : 0 ≤ o) (o1 : o < m.length) (hv : InU v) (hl : left = 0) :
    Calls Try.prog 13 #[.agg #[.slice A m.length c, .slice B q.length d, .int .i64 left, .bool false], .int .i64 a, .int .i64 o, .int .u64 v] w fun e w' => e = .returned (.bool true) ∧ Ext w w' := by
  have h0 := devE_yes hd
  have H0 := Box4.new w (.slice A m.length c) (.slice B q.length d) (.int .i64 left) (.bool false) 25
  have u1 : ldV (stepD (m, q, left, false) (.st a v)).1 (stepD (m, q, left, false) (.st a v)).2.1 o = ldV m q o := by
    simp [stepD, hl]
  have u2 : (stepD (m, q, left, false) (.st a v)).2.2.2 = true := by
    simp [stepD, hl]
  have u3 := devB_step (o := .st a v) hd ⟨a0, a1, hv⟩
  obtain ⟨⟨m1, q1, l1, n1⟩, s1⟩ : ∃ D, stepD (m, q, left, false) (.st a v) = D := ⟨_, rfl⟩
  rw [s1] at u1 u2 u3
  simp only at u1 u2 u3
  subst u2
  have u4 := devB_step (o := .fl o) u3.1 ⟨o0, by rw [u3.2]; exact o1⟩
  have u5 := wrd_step (o := .fl o) u3.1 ⟨o0, by rw [u3.2]; exact o1⟩ (by intro _ _ h; cases h)
  have h3 := fun A c B d W (ha : Sl W A m1.length c (fU m1)) (hb : Sl W B q1.length d (fD q1)) => dFlush_ok (a := o) u3.1 o0 (by rw [u3.2]; exact o1) A c B d W ha hb
  obtain ⟨⟨m2, q2, l2, n2⟩, s2⟩ : ∃ D, stepD (m1, q1, l1, true) (.fl o) = D := ⟨_, rfl⟩
  rw [s2] at u4 u5 h3
  simp only at u4 u5
  have u6 := devB_step (o := .fe) u4.1 trivial
  have u7 := wrd_step (o := .fe) u4.1 trivial (by intro _ _ h; cases h)
  have h4 := fun A c B d W (ha : Sl W A m2.length c (fU m2)) (hb : Sl W B q2.length d (fD q2)) => dFence_ok u4.1 A c B d W ha hb
  obtain ⟨⟨m3, q3, l3, n3⟩, s3⟩ : ∃ D, stepD (m2, q2, l2, n2) .fe = D := ⟨_, rfl⟩
  rw [s3] at u6 u7 h4
  simp only at u6 u7
  have h1 := fun A c B d W (ha : Sl W A m.length c (fU m)) (hb : Sl W B q.length d (fD q)) => dStore_ok (a := a) v hd a0 a1 A c B d W ha hb
  rw [s1] at h1
  have h2 := fun A c B d W (ha : Sl W A m.length c (fU m)) (hb : Sl W B q.length d (fD q)) => dLoad_ok (a := o) hd o0 o1 A c B d W ha hb
  have h5 := fun A c B d W (ha : Sl W A m1.length c (fU m1)) (hb : Sl W B q1.length d (fD q1)) => dLoad_ok (a := o) u3.1 o0 (by rw [u3.2]; exact o1) A c B d W ha hb
  rw [u1] at h5
  have h6 := fun A c B d W (ha : Sl W A m1.length c (fU m1)) (hb : Sl W B q1.length d (fD q1)) => dView_ok u3.1 A c B d W ha hb
  have h7 := fun A c B d W (ha : Sl W A m3.length c (fU m3)) (hb : Sl W B q3.length d (fD q3)) => dView_ok u6.1 A c B d W ha hb
  rw [u7, u5] at h7
  obtain ⟨x0, hx0⟩ : ∃ x, ldV m q o = x := ⟨_, rfl⟩
  obtain ⟨V, hV⟩ : ∃ x, wrd m1 q1 = x := ⟨_, rfl⟩
  rw [hx0] at h2 h5
  rw [hV] at h6 h7
  have HH := Lib.hid (And.intro h1 (And.intro h2 (And.intro h3 (And.intro h4 (And.intro h5 (And.intro h6 h7))))))
  have hlb : (left != 0) = false := by simp [hl]
  skip
  clear h1 h2 h3 h4 h5 h6 h7 u1 u3 u4 u5 u6 u7 s1 s2 s3 hx0 hV hl 
  have hD := DV.new w m q left false A c B d 25 hA hB
  go_enter Try.func13, Try.ntmps13
  go_wp2_with fail
  refine (dGreat_any _ _ _ _ _ _ _ _ _).mono ?_
  rintro e w1 ⟨rfl, hx1⟩
  rw [hg']
  obtain ⟨b0, b1, b2, b3, bf, bl⟩ := H0.ext (w' := w1) (by repeat (first | assumption | exact Ext.refl _ | refine Ext.drewN ?_ _ | refine Ext.drew ?_ | refine Ext.alloc ?_ _ | refine Ext.trans ?_ (by assumption)))
  go_wp2_with fail
  refine (dRefCk_any m q left false A c B d _ (hB.ext (by repeat (first | assumption | exact Ext.refl _ | refine Ext.drewN ?_ _ | refine Ext.drew ?_ | refine Ext.alloc ?_ _ | refine Ext.trans ?_ (by assumption))))).mono ?_
  rintro e w2 ⟨rfl, hx2⟩
  rw [h0]
  replace hD := hD.ext (hx1.trans hx2)
  have hX : Ext w w2 := Ext.trans ((Ext.refl w).alloc _) (hx1.trans hx2)
  clear b0 b1 b2 b3 bf bl hx1 hx2 H0
  obtain ⟨gD, hgD⟩ : ∃ g, w.heap.size = g := ⟨_, rfl⟩
  have loD : w.heap.size ≤ gD := Nat.le_of_eq hgD
  have HgD := Lib.hid hgD
  rw [hgD] at hD ⊢
  clear hgD
  obtain ⟨AD, cD, BD, dD, bD, sD, tD⟩ := hD
  obtain ⟨b0, b1, b2, b3, bf, bl⟩ := bD
  go_wp2_with fail
  refine (HH.out.1 AD cD BD dD w2 sD tD).mono ?_
  rintro e W101 ⟨AS, cS, BS, dS, rfl, sS, tS, hxx⟩
  have hD := DV.mk (Box4.mk b0 b1 b2 b3 bf bl) sD tD
  clear b0 b1 b2 b3 bf bl
  go_upto_region 4 with fail
  have hS := DV.new W101 m1 q1 l1 true AS cS BS dS 25 sS tS
  have neDS : gD ≠ W101.heap.size := Nat.ne_of_lt (Nat.lt_of_lt_of_le hD.lt hxx.size)
  have loS := Nat.le_trans hX.size hxx.size
  replace hxx := Ext.trans hxx ((Ext.refl W101).alloc (Obj.cells #[.slice AS m1.length cS, .slice BS q1.length dS, .int .i64 l1, .bool true] 25))
  obtain ⟨W102, hW⟩ : ∃ W, W = W101.alloc (Obj.cells #[.slice AS m1.length cS, .slice BS q1.length dS, .int .i64 l1, .bool true] 25) := ⟨_, rfl⟩
  obtain ⟨gS, hg⟩ : ∃ g, W101.heap.size = g := ⟨_, rfl⟩
  rw [← hW] at hS hxx ⊢
  rw [hg] at hS loS neDS ⊢
  clear hW hg sS tS
  replace hD := hD.ext hxx
  replace hX := hX.trans hxx
  clear hxx
  obtain ⟨AD, cD, BD, dD, bD, sD, tD⟩ := hD
  obtain ⟨b0, b1, b2, b3, bf, bl⟩ := bD
  go_wp2_with fail
  refine (HH.out.2.1 AD cD BD dD W102 sD tD).mono ?_
  rintro e W103 ⟨rfl, hxx⟩
  have hD := DV.mk (Box4.mk b0 b1 b2 b3 bf bl) sD tD
  clear b0 b1 b2 b3 bf bl
  replace hD := hD.ext hxx
  replace hS := hS.ext hxx
  replace hX := hX.trans hxx
  clear hxx
  obtain ⟨AS, cS, BS, dS, bS, sS, tS⟩ := hS
  obtain ⟨b0, b1, b2, b3, bf, bl⟩ := bS
  go_wp2_with fail
  refine (HH.out.2.2.2.2.1 AS cS BS dS W103 sS tS).mono ?_
  rintro e W104 ⟨rfl, hxx⟩
  have hS := DV.mk (Box4.mk b0 b1 b2 b3 bf bl) sS tS
  clear b0 b1 b2 b3 bf bl
  replace hD := hD.ext hxx
  replace hS := hS.ext hxx
  replace hX := hX.trans hxx
  clear hxx
  obtain ⟨AD, cD, BD, dD, bD, sD, tD⟩ := hD
  obtain ⟨b0, b1, b2, b3, bf, bl⟩ := bD
  obtain ⟨AS, cS, BS, dS, bS, sS, tS⟩ := hS
  obtain ⟨o0, o1, o2, o3, of, ol⟩ := bS
  go_upto_region 13 with fail
  have hD := DV.mk (Box4.mk b0 b1 b2 b3 bf bl) sD tD
  clear b0 b1 b2 b3 bf bl
  have hS := DV.mk (Box4.mk o0 o1 o2 o3 of ol) sS tS
  clear o0 o1 o2 o3 of ol
  obtain ⟨AS, cS, BS, dS, bS, sS, tS⟩ := hS
  obtain ⟨b0, b1, b2, b3, bf, bl⟩ := bS
  go_wp2_with fail
  refine (HH.out.2.2.1 AS cS BS dS W104 sS tS).mono ?_
  rintro e W105 ⟨AF, cF, BF, dF, rfl, sF, tF, hxx⟩
  have hS := DV.mk (Box4.mk b0 b1 b2 b3 bf bl) sS tS
  clear b0 b1 b2 b3 bf bl
  go_upto_region 14 with fail
  have hF := DV.new W105 m2 q2 l2 n2 AF cF BF dF 25 sF tF
  have neDF : gD ≠ W105.heap.size := Nat.ne_of_lt (Nat.lt_of_lt_of_le hD.lt hxx.size)
  have neSF : gS ≠ W105.heap.size := Nat.ne_of_lt (Nat.lt_of_lt_of_le hS.lt hxx.size)
  have loF := Nat.le_trans hX.size hxx.size
  replace hxx := Ext.trans hxx ((Ext.refl W105).alloc (Obj.cells #[.slice AF m2.length cF, .slice BF q2.length dF, .int .i64 l2, .bool n2] 25))
  obtain ⟨W106, hW⟩ : ∃ W, W = W105.alloc (Obj.cells #[.slice AF m2.length cF, .slice BF q2.length dF, .int .i64 l2, .bool n2] 25) := ⟨_, rfl⟩
  obtain ⟨gF, hg⟩ : ∃ g, W105.heap.size = g := ⟨_, rfl⟩
  rw [← hW] at hF hxx ⊢
  rw [hg] at hF loF neDF neSF ⊢
  clear hW hg sF tF
  replace hD := hD.ext hxx
  replace hS := hS.ext hxx
  replace hX := hX.trans hxx
  clear hxx
  obtain ⟨AF, cF, BF, dF, bF, sF, tF⟩ := hF
  obtain ⟨b0, b1, b2, b3, bf, bl⟩ := bF
  go_wp2_with fail
  refine (HH.out.2.2.2.1 AF cF BF dF W106 sF tF).mono ?_
  rintro e W107 ⟨AE, cE, BE, dE, rfl, sE, tE, hxx⟩
  have hF := DV.mk (Box4.mk b0 b1 b2 b3 bf bl) sF tF
  clear b0 b1 b2 b3 bf bl
  go_upto_region 15 with fail
  have hE := DV.new W107 m3 q3 l3 n3 AE cE BE dE 25 sE tE
  have neDE : gD ≠ W107.heap.size := Nat.ne_of_lt (Nat.lt_of_lt_of_le hD.lt hxx.size)
  have neSE : gS ≠ W107.heap.size := Nat.ne_of_lt (Nat.lt_of_lt_of_le hS.lt hxx.size)
  have neFE : gF ≠ W107.heap.size := Nat.ne_of_lt (Nat.lt_of_lt_of_le hF.lt hxx.size)
  have loE := Nat.le_trans hX.size hxx.size
  replace hxx := Ext.trans hxx ((Ext.refl W107).alloc (Obj.cells #[.slice AE m3.length cE, .slice BE q3.length dE, .int .i64 l3, .bool n3] 25))
  obtain ⟨W108, hW⟩ : ∃ W, W = W107.alloc (Obj.cells #[.slice AE m3.length cE, .slice BE q3.length dE, .int .i64 l3, .bool n3] 25) := ⟨_, rfl⟩
  obtain ⟨gE, hg⟩ : ∃ g, W107.heap.size = g := ⟨_, rfl⟩
  rw [← hW] at hE hxx ⊢
  rw [hg] at hE loE neDE neSE neFE ⊢
  clear hW hg sE tE
  replace hD := hD.ext hxx
  replace hS := hS.ext hxx
  replace hF := hF.ext hxx
  replace hX := hX.trans hxx
  clear hxx
  obtain ⟨AS, cS, BS, dS, bS, sS, tS⟩ := hS
  obtain ⟨b0, b1, b2, b3, bf, bl⟩ := bS
  go_wp2_with fail
  refine (HH.out.2.2.2.2.2.1 AS cS BS dS W108 sS tS).mono ?_
  rintro e W109 ⟨AV, cV, rfl, -, hV1, hxx⟩
  have hS := DV.mk (Box4.mk b0 b1 b2 b3 bf bl) sS tS
  clear b0 b1 b2 b3 bf bl
  replace hD := hD.ext hxx
  replace hS := hS.ext hxx
  replace hF := hF.ext hxx
  replace hE := hE.ext hxx
  replace hX := hX.trans hxx
  clear hxx
  obtain ⟨AE, cE, BE, dE, bE, sE, tE⟩ := hE
  obtain ⟨b0, b1, b2, b3, bf, bl⟩ := bE
  go_wp2_with fail
  refine (HH.out.2.2.2.2.2.2 AE cE BE dE W109 sE tE).mono ?_
  rintro e W110 ⟨AU, cU, rfl, -, hV2, hxx⟩
  have hE := DV.mk (Box4.mk b0 b1 b2 b3 bf bl) sE tE
  clear b0 b1 b2 b3 bf bl
  replace hD := hD.ext hxx
  replace hS := hS.ext hxx
  replace hF := hF.ext hxx
  replace hE := hE.ext hxx
  replace hV1 := hV1.ext hxx
  replace hX := hX.trans hxx
  clear hxx
  go_wp2_with fail
  refine (same2_yes V V rfl AV AU cV cU _ hV1 hV2).mono ?_
  rintro e w8 ⟨rfl, hdn⟩
  go_wp2_with fail
  refine (alive03_any _).mono ?_
  rintro e w9 ⟨rfl, hx9⟩
  go_wp2_with fail
  go_ret
  exact ⟨rfl, hX.trans (hdn.ext.trans hx9)⟩
set_option maxRecDepth 100000 in
set_option maxHeartbeats 6400000 in
theorem cacheLast_1 (m : List Int) (q : List Dw) (left : Int) (a o v : Int) (A : Option Addr) (c : Nat) (B : Option Addr) (d : Nat) (w : World) (hA : Sl w A m.length c (fU m)) (hB : Sl w B q.length d (fD q)) (hg' : (decide (2100 < m.length) || decide (2100 < q.length)) = false) (hd : devB m q left false = true) (a0 : 0 ≤ a) (a1 : a < m.length) (o0 : 0 ≤ o) (o1 : o < m.length) (hv : InU v) (hl : left ≠ 0) (hao : o = a) :
    Calls Try.prog 13 #[.agg #[.slice A m.length c, .slice B q.length d, .int .i64 left, .bool false], .int .i64 a, .int .i64 o, .int .u64 v] w fun e w' => e = .returned (.bool true) ∧ Ext w w' := by
  have h0 := devE_yes hd
  have H0 := Box4.new w (.slice A m.length c) (.slice B q.length d) (.int .i64 left) (.bool false) 25
  have u1 : ldV (stepD (m, q, left, false) (.st a v)).1 (stepD (m, q, left, false) (.st a v)).2.1 o = v := by
    rw [ldV_step hd a0 a1 o0 hl, if_pos hao]
  have u2 : (stepD (m, q, left, false) (.st a v)).2.2.2 = false := by
    simp [stepD, hl]
  have u3 := devB_step (o := .st a v) hd ⟨a0, a1, hv⟩
  obtain ⟨⟨m1, q1, l1, n1⟩, s1⟩ : ∃ D, stepD (m, q, left, false) (.st a v) = D := ⟨_, rfl⟩
  rw [s1] at u1 u2 u3
  simp only at u1 u2 u3
  subst u2
  have u4 := devB_step (o := .fl o) u3.1 ⟨o0, by rw [u3.2]; exact o1⟩
  have u5 := wrd_step (o := .fl o) u3.1 ⟨o0, by rw [u3.2]; exact o1⟩ (by intro _ _ h; cases h)
  have h3 := fun A c B d W (ha : Sl W A m1.length c (fU m1)) (hb : Sl W B q1.length d (fD q1)) => dFlush_ok (a := o) u3.1 o0 (by rw [u3.2]; exact o1) A c B d W ha hb
  obtain ⟨⟨m2, q2, l2, n2⟩, s2⟩ : ∃ D, stepD (m1, q1, l1, false) (.fl o) = D := ⟨_, rfl⟩
  rw [s2] at u4 u5 h3
  simp only at u4 u5
  have u6 := devB_step (o := .fe) u4.1 trivial
  have u7 := wrd_step (o := .fe) u4.1 trivial (by intro _ _ h; cases h)
  have h4 := fun A c B d W (ha : Sl W A m2.length c (fU m2)) (hb : Sl W B q2.length d (fD q2)) => dFence_ok u4.1 A c B d W ha hb
  obtain ⟨⟨m3, q3, l3, n3⟩, s3⟩ : ∃ D, stepD (m2, q2, l2, n2) .fe = D := ⟨_, rfl⟩
  rw [s3] at u6 u7 h4
  simp only at u6 u7
  have h1 := fun A c B d W (ha : Sl W A m.length c (fU m)) (hb : Sl W B q.length d (fD q)) => dStore_ok (a := a) v hd a0 a1 A c B d W ha hb
  rw [s1] at h1
  have h2 := fun A c B d W (ha : Sl W A m.length c (fU m)) (hb : Sl W B q.length d (fD q)) => dLoad_ok (a := o) hd o0 o1 A c B d W ha hb
  have h5 := fun A c B d W (ha : Sl W A m1.length c (fU m1)) (hb : Sl W B q1.length d (fD q1)) => dLoad_ok (a := o) u3.1 o0 (by rw [u3.2]; exact o1) A c B d W ha hb
  rw [u1] at h5
  have h6 := fun A c B d W (ha : Sl W A m1.length c (fU m1)) (hb : Sl W B q1.length d (fD q1)) => dView_ok u3.1 A c B d W ha hb
  have h7 := fun A c B d W (ha : Sl W A m3.length c (fU m3)) (hb : Sl W B q3.length d (fD q3)) => dView_ok u6.1 A c B d W ha hb
  rw [u7, u5] at h7
  obtain ⟨x0, hx0⟩ : ∃ x, ldV m q o = x := ⟨_, rfl⟩
  obtain ⟨V, hV⟩ : ∃ x, wrd m1 q1 = x := ⟨_, rfl⟩
  rw [hx0] at h2 
  rw [hV] at h6 h7
  have HH := Lib.hid (And.intro h1 (And.intro h2 (And.intro h3 (And.intro h4 (And.intro h5 (And.intro h6 h7))))))
  have hlb : (left != 0) = true := by simpa using hl
  have hob : (o == a) = true := by simpa using hao
  clear h1 h2 h3 h4 h5 h6 h7 u1 u3 u4 u5 u6 u7 s1 s2 s3 hx0 hV hl hao
  have hD := DV.new w m q left false A c B d 25 hA hB
  go_enter Try.func13, Try.ntmps13
  go_wp2_with fail
  refine (dGreat_any _ _ _ _ _ _ _ _ _).mono ?_
  rintro e w1 ⟨rfl, hx1⟩
  rw [hg']
  obtain ⟨b0, b1, b2, b3, bf, bl⟩ := H0.ext (w' := w1) (by repeat (first | assumption | exact Ext.refl _ | refine Ext.drewN ?_ _ | refine Ext.drew ?_ | refine Ext.alloc ?_ _ | refine Ext.trans ?_ (by assumption)))
  go_wp2_with fail
  refine (dRefCk_any m q left false A c B d _ (hB.ext (by repeat (first | assumption | exact Ext.refl _ | refine Ext.drewN ?_ _ | refine Ext.drew ?_ | refine Ext.alloc ?_ _ | refine Ext.trans ?_ (by assumption))))).mono ?_
  rintro e w2 ⟨rfl, hx2⟩
  rw [h0]
  replace hD := hD.ext (hx1.trans hx2)
  have hX : Ext w w2 := Ext.trans ((Ext.refl w).alloc _) (hx1.trans hx2)
  clear b0 b1 b2 b3 bf bl hx1 hx2 H0
  obtain ⟨gD, hgD⟩ : ∃ g, w.heap.size = g := ⟨_, rfl⟩
  have loD : w.heap.size ≤ gD := Nat.le_of_eq hgD
  have HgD := Lib.hid hgD
  rw [hgD] at hD ⊢
  clear hgD
  obtain ⟨AD, cD, BD, dD, bD, sD, tD⟩ := hD
  obtain ⟨b0, b1, b2, b3, bf, bl⟩ := bD
  go_wp2_with fail
  refine (HH.out.1 AD cD BD dD w2 sD tD).mono ?_
  rintro e W101 ⟨AS, cS, BS, dS, rfl, sS, tS, hxx⟩
  have hD := DV.mk (Box4.mk b0 b1 b2 b3 bf bl) sD tD
  clear b0 b1 b2 b3 bf bl
  go_upto_region 4 with fail
  have hS := DV.new W101 m1 q1 l1 false AS cS BS dS 25 sS tS
  have neDS : gD ≠ W101.heap.size := Nat.ne_of_lt (Nat.lt_of_lt_of_le hD.lt hxx.size)
  have loS := Nat.le_trans hX.size hxx.size
  replace hxx := Ext.trans hxx ((Ext.refl W101).alloc (Obj.cells #[.slice AS m1.length cS, .slice BS q1.length dS, .int .i64 l1, .bool false] 25))
  obtain ⟨W102, hW⟩ : ∃ W, W = W101.alloc (Obj.cells #[.slice AS m1.length cS, .slice BS q1.length dS, .int .i64 l1, .bool false] 25) := ⟨_, rfl⟩
  obtain ⟨gS, hg⟩ : ∃ g, W101.heap.size = g := ⟨_, rfl⟩
  rw [← hW] at hS hxx ⊢
  rw [hg] at hS loS neDS ⊢
  clear hW hg sS tS
  replace hD := hD.ext hxx
  replace hX := hX.trans hxx
  clear hxx
  obtain ⟨AD, cD, BD, dD, bD, sD, tD⟩ := hD
  obtain ⟨b0, b1, b2, b3, bf, bl⟩ := bD
  go_wp2_with fail
  refine (HH.out.2.1 AD cD BD dD W102 sD tD).mono ?_
  rintro e W103 ⟨rfl, hxx⟩
  have hD := DV.mk (Box4.mk b0 b1 b2 b3 bf bl) sD tD
  clear b0 b1 b2 b3 bf bl
  replace hD := hD.ext hxx
  replace hS := hS.ext hxx
  replace hX := hX.trans hxx
  clear hxx
  obtain ⟨AS, cS, BS, dS, bS, sS, tS⟩ := hS
  obtain ⟨b0, b1, b2, b3, bf, bl⟩ := bS
  go_wp2_with fail
  refine (HH.out.2.2.2.2.1 AS cS BS dS W103 sS tS).mono ?_
  rintro e W104 ⟨rfl, hxx⟩
  have hS := DV.mk (Box4.mk b0 b1 b2 b3 bf bl) sS tS
  clear b0 b1 b2 b3 bf bl
  replace hD := hD.ext hxx
  replace hS := hS.ext hxx
  replace hX := hX.trans hxx
  clear hxx
  obtain ⟨AD, cD, BD, dD, bD, sD, tD⟩ := hD
  obtain ⟨b0, b1, b2, b3, bf, bl⟩ := bD
  obtain ⟨AS, cS, BS, dS, bS, sS, tS⟩ := hS
  obtain ⟨o0, o1, o2, o3, of, ol⟩ := bS
  go_upto_region 13 with fail
  have hD := DV.mk (Box4.mk b0 b1 b2 b3 bf bl) sD tD
  clear b0 b1 b2 b3 bf bl
  have hS := DV.mk (Box4.mk o0 o1 o2 o3 of ol) sS tS
  clear o0 o1 o2 o3 of ol
  obtain ⟨AS, cS, BS, dS, bS, sS, tS⟩ := hS
  obtain ⟨b0, b1, b2, b3, bf, bl⟩ := bS
  go_wp2_with fail
  refine (HH.out.2.2.1 AS cS BS dS W104 sS tS).mono ?_
  rintro e W105 ⟨AF, cF, BF, dF, rfl, sF, tF, hxx⟩
  have hS := DV.mk (Box4.mk b0 b1 b2 b3 bf bl) sS tS
  clear b0 b1 b2 b3 bf bl
  go_upto_region 14 with fail
  have hF := DV.new W105 m2 q2 l2 n2 AF cF BF dF 25 sF tF
  have neDF : gD ≠ W105.heap.size := Nat.ne_of_lt (Nat.lt_of_lt_of_le hD.lt hxx.size)
  have neSF : gS ≠ W105.heap.size := Nat.ne_of_lt (Nat.lt_of_lt_of_le hS.lt hxx.size)
  have loF := Nat.le_trans hX.size hxx.size
  replace hxx := Ext.trans hxx ((Ext.refl W105).alloc (Obj.cells #[.slice AF m2.length cF, .slice BF q2.length dF, .int .i64 l2, .bool n2] 25))
  obtain ⟨W106, hW⟩ : ∃ W, W = W105.alloc (Obj.cells #[.slice AF m2.length cF, .slice BF q2.length dF, .int .i64 l2, .bool n2] 25) := ⟨_, rfl⟩
  obtain ⟨gF, hg⟩ : ∃ g, W105.heap.size = g := ⟨_, rfl⟩
  rw [← hW] at hF hxx ⊢
  rw [hg] at hF loF neDF neSF ⊢
  clear hW hg sF tF
  replace hD := hD.ext hxx
  replace hS := hS.ext hxx
  replace hX := hX.trans hxx
  clear hxx
  obtain ⟨AF, cF, BF, dF, bF, sF, tF⟩ := hF
  obtain ⟨b0, b1, b2, b3, bf, bl⟩ := bF
  go_wp2_with fail
  refine (HH.out.2.2.2.1 AF cF BF dF W106 sF tF).mono ?_
  rintro e W107 ⟨AE, cE, BE, dE, rfl, sE, tE, hxx⟩
  have hF := DV.mk (Box4.mk b0 b1 b2 b3 bf bl) sF tF
  clear b0 b1 b2 b3 bf bl
  go_upto_region 15 with fail
  have hE := DV.new W107 m3 q3 l3 n3 AE cE BE dE 25 sE tE
  have neDE : gD ≠ W107.heap.size := Nat.ne_of_lt (Nat.lt_of_lt_of_le hD.lt hxx.size)
  have neSE : gS ≠ W107.heap.size := Nat.ne_of_lt (Nat.lt_of_lt_of_le hS.lt hxx.size)
  have neFE : gF ≠ W107.heap.size := Nat.ne_of_lt (Nat.lt_of_lt_of_le hF.lt hxx.size)
  have loE := Nat.le_trans hX.size hxx.size
  replace hxx := Ext.trans hxx ((Ext.refl W107).alloc (Obj.cells #[.slice AE m3.length cE, .slice BE q3.length dE, .int .i64 l3, .bool n3] 25))
  obtain ⟨W108, hW⟩ : ∃ W, W = W107.alloc (Obj.cells #[.slice AE m3.length cE, .slice BE q3.length dE, .int .i64 l3, .bool n3] 25) := ⟨_, rfl⟩
  obtain ⟨gE, hg⟩ : ∃ g, W107.heap.size = g := ⟨_, rfl⟩
  rw [← hW] at hE hxx ⊢
  rw [hg] at hE loE neDE neSE neFE ⊢
  clear hW hg sE tE
  replace hD := hD.ext hxx
  replace hS := hS.ext hxx
  replace hF := hF.ext hxx
  replace hX := hX.trans hxx
  clear hxx
  obtain ⟨AS, cS, BS, dS, bS, sS, tS⟩ := hS
  obtain ⟨b0, b1, b2, b3, bf, bl⟩ := bS
  go_wp2_with fail
  refine (HH.out.2.2.2.2.2.1 AS cS BS dS W108 sS tS).mono ?_
  rintro e W109 ⟨AV, cV, rfl, -, hV1, hxx⟩
  have hS := DV.mk (Box4.mk b0 b1 b2 b3 bf bl) sS tS
  clear b0 b1 b2 b3 bf bl
  replace hD := hD.ext hxx
  replace hS := hS.ext hxx
  replace hF := hF.ext hxx
  replace hE := hE.ext hxx
  replace hX := hX.trans hxx
  clear hxx
  obtain ⟨AE, cE, BE, dE, bE, sE, tE⟩ := hE
  obtain ⟨b0, b1, b2, b3, bf, bl⟩ := bE
  go_wp2_with fail
  refine (HH.out.2.2.2.2.2.2 AE cE BE dE W109 sE tE).mono ?_
  rintro e W110 ⟨AU, cU, rfl, -, hV2, hxx⟩
  have hE := DV.mk (Box4.mk b0 b1 b2 b3 bf bl) sE tE
  clear b0 b1 b2 b3 bf bl
  replace hD := hD.ext hxx
  replace hS := hS.ext hxx
  replace hF := hF.ext hxx
  replace hE := hE.ext hxx
  replace hV1 := hV1.ext hxx
  replace hX := hX.trans hxx
  clear hxx
  go_wp2_with fail
  refine (same2_yes V V rfl AV AU cV cU _ hV1 hV2).mono ?_
  rintro e w8 ⟨rfl, hdn⟩
  go_wp2_with fail
  refine (alive03_any _).mono ?_
  rintro e w9 ⟨rfl, hx9⟩
  go_wp2_with fail
  go_ret
  exact ⟨rfl, hX.trans (hdn.ext.trans hx9)⟩
set_option maxRecDepth 100000 in
set_option maxHeartbeats 6400000 in
theorem cacheLast_2 (m : List Int) (q : List Dw) (left : Int) (a o v : Int) (A : Option Addr) (c : Nat) (B : Option Addr) (d : Nat) (w : World) (hA : Sl w A m.length c (fU m)) (hB : Sl w B q.length d (fD q)) (hg' : (decide (2100 < m.length) || decide (2100 < q.length)) = false) (hd : devB m q left false = true) (a0 : 0 ≤ a) (a1 : a < m.length) (o0 : 0 ≤ o) (o1 : o < m.length) (hv : InU v) (hl : left ≠ 0) (hao : o ≠ a) :
    Calls Try.prog 13 #[.agg #[.slice A m.length c, .slice B q.length d, .int .i64 left, .bool false], .int .i64 a, .int .i64 o, .int .u64 v] w fun e w' => e = .returned (.bool true) ∧ Ext w w' := by
  have h0 := devE_yes hd
  have H0 := Box4.new w (.slice A m.length c) (.slice B q.length d) (.int .i64 left) (.bool false) 25
  have u1 : ldV (stepD (m, q, left, false) (.st a v)).1 (stepD (m, q, left, false) (.st a v)).2.1 o = ldV m q o := by
    rw [ldV_step hd a0 a1 o0 hl, if_neg hao]
  have u2 : (stepD (m, q, left, false) (.st a v)).2.2.2 = false := by
    simp [stepD, hl]
  have u3 := devB_step (o := .st a v) hd ⟨a0, a1, hv⟩
  obtain ⟨⟨m1, q1, l1, n1⟩, s1⟩ : ∃ D, stepD (m, q, left, false) (.st a v) = D := ⟨_, rfl⟩
  rw [s1] at u1 u2 u3
  simp only at u1 u2 u3
  subst u2
  have u4 := devB_step (o := .fl o) u3.1 ⟨o0, by rw [u3.2]; exact o1⟩
  have u5 := wrd_step (o := .fl o) u3.1 ⟨o0, by rw [u3.2]; exact o1⟩ (by intro _ _ h; cases h)
  have h3 := fun A c B d W (ha : Sl W A m1.length c (fU m1)) (hb : Sl W B q1.length d (fD q1)) => dFlush_ok (a := o) u3.1 o0 (by rw [u3.2]; exact o1) A c B d W ha hb
  obtain ⟨⟨m2, q2, l2, n2⟩, s2⟩ : ∃ D, stepD (m1, q1, l1, false) (.fl o) = D := ⟨_, rfl⟩
  rw [s2] at u4 u5 h3
  simp only at u4 u5
  have u6 := devB_step (o := .fe) u4.1 trivial
  have u7 := wrd_step (o := .fe) u4.1 trivial (by intro _ _ h; cases h)
  have h4 := fun A c B d W (ha : Sl W A m2.length c (fU m2)) (hb : Sl W B q2.length d (fD q2)) => dFence_ok u4.1 A c B d W ha hb
  obtain ⟨⟨m3, q3, l3, n3⟩, s3⟩ : ∃ D, stepD (m2, q2, l2, n2) .fe = D := ⟨_, rfl⟩
  rw [s3] at u6 u7 h4
  simp only at u6 u7
  have h1 := fun A c B d W (ha : Sl W A m.length c (fU m)) (hb : Sl W B q.length d (fD q)) => dStore_ok (a := a) v hd a0 a1 A c B d W ha hb
  rw [s1] at h1
  have h2 := fun A c B d W (ha : Sl W A m.length c (fU m)) (hb : Sl W B q.length d (fD q)) => dLoad_ok (a := o) hd o0 o1 A c B d W ha hb
  have h5 := fun A c B d W (ha : Sl W A m1.length c (fU m1)) (hb : Sl W B q1.length d (fD q1)) => dLoad_ok (a := o) u3.1 o0 (by rw [u3.2]; exact o1) A c B d W ha hb
  rw [u1] at h5
  have h6 := fun A c B d W (ha : Sl W A m1.length c (fU m1)) (hb : Sl W B q1.length d (fD q1)) => dView_ok u3.1 A c B d W ha hb
  have h7 := fun A c B d W (ha : Sl W A m3.length c (fU m3)) (hb : Sl W B q3.length d (fD q3)) => dView_ok u6.1 A c B d W ha hb
  rw [u7, u5] at h7
  obtain ⟨x0, hx0⟩ : ∃ x, ldV m q o = x := ⟨_, rfl⟩
  obtain ⟨V, hV⟩ : ∃ x, wrd m1 q1 = x := ⟨_, rfl⟩
  rw [hx0] at h2 h5
  rw [hV] at h6 h7
  have HH := Lib.hid (And.intro h1 (And.intro h2 (And.intro h3 (And.intro h4 (And.intro h5 (And.intro h6 h7))))))
  have hlb : (left != 0) = true := by simpa using hl
  have hob : (o == a) = false := by simpa using hao
  clear h1 h2 h3 h4 h5 h6 h7 u1 u3 u4 u5 u6 u7 s1 s2 s3 hx0 hV hl hao
  have hD := DV.new w m q left false A c B d 25 hA hB
  go_enter Try.func13, Try.ntmps13
  go_wp2_with fail
  refine (dGreat_any _ _ _ _ _ _ _ _ _).mono ?_
  rintro e w1 ⟨rfl, hx1⟩
  rw [hg']
  obtain ⟨b0, b1, b2, b3, bf, bl⟩ := H0.ext (w' := w1) (by repeat (first | assumption | exact Ext.refl _ | refine Ext.drewN ?_ _ | refine Ext.drew ?_ | refine Ext.alloc ?_ _ | refine Ext.trans ?_ (by assumption)))
  go_wp2_with fail
  refine (dRefCk_any m q left false A c B d _ (hB.ext (by repeat (first | assumption | exact Ext.refl _ | refine Ext.drewN ?_ _ | refine Ext.drew ?_ | refine Ext.alloc ?_ _ | refine Ext.trans ?_ (by assumption))))).mono ?_
  rintro e w2 ⟨rfl, hx2⟩
  rw [h0]
  replace hD := hD.ext (hx1.trans hx2)
  have hX : Ext w w2 := Ext.trans ((Ext.refl w).alloc _) (hx1.trans hx2)
  clear b0 b1 b2 b3 bf bl hx1 hx2 H0
  obtain ⟨gD, hgD⟩ : ∃ g, w.heap.size = g := ⟨_, rfl⟩
  have loD : w.heap.size ≤ gD := Nat.le_of_eq hgD
  have HgD := Lib.hid hgD
  rw [hgD] at hD ⊢
  clear hgD
  obtain ⟨AD, cD, BD, dD, bD, sD, tD⟩ := hD
  obtain ⟨b0, b1, b2, b3, bf, bl⟩ := bD
  go_wp2_with fail
  refine (HH.out.1 AD cD BD dD w2 sD tD).mono ?_
  rintro e W101 ⟨AS, cS, BS, dS, rfl, sS, tS, hxx⟩
  have hD := DV.mk (Box4.mk b0 b1 b2 b3 bf bl) sD tD
  clear b0 b1 b2 b3 bf bl
  go_upto_region 4 with fail
  have hS := DV.new W101 m1 q1 l1 false AS cS BS dS 25 sS tS
  have neDS : gD ≠ W101.heap.size := Nat.ne_of_lt (Nat.lt_of_lt_of_le hD.lt hxx.size)
  have loS := Nat.le_trans hX.size hxx.size
  replace hxx := Ext.trans hxx ((Ext.refl W101).alloc (Obj.cells #[.slice AS m1.length cS, .slice BS q1.length dS, .int .i64 l1, .bool false] 25))
  obtain ⟨W102, hW⟩ : ∃ W, W = W101.alloc (Obj.cells #[.slice AS m1.length cS, .slice BS q1.length dS, .int .i64 l1, .bool false] 25) := ⟨_, rfl⟩
  obtain ⟨gS, hg⟩ : ∃ g, W101.heap.size = g := ⟨_, rfl⟩
  rw [← hW] at hS hxx ⊢
  rw [hg] at hS loS neDS ⊢
  clear hW hg sS tS
  replace hD := hD.ext hxx
  replace hX := hX.trans hxx
  clear hxx
  obtain ⟨AD, cD, BD, dD, bD, sD, tD⟩ := hD
  obtain ⟨b0, b1, b2, b3, bf, bl⟩ := bD
  go_wp2_with fail
  refine (HH.out.2.1 AD cD BD dD W102 sD tD).mono ?_
  rintro e W103 ⟨rfl, hxx⟩
  have hD := DV.mk (Box4.mk b0 b1 b2 b3 bf bl) sD tD
  clear b0 b1 b2 b3 bf bl
  replace hD := hD.ext hxx
  replace hS := hS.ext hxx
  replace hX := hX.trans hxx
  clear hxx
  obtain ⟨AS, cS, BS, dS, bS, sS, tS⟩ := hS
  obtain ⟨b0, b1, b2, b3, bf, bl⟩ := bS
  go_wp2_with fail
  refine (HH.out.2.2.2.2.1 AS cS BS dS W103 sS tS).mono ?_
  rintro e W104 ⟨rfl, hxx⟩
  have hS := DV.mk (Box4.mk b0 b1 b2 b3 bf bl) sS tS
  clear b0 b1 b2 b3 bf bl
  replace hD := hD.ext hxx
  replace hS := hS.ext hxx
  replace hX := hX.trans hxx
  clear hxx
  obtain ⟨AD, cD, BD, dD, bD, sD, tD⟩ := hD
  obtain ⟨b0, b1, b2, b3, bf, bl⟩ := bD
  obtain ⟨AS, cS, BS, dS, bS, sS, tS⟩ := hS
  obtain ⟨o0, o1, o2, o3, of, ol⟩ := bS
  go_upto_region 13 with fail
  have hD := DV.mk (Box4.mk b0 b1 b2 b3 bf bl) sD tD
  clear b0 b1 b2 b3 bf bl
  have hS := DV.mk (Box4.mk o0 o1 o2 o3 of ol) sS tS
  clear o0 o1 o2 o3 of ol
  obtain ⟨AS, cS, BS, dS, bS, sS, tS⟩ := hS
  obtain ⟨b0, b1, b2, b3, bf, bl⟩ := bS
  go_wp2_with fail
  refine (HH.out.2.2.1 AS cS BS dS W104 sS tS).mono ?_
  rintro e W105 ⟨AF, cF, BF, dF, rfl, sF, tF, hxx⟩
  have hS := DV.mk (Box4.mk b0 b1 b2 b3 bf bl) sS tS
  clear b0 b1 b2 b3 bf bl
  go_upto_region 14 with fail
  have hF := DV.new W105 m2 q2 l2 n2 AF cF BF dF 25 sF tF
  have neDF : gD ≠ W105.heap.size := Nat.ne_of_lt (Nat.lt_of_lt_of_le hD.lt hxx.size)
  have neSF : gS ≠ W105.heap.size := Nat.ne_of_lt (Nat.lt_of_lt_of_le hS.lt hxx.size)
  have loF := Nat.le_trans hX.size hxx.size
  replace hxx := Ext.trans hxx ((Ext.refl W105).alloc (Obj.cells #[.slice AF m2.length cF, .slice BF q2.length dF, .int .i64 l2, .bool n2] 25))
  obtain ⟨W106, hW⟩ : ∃ W, W = W105.alloc (Obj.cells #[.slice AF m2.length cF, .slice BF q2.length dF, .int .i64 l2, .bool n2] 25) := ⟨_, rfl⟩
  obtain ⟨gF, hg⟩ : ∃ g, W105.heap.size = g := ⟨_, rfl⟩
  rw [← hW] at hF hxx ⊢
  rw [hg] at hF loF neDF neSF ⊢
  clear hW hg sF tF
  replace hD := hD.ext hxx
  replace hS := hS.ext hxx
  replace hX := hX.trans hxx
  clear hxx
  obtain ⟨AF, cF, BF, dF, bF, sF, tF⟩ := hF
  obtain ⟨b0, b1, b2, b3, bf, bl⟩ := bF
  go_wp2_with fail
  refine (HH.out.2.2.2.1 AF cF BF dF W106 sF tF).mono ?_
  rintro e W107 ⟨AE, cE, BE, dE, rfl, sE, tE, hxx⟩
  have hF := DV.mk (Box4.mk b0 b1 b2 b3 bf bl) sF tF
  clear b0 b1 b2 b3 bf bl
  go_upto_region 15 with fail
  have hE := DV.new W107 m3 q3 l3 n3 AE cE BE dE 25 sE tE
  have neDE : gD ≠ W107.heap.size := Nat.ne_of_lt (Nat.lt_of_lt_of_le hD.lt hxx.size)
  have neSE : gS ≠ W107.heap.size := Nat.ne_of_lt (Nat.lt_of_lt_of_le hS.lt hxx.size)
  have neFE : gF ≠ W107.heap.size := Nat.ne_of_lt (Nat.lt_of_lt_of_le hF.lt hxx.size)
  have loE := Nat.le_trans hX.size hxx.size
  replace hxx := Ext.trans hxx ((Ext.refl W107).alloc (Obj.cells #[.slice AE m3.length cE, .slice BE q3.length dE, .int .i64 l3, .bool n3] 25))
  obtain ⟨W108, hW⟩ : ∃ W, W = W107.alloc (Obj.cells #[.slice AE m3.length cE, .slice BE q3.length dE, .int .i64 l3, .bool n3] 25) := ⟨_, rfl⟩
  obtain ⟨gE, hg⟩ : ∃ g, W107.heap.size = g := ⟨_, rfl⟩
  rw [← hW] at hE hxx ⊢
  rw [hg] at hE loE neDE neSE neFE ⊢
  clear hW hg sE tE
  replace hD := hD.ext hxx
  replace hS := hS.ext hxx
  replace hF := hF.ext hxx
  replace hX := hX.trans hxx
  clear hxx
  obtain ⟨AS, cS, BS, dS, bS, sS, tS⟩ := hS
  obtain ⟨b0, b1, b2, b3, bf, bl⟩ := bS
  go_wp2_with fail
  refine (HH.out.2.2.2.2.2.1 AS cS BS dS W108 sS tS).mono ?_
  rintro e W109 ⟨AV, cV, rfl, -, hV1, hxx⟩
  have hS := DV.mk (Box4.mk b0 b1 b2 b3 bf bl) sS tS
  clear b0 b1 b2 b3 bf bl
  replace hD := hD.ext hxx
  replace hS := hS.ext hxx
  replace hF := hF.ext hxx
  replace hE := hE.ext hxx
  replace hX := hX.trans hxx
  clear hxx
  obtain ⟨AE, cE, BE, dE, bE, sE, tE⟩ := hE
  obtain ⟨b0, b1, b2, b3, bf, bl⟩ := bE
  go_wp2_with fail
  refine (HH.out.2.2.2.2.2.2 AE cE BE dE W109 sE tE).mono ?_
  rintro e W110 ⟨AU, cU, rfl, -, hV2, hxx⟩
  have hE := DV.mk (Box4.mk b0 b1 b2 b3 bf bl) sE tE
  clear b0 b1 b2 b3 bf bl
  replace hD := hD.ext hxx
  replace hS := hS.ext hxx
  replace hF := hF.ext hxx
  replace hE := hE.ext hxx
  replace hV1 := hV1.ext hxx
  replace hX := hX.trans hxx
  clear hxx
  go_wp2_with fail
  refine (same2_yes V V rfl AV AU cV cU _ hV1 hV2).mono ?_
  rintro e w8 ⟨rfl, hdn⟩
  go_wp2_with fail
  refine (alive03_any _).mono ?_
  rintro e w9 ⟨rfl, hx9⟩
  go_wp2_with fail
  go_ret
  exact ⟨rfl, hX.trans (hdn.ext.trans hx9)⟩
set_option maxRecDepth 100000 in
set_option maxHeartbeats 6400000 in
theorem cacheLast_3 (m : List Int) (q : List Dw) (left : Int) (a o v : Int) (A : Option Addr) (c : Nat) (B : Option Addr) (d : Nat) (w : World) (hA : Sl w A m.length c (fU m)) (hB : Sl w B q.length d (fD q)) (hg' : (decide (2100 < m.length) || decide (2100 < q.length)) = false) (hd : devB m q left true = true) (a0 : 0 ≤ a) (a1 : a < m.length) (o0 : 0 ≤ o) (o1 : o < m.length) (hv : InU v) (hl : left = 0) :
    Calls Try.prog 13 #[.agg #[.slice A m.length c, .slice B q.length d, .int .i64 left, .bool true], .int .i64 a, .int .i64 o, .int .u64 v] w fun e w' => e = .returned (.bool true) ∧ Ext w w' := by
  have h0 := devE_yes hd
  have H0 := Box4.new w (.slice A m.length c) (.slice B q.length d) (.int .i64 left) (.bool true) 25
  have u1 : ldV (stepD (m, q, left, true) (.st a v)).1 (stepD (m, q, left, true) (.st a v)).2.1 o = ldV m q o := by
    simp [stepD, hl]
  have u2 : (stepD (m, q, left, true) (.st a v)).2.2.2 = true := by
    simp [stepD, hl]
  have u3 := devB_step (o := .st a v) hd ⟨a0, a1, hv⟩
  obtain ⟨⟨m1, q1, l1, n1⟩, s1⟩ : ∃ D, stepD (m, q, left, true) (.st a v) = D := ⟨_, rfl⟩
  rw [s1] at u1 u2 u3
  simp only at u1 u2 u3
  subst u2
  have u4 := devB_step (o := .fl o) u3.1 ⟨o0, by rw [u3.2]; exact o1⟩
  have u5 := wrd_step (o := .fl o) u3.1 ⟨o0, by rw [u3.2]; exact o1⟩ (by intro _ _ h; cases h)
  have h3 := fun A c B d W (ha : Sl W A m1.length c (fU m1)) (hb : Sl W B q1.length d (fD q1)) => dFlush_ok (a := o) u3.1 o0 (by rw [u3.2]; exact o1) A c B d W ha hb
  obtain ⟨⟨m2, q2, l2, n2⟩, s2⟩ : ∃ D, stepD (m1, q1, l1, true) (.fl o) = D := ⟨_, rfl⟩
  rw [s2] at u4 u5 h3
  simp only at u4 u5
  have u6 := devB_step (o := .fe) u4.1 trivial
  have u7 := wrd_step (o := .fe) u4.1 trivial (by intro _ _ h; cases h)
  have h4 := fun A c B d W (ha : Sl W A m2.length c (fU m2)) (hb : Sl W B q2.length d (fD q2)) => dFence_ok u4.1 A c B d W ha hb
  obtain ⟨⟨m3, q3, l3, n3⟩, s3⟩ : ∃ D, stepD (m2, q2, l2, n2) .fe = D := ⟨_, rfl⟩
  rw [s3] at u6 u7 h4
  simp only at u6 u7
  have h1 := fun A c B d W (ha : Sl W A m.length c (fU m)) (hb : Sl W B q.length d (fD q)) => dStore_ok (a := a) v hd a0 a1 A c B d W ha hb
  rw [s1] at h1
  have h2 := fun A c B d W (ha : Sl W A m.length c (fU m)) (hb : Sl W B q.length d (fD q)) => dLoad_ok (a := o) hd o0 o1 A c B d W ha hb
  have h5 := fun A c B d W (ha : Sl W A m1.length c (fU m1)) (hb : Sl W B q1.length d (fD q1)) => dLoad_ok (a := o) u3.1 o0 (by rw [u3.2]; exact o1) A c B d W ha hb
  rw [u1] at h5
  have h6 := fun A c B d W (ha : Sl W A m1.length c (fU m1)) (hb : Sl W B q1.length d (fD q1)) => dView_ok u3.1 A c B d W ha hb
  have h7 := fun A c B d W (ha : Sl W A m3.length c (fU m3)) (hb : Sl W B q3.length d (fD q3)) => dView_ok u6.1 A c B d W ha hb
  rw [u7, u5] at h7
  obtain ⟨x0, hx0⟩ : ∃ x, ldV m q o = x := ⟨_, rfl⟩
  obtain ⟨V, hV⟩ : ∃ x, wrd m1 q1 = x := ⟨_, rfl⟩
  rw [hx0] at h2 h5
  rw [hV] at h6 h7
  have HH := Lib.hid (And.intro h1 (And.intro h2 (And.intro h3 (And.intro h4 (And.intro h5 (And.intro h6 h7))))))
  have hlb : (left != 0) = false := by simp [hl]
  skip
  clear h1 h2 h3 h4 h5 h6 h7 u1 u3 u4 u5 u6 u7 s1 s2 s3 hx0 hV hl 
  have hD := DV.new w m q left true A c B d 25 hA hB
  go_enter Try.func13, Try.ntmps13
  go_wp2_with fail
  refine (dGreat_any _ _ _ _ _ _ _ _ _).mono ?_
  rintro e w1 ⟨rfl, hx1⟩
  rw [hg']
  obtain ⟨b0, b1, b2, b3, bf, bl⟩ := H0.ext (w' := w1) (by repeat (first | assumption | exact Ext.refl _ | refine Ext.drewN ?_ _ | refine Ext.drew ?_ | refine Ext.alloc ?_ _ | refine Ext.trans ?_ (by assumption)))
  go_wp2_with fail
  refine (dRefCk_any m q left true A c B d _ (hB.ext (by repeat (first | assumption | exact Ext.refl _ | refine Ext.drewN ?_ _ | refine Ext.drew ?_ | refine Ext.alloc ?_ _ | refine Ext.trans ?_ (by assumption))))).mono ?_
  rintro e w2 ⟨rfl, hx2⟩
  rw [h0]
  replace hD := hD.ext (hx1.trans hx2)
  have hX : Ext w w2 := Ext.trans ((Ext.refl w).alloc _) (hx1.trans hx2)
  clear b0 b1 b2 b3 bf bl hx1 hx2 H0
  obtain ⟨gD, hgD⟩ : ∃ g, w.heap.size = g := ⟨_, rfl⟩
  have loD : w.heap.size ≤ gD := Nat.le_of_eq hgD
  have HgD := Lib.hid hgD
  rw [hgD] at hD ⊢
  clear hgD
  obtain ⟨AD, cD, BD, dD, bD, sD, tD⟩ := hD
  obtain ⟨b0, b1, b2, b3, bf, bl⟩ := bD
  go_wp2_with fail
  refine (HH.out.1 AD cD BD dD w2 sD tD).mono ?_
  rintro e W101 ⟨AS, cS, BS, dS, rfl, sS, tS, hxx⟩
  have hD := DV.mk (Box4.mk b0 b1 b2 b3 bf bl) sD tD
  clear b0 b1 b2 b3 bf bl
  go_upto_region 4 with fail
  have hS := DV.new W101 m1 q1 l1 true AS cS BS dS 25 sS tS
  have neDS : gD ≠ W101.heap.size := Nat.ne_of_lt (Nat.lt_of_lt_of_le hD.lt hxx.size)
  have loS := Nat.le_trans hX.size hxx.size
  replace hxx := Ext.trans hxx ((Ext.refl W101).alloc (Obj.cells #[.slice AS m1.length cS, .slice BS q1.length dS, .int .i64 l1, .bool true] 25))
  obtain ⟨W102, hW⟩ : ∃ W, W = W101.alloc (Obj.cells #[.slice AS m1.length cS, .slice BS q1.length dS, .int .i64 l1, .bool true] 25) := ⟨_, rfl⟩
  obtain ⟨gS, hg⟩ : ∃ g, W101.heap.size = g := ⟨_, rfl⟩
  rw [← hW] at hS hxx ⊢
  rw [hg] at hS loS neDS ⊢
  clear hW hg sS tS
  replace hD := hD.ext hxx
  replace hX := hX.trans hxx
  clear hxx
  obtain ⟨AD, cD, BD, dD, bD, sD, tD⟩ := hD
  obtain ⟨b0, b1, b2, b3, bf, bl⟩ := bD
  go_wp2_with fail
  refine (HH.out.2.1 AD cD BD dD W102 sD tD).mono ?_
  rintro e W103 ⟨rfl, hxx⟩
  have hD := DV.mk (Box4.mk b0 b1 b2 b3 bf bl) sD tD
  clear b0 b1 b2 b3 bf bl
  replace hD := hD.ext hxx
  replace hS := hS.ext hxx
  replace hX := hX.trans hxx
  clear hxx
  obtain ⟨AS, cS, BS, dS, bS, sS, tS⟩ := hS
  obtain ⟨b0, b1, b2, b3, bf, bl⟩ := bS
  go_wp2_with fail
  refine (HH.out.2.2.2.2.1 AS cS BS dS W103 sS tS).mono ?_
  rintro e W104 ⟨rfl, hxx⟩
  have hS := DV.mk (Box4.mk b0 b1 b2 b3 bf bl) sS tS
  clear b0 b1 b2 b3 bf bl
  replace hD := hD.ext hxx
  replace hS := hS.ext hxx
  replace hX := hX.trans hxx
  clear hxx
  obtain ⟨AD, cD, BD, dD, bD, sD, tD⟩ := hD
  obtain ⟨b0, b1, b2, b3, bf, bl⟩ := bD
  obtain ⟨AS, cS, BS, dS, bS, sS, tS⟩ := hS
  obtain ⟨o0, o1, o2, o3, of, ol⟩ := bS
  go_upto_region 13 with fail
  have hD := DV.mk (Box4.mk b0 b1 b2 b3 bf bl) sD tD
  clear b0 b1 b2 b3 bf bl
  have hS := DV.mk (Box4.mk o0 o1 o2 o3 of ol) sS tS
  clear o0 o1 o2 o3 of ol
  obtain ⟨AS, cS, BS, dS, bS, sS, tS⟩ := hS
  obtain ⟨b0, b1, b2, b3, bf, bl⟩ := bS
  go_wp2_with fail
  refine (HH.out.2.2.1 AS cS BS dS W104 sS tS).mono ?_
  rintro e W105 ⟨AF, cF, BF, dF, rfl, sF, tF, hxx⟩
  have hS := DV.mk (Box4.mk b0 b1 b2 b3 bf bl) sS tS
  clear b0 b1 b2 b3 bf bl
  go_upto_region 14 with fail
  have hF := DV.new W105 m2 q2 l2 n2 AF cF BF dF 25 sF tF
  have neDF : gD ≠ W105.heap.size := Nat.ne_of_lt (Nat.lt_of_lt_of_le hD.lt hxx.size)
  have neSF : gS ≠ W105.heap.size := Nat.ne_of_lt (Nat.lt_of_lt_of_le hS.lt hxx.size)
  have loF := Nat.le_trans hX.size hxx.size
  replace hxx := Ext.trans hxx ((Ext.refl W105).alloc (Obj.cells #[.slice AF m2.length cF, .slice BF q2.length dF, .int .i64 l2, .bool n2] 25))
  obtain ⟨W106, hW⟩ : ∃ W, W = W105.alloc (Obj.cells #[.slice AF m2.length cF, .slice BF q2.length dF, .int .i64 l2, .bool n2] 25) := ⟨_, rfl⟩
  obtain ⟨gF, hg⟩ : ∃ g, W105.heap.size = g := ⟨_, rfl⟩
  rw [← hW] at hF hxx ⊢
  rw [hg] at hF loF neDF neSF ⊢
  clear hW hg sF tF
  replace hD := hD.ext hxx
  replace hS := hS.ext hxx
  replace hX := hX.trans hxx
  clear hxx
  obtain ⟨AF, cF, BF, dF, bF, sF, tF⟩ := hF
  obtain ⟨b0, b1, b2, b3, bf, bl⟩ := bF
  go_wp2_with fail
  refine (HH.out.2.2.2.1 AF cF BF dF W106 sF tF).mono ?_
  rintro e W107 ⟨AE, cE, BE, dE, rfl, sE, tE, hxx⟩
  have hF := DV.mk (Box4.mk b0 b1 b2 b3 bf bl) sF tF
  clear b0 b1 b2 b3 bf bl
  go_upto_region 15 with fail
  have hE := DV.new W107 m3 q3 l3 n3 AE cE BE dE 25 sE tE
  have neDE : gD ≠ W107.heap.size := Nat.ne_of_lt (Nat.lt_of_lt_of_le hD.lt hxx.size)
  have neSE : gS ≠ W107.heap.size := Nat.ne_of_lt (Nat.lt_of_lt_of_le hS.lt hxx.size)
  have neFE : gF ≠ W107.heap.size := Nat.ne_of_lt (Nat.lt_of_lt_of_le hF.lt hxx.size)
  have loE := Nat.le_trans hX.size hxx.size
  replace hxx := Ext.trans hxx ((Ext.refl W107).alloc (Obj.cells #[.slice AE m3.length cE, .slice BE q3.length dE, .int .i64 l3, .bool n3] 25))
  obtain ⟨W108, hW⟩ : ∃ W, W = W107.alloc (Obj.cells #[.slice AE m3.length cE, .slice BE q3.length dE, .int .i64 l3, .bool n3] 25) := ⟨_, rfl⟩
  obtain ⟨gE, hg⟩ : ∃ g, W107.heap.size = g := ⟨_, rfl⟩
  rw [← hW] at hE hxx ⊢
  rw [hg] at hE loE neDE neSE neFE ⊢
  clear hW hg sE tE
  replace hD := hD.ext hxx
  replace hS := hS.ext hxx
  replace hF := hF.ext hxx
  replace hX := hX.trans hxx
  clear hxx
  obtain ⟨AS, cS, BS, dS, bS, sS, tS⟩ := hS
  obtain ⟨b0, b1, b2, b3, bf, bl⟩ := bS
  go_wp2_with fail
  refine (HH.out.2.2.2.2.2.1 AS cS BS dS W108 sS tS).mono ?_
  rintro e W109 ⟨AV, cV, rfl, -, hV1, hxx⟩
  have hS := DV.mk (Box4.mk b0 b1 b2 b3 bf bl) sS tS
  clear b0 b1 b2 b3 bf bl
  replace hD := hD.ext hxx
  replace hS := hS.ext hxx
  replace hF := hF.ext hxx
  replace hE := hE.ext hxx
  replace hX := hX.trans hxx
  clear hxx
  obtain ⟨AE, cE, BE, dE, bE, sE, tE⟩ := hE
  obtain ⟨b0, b1, b2, b3, bf, bl⟩ := bE
  go_wp2_with fail
  refine (HH.out.2.2.2.2.2.2 AE cE BE dE W109 sE tE).mono ?_
  rintro e W110 ⟨AU, cU, rfl, -, hV2, hxx⟩
  have hE := DV.mk (Box4.mk b0 b1 b2 b3 bf bl) sE tE
  clear b0 b1 b2 b3 bf bl
  replace hD := hD.ext hxx
  replace hS := hS.ext hxx
  replace hF := hF.ext hxx
  replace hE := hE.ext hxx
  replace hV1 := hV1.ext hxx
  replace hX := hX.trans hxx
  clear hxx
  go_wp2_with fail
  refine (same2_yes V V rfl AV AU cV cU _ hV1 hV2).mono ?_
  rintro e w8 ⟨rfl, hdn⟩
  go_wp2_with fail
  refine (alive03_any _).mono ?_
  rintro e w9 ⟨rfl, hx9⟩
  go_wp2_with fail
  go_ret
  exact ⟨rfl, hX.trans (hdn.ext.trans hx9)⟩
set_option maxRecDepth 100000 in
set_option maxHeartbeats 6400000 in
theorem cacheLast_any (m : List Int) (q : List Dw) (left : Int) (down : Bool) (a o v : Int) (A : Option Addr) (c : Nat) (B : Option Addr) (d : Nat) (w : World) (hA : Sl w A m.length c (fU m)) (hB : Sl w B q.length d (fD q)) (hv : InU v) :
    Calls Try.prog 13 #[.agg #[.slice A m.length c, .slice B q.length d, .int .i64 left, .bool down], .int .i64 a, .int .i64 o, .int .u64 v] w fun e w' => e = .returned (.bool true) ∧ Ext w w' := by
  by_cases hg : (decide (2100 < m.length) || decide (2100 < q.length)) = true
  · go_enter Try.func13, Try.ntmps13
    go_wp2_with fail
    refine (dGreat_any _ _ _ _ _ _ _ _ _).mono ?_
    rintro e w1 ⟨rfl, hx1⟩
    rw [hg]
    go_wp2_with fail
    refine (alive03_any _).mono ?_
    rintro e w2 ⟨rfl, hx2⟩
    go_wp2_with fail
    go_ret
    exact ⟨rfl, (by repeat (first | assumption | exact Ext.refl _ | refine Ext.drewN ?_ _ | refine Ext.drew ?_ | refine Ext.alloc ?_ _ | refine Ext.trans ?_ (by assumption)))⟩
  have hg' : (decide (2100 < m.length) || decide (2100 < q.length)) = false := by simpa using hg
  clear hg
  have H0 := Box4.new w (.slice A m.length c) (.slice B q.length d) (.int .i64 left) (.bool down) 25
  by_cases hd : devB m q left down = true
  rotate_left
  · have h0 := devE_no (by simpa using hd)
    go_enter Try.func13, Try.ntmps13
    go_wp2_with fail
    refine (dGreat_any _ _ _ _ _ _ _ _ _).mono ?_
    rintro e w1 ⟨rfl, hx1⟩
    rw [hg']
    obtain ⟨b0, b1, b2, b3, bf, bl⟩ := H0.ext (w' := w1) (by repeat (first | assumption | exact Ext.refl _ | refine Ext.drewN ?_ _ | refine Ext.drew ?_ | refine Ext.alloc ?_ _ | refine Ext.trans ?_ (by assumption)))
    go_wp2_with fail
    refine (dRefCk_any m q left down A c B d _ (hB.ext (by repeat (first | assumption | exact Ext.refl _ | refine Ext.drewN ?_ _ | refine Ext.drew ?_ | refine Ext.alloc ?_ _ | refine Ext.trans ?_ (by assumption))))).mono ?_
    rintro e w2 ⟨rfl, hx2⟩
    rw [h0]
    go_wp2_with fail
    refine (alive03_any _).mono ?_
    rintro e w3 ⟨rfl, hx3⟩
    go_wp2_with fail
    go_ret
    exact ⟨rfl, (by repeat (first | assumption | exact Ext.refl _ | refine Ext.drewN ?_ _ | refine Ext.drew ?_ | refine Ext.alloc ?_ _ | refine Ext.trans ?_ (by assumption)))⟩
  have h0 := devE_yes hd
  by_cases hr : 0 ≤ a
  rotate_left
  · have hn : a < 0 := by omega
    clear hr
    go_enter Try.func13, Try.ntmps13
    go_wp2_with fail
    refine (dGreat_any _ _ _ _ _ _ _ _ _).mono ?_
    rintro e w1 ⟨rfl, hx1⟩
    rw [hg']
    obtain ⟨b0, b1, b2, b3, bf, bl⟩ := H0.ext (w' := w1) (by repeat (first | assumption | exact Ext.refl _ | refine Ext.drewN ?_ _ | refine Ext.drew ?_ | refine Ext.alloc ?_ _ | refine Ext.trans ?_ (by assumption)))
    go_wp2_with fail
    refine (dRefCk_any m q left down A c B d _ (hB.ext (by repeat (first | assumption | exact Ext.refl _ | refine Ext.drewN ?_ _ | refine Ext.drew ?_ | refine Ext.alloc ?_ _ | refine Ext.trans ?_ (by assumption))))).mono ?_
    rintro e w2 ⟨rfl, hx2⟩
    rw [h0]
    clear b0 b1 b2 b3 bf bl
    obtain ⟨b0, b1, b2, b3, bf, bl⟩ := H0.ext (w' := w2) (by repeat (first | assumption | exact Ext.refl _ | refine Ext.drewN ?_ _ | refine Ext.drew ?_ | refine Ext.alloc ?_ _ | refine Ext.trans ?_ (by assumption)))
    go_wp2_with fail
    refine (alive03_any _).mono ?_
    rintro e w3 ⟨rfl, hx3⟩
    go_wp2_with fail
    go_ret
    exact ⟨rfl, (by repeat (first | assumption | exact Ext.refl _ | refine Ext.drewN ?_ _ | refine Ext.drew ?_ | refine Ext.alloc ?_ _ | refine Ext.trans ?_ (by assumption)))⟩
  have hr11 := hr
  clear hr
  by_cases hr : a < m.length
  rotate_left
  · have hn : (m.length : Int) ≤ a := by omega
    clear hr
    go_enter Try.func13, Try.ntmps13
    go_wp2_with fail
    refine (dGreat_any _ _ _ _ _ _ _ _ _).mono ?_
    rintro e w1 ⟨rfl, hx1⟩
    rw [hg']
    obtain ⟨b0, b1, b2, b3, bf, bl⟩ := H0.ext (w' := w1) (by repeat (first | assumption | exact Ext.refl _ | refine Ext.drewN ?_ _ | refine Ext.drew ?_ | refine Ext.alloc ?_ _ | refine Ext.trans ?_ (by assumption)))
    go_wp2_with fail
    refine (dRefCk_any m q left down A c B d _ (hB.ext (by repeat (first | assumption | exact Ext.refl _ | refine Ext.drewN ?_ _ | refine Ext.drew ?_ | refine Ext.alloc ?_ _ | refine Ext.trans ?_ (by assumption))))).mono ?_
    rintro e w2 ⟨rfl, hx2⟩
    rw [h0]
    clear b0 b1 b2 b3 bf bl
    obtain ⟨b0, b1, b2, b3, bf, bl⟩ := H0.ext (w' := w2) (by repeat (first | assumption | exact Ext.refl _ | refine Ext.drewN ?_ _ | refine Ext.drew ?_ | refine Ext.alloc ?_ _ | refine Ext.trans ?_ (by assumption)))
    go_wp2_with fail
    refine (alive03_any _).mono ?_
    rintro e w3 ⟨rfl, hx3⟩
    go_wp2_with fail
    go_ret
    exact ⟨rfl, (by repeat (first | assumption | exact Ext.refl _ | refine Ext.drewN ?_ _ | refine Ext.drew ?_ | refine Ext.alloc ?_ _ | refine Ext.trans ?_ (by assumption)))⟩
  have hr12 := hr
  clear hr
  by_cases hr : 0 ≤ o
  rotate_left
  · have hn : o < 0 := by omega
    clear hr
    go_enter Try.func13, Try.ntmps13
    go_wp2_with fail
    refine (dGreat_any _ _ _ _ _ _ _ _ _).mono ?_
    rintro e w1 ⟨rfl, hx1⟩
    rw [hg']
    obtain ⟨b0, b1, b2, b3, bf, bl⟩ := H0.ext (w' := w1) (by repeat (first | assumption | exact Ext.refl _ | refine Ext.drewN ?_ _ | refine Ext.drew ?_ | refine Ext.alloc ?_ _ | refine Ext.trans ?_ (by assumption)))
    go_wp2_with fail
    refine (dRefCk_any m q left down A c B d _ (hB.ext (by repeat (first | assumption | exact Ext.refl _ | refine Ext.drewN ?_ _ | refine Ext.drew ?_ | refine Ext.alloc ?_ _ | refine Ext.trans ?_ (by assumption))))).mono ?_
    rintro e w2 ⟨rfl, hx2⟩
    rw [h0]
    clear b0 b1 b2 b3 bf bl
    obtain ⟨b0, b1, b2, b3, bf, bl⟩ := H0.ext (w' := w2) (by repeat (first | assumption | exact Ext.refl _ | refine Ext.drewN ?_ _ | refine Ext.drew ?_ | refine Ext.alloc ?_ _ | refine Ext.trans ?_ (by assumption)))
    go_wp2_with fail
    refine (alive03_any _).mono ?_
    rintro e w3 ⟨rfl, hx3⟩
    go_wp2_with fail
    go_ret
    exact ⟨rfl, (by repeat (first | assumption | exact Ext.refl _ | refine Ext.drewN ?_ _ | refine Ext.drew ?_ | refine Ext.alloc ?_ _ | refine Ext.trans ?_ (by assumption)))⟩
  have hr13 := hr
  clear hr
  by_cases hr : o < m.length
  rotate_left
  · have hn : (m.length : Int) ≤ o := by omega
    clear hr
    go_enter Try.func13, Try.ntmps13
    go_wp2_with fail
    refine (dGreat_any _ _ _ _ _ _ _ _ _).mono ?_
    rintro e w1 ⟨rfl, hx1⟩
    rw [hg']
    obtain ⟨b0, b1, b2, b3, bf, bl⟩ := H0.ext (w' := w1) (by repeat (first | assumption | exact Ext.refl _ | refine Ext.drewN ?_ _ | refine Ext.drew ?_ | refine Ext.alloc ?_ _ | refine Ext.trans ?_ (by assumption)))
    go_wp2_with fail
    refine (dRefCk_any m q left down A c B d _ (hB.ext (by repeat (first | assumption | exact Ext.refl _ | refine Ext.drewN ?_ _ | refine Ext.drew ?_ | refine Ext.alloc ?_ _ | refine Ext.trans ?_ (by assumption))))).mono ?_
    rintro e w2 ⟨rfl, hx2⟩
    rw [h0]
    clear b0 b1 b2 b3 bf bl
    obtain ⟨b0, b1, b2, b3, bf, bl⟩ := H0.ext (w' := w2) (by repeat (first | assumption | exact Ext.refl _ | refine Ext.drewN ?_ _ | refine Ext.drew ?_ | refine Ext.alloc ?_ _ | refine Ext.trans ?_ (by assumption)))
    go_wp2_with fail
    refine (alive03_any _).mono ?_
    rintro e w3 ⟨rfl, hx3⟩
    go_wp2_with fail
    go_ret
    exact ⟨rfl, (by repeat (first | assumption | exact Ext.refl _ | refine Ext.drewN ?_ _ | refine Ext.drew ?_ | refine Ext.alloc ?_ _ | refine Ext.trans ?_ (by assumption)))⟩
  have hr14 := hr
  clear hr
  clear H0 h0
  by_cases hl : left = 0
  · cases down
    · exact cacheLast_0 m q left a o v A c B d w hA hB hg' hd (by assumption) (by assumption) (by assumption) (by assumption) hv hl
    · exact cacheLast_3 m q left a o v A c B d w hA hB hg' hd (by assumption) (by assumption) (by assumption) (by assumption) hv hl
  · have hdn := (devB_bd hd).2.2.2.1
    obtain rfl : down = false := by cases down with | false => rfl | true => exact absurd (hdn rfl) hl
    by_cases hao : o = a
    · exact cacheLast_1 m q left a o v A c B d w hA hB hg' hd (by assumption) (by assumption) (by assumption) (by assumption) hv hl hao
    · exact cacheLast_2 m q left a o v A c B d w hA hB hg' hd (by assumption) (by assumption) (by assumption) (by assumption) hv hl hao
set_option maxRecDepth 100000 in
theorem cacheLast_lifted (os : Os) (started : os.Started) (H : Type) (enc : TypeId × Value → H) :
    ReturnsInHanded {} Try.checked os 13 .any (Rows.cacheLastSpec.pre6 enc Try.prog Try.f13 Rows.cacheLastRow.domain false) (Rows.cacheLastSpec.post enc Try.prog Try.f13 false true false false) := by
  refine returnsInHanded_of_change (C := Try.checked) own_knob started (by kernel_rfl) Try.func13
    (ChangeSpec.witness6 (enc := enc) (C := Try.checked) false ⟨#[], #[.agg #[.slice none 0 0, .slice none 0 0, .int .i64 0, .bool false], .int .i64 0, .int .i64 0, .int .u64 0], []⟩ 8 (by kernel_rfl) (by kernel_rfl) (by kernel_rfl) (by kernel_rfl)) ?_
  intro W base args ds gs before hval0 hW hcnd _
  have hval : ∀ (j : Nat) t v, Try.f13.params[j]? = some t → args[j]? = some v → Value.okWide Try.prog W .any base t v := hval0
  have hW' := hW
  obtain ⟨p, q, hA0, hV, rfl, hfz, hnd⟩ := hW
  have hA : DataW.TrodAll enc Try.prog W 0 (fun _ => true) true Try.f13.params.toList args.toList ds p := hA0
  rw [Try.params13] at hA hval
  obtain ⟨v0, vs0, d0, ds0, p0, q0, hargs, rfl, rfl, h0, r0⟩ := trodAll_cons hA
  obtain ⟨v1, vs1, d1, ds1, p1, q1, rfl, rfl, rfl, h1, r1⟩ := trodAll_cons r0
  obtain ⟨v2, vs2, d2, ds2, p2, q2, rfl, rfl, rfl, h2, r2⟩ := trodAll_cons r1
  obtain ⟨v3, vs3, d3, ds3, p3, q3, rfl, rfl, rfl, h3, r3⟩ := trodAll_cons r2
  obtain ⟨rfl, rfl, rfl⟩ := trodAll_nil r3
  obtain rfl : args = #[v0, v1, v2, v3] := by cases args; simp_all
  obtain ⟨rfl, rfl⟩ := trodVars_none hV
  obtain ⟨A0, c0, m0, B0, k0, ds0, left0, down0, rfl, hS0, wA0, hB0, wB0, wl0⟩ := op_V (hval 0 25 v0 rfl rfl) h0
  obtain ⟨x1, rfl, wx1⟩ := op_i (hval 1 3 v1 rfl rfl) h1
  obtain ⟨x2, rfl, wx2⟩ := op_i (hval 2 3 v2 rfl rfl) h2
  obtain ⟨x3, rfl, wx3⟩ := op_u (hval 3 26 v3 rfl rfl) h3
  clear hA0 hval0 hval hA
  refine (cacheLast_any m0 ds0 left0 down0 x1 x2 x3 A0 c0 B0 k0 W hS0 hB0 wx3).mono fun e W' ⟨he, hx⟩ => ?_
  subst he
  exact ⟨_, rfl, post_law laid_out (by kernel_rfl) hW' rfl rfl rfl Try.underlying4 hx⟩
theorem cacheLast_holds : Rows.CacheLastSaid :=
  OpenClaim.holds_of_wide 13 Try.f13 rfl rfl rfl rfl rfl rfl rfl ⟨rfl, rfl, rfl, rfl, rfl⟩ rfl rfl rfl rfl rfl (by kernel_rfl) Try.func13 (by kernel_rfl)
    (of_decide_eq_true (by kernel_rfl)) (by unfold Func.isWrapper; first | (rw [if_pos (by decide +kernel)]; kernel_rfl) | (rw [if_neg (by decide +kernel)]; exact ⟨rfl, rfl⟩))
    (fun os started H enc _ => cacheLast_lifted os started H enc)
end Go.Proofs.Ytmmcbleoglgamaa
