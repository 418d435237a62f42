/-
  CacheStores, for every device, every address and every word: the law returns true. No condition.
-/
import Derived.Test.YtmmcbleoglgamaaDV
import Derived.Test.YtmmcbleoglgamaaOpen
namespace Go.Proofs.Ytmmcbleoglgamaa
open Go.ChangeShapes Go.WideShapes Go.ChangeAt Go.RowKit
set_option maxRecDepth 100000 in
set_option maxHeartbeats 6400000 in
theorem cacheStores_any (m : List Int) (q : List Dw) (left : Int) (down : Bool) (a v : Int) (A : Option Addr) (c : Nat) (B : Option Addr) (d : Nat) (w : World) (hA : Sl w A m.length c (fU m)) (hB : Sl w B q.length d (fD q)) :
    Calls Try.prog 9 #[.agg #[.slice A m.length c, .slice B q.length d, .int .i64 left, .bool down], .int .i64 a, .int .u64 v] w fun e w' => e = .returned (.bool true) ∧ Ext w w' := by
  by_cases hg : (decide (2100 < m.length) || decide (2100 < q.length)) = true
  · go_enter Try.func9, Try.ntmps9
    go_wp2_with fail
    refine (dGreat_any _ _ _ _ _ _ _ _ _).mono ?_
    rintro e w' ⟨rfl, hx⟩
    rw [hg]
    go_wp2_with fail
    go_ret
    exact ⟨rfl, (by repeat (first | assumption | exact Ext.refl _ | refine Ext.drewN ?_ _ | refine Ext.drew ?_ | refine Ext.alloc ?_ _ | refine Ext.trans ?_ (by assumption)))⟩
  · have hg' : (decide (2100 < m.length) || decide (2100 < q.length)) = false := by simpa using hg
    have hm : m.length ≤ 2100 ∧ q.length ≤ 2100 := by simp at hg; omega
    obtain ⟨⟨mN, qN, lN, nN⟩, e0⟩ : ∃ D, newV m = D := ⟨_, rfl⟩
    obtain ⟨⟨mS, qS, lS, nS⟩, e1⟩ : ∃ D, storeV m q left down a v = D := ⟨_, rfl⟩
    obtain ⟨⟨mF, qF, lF, nF⟩, e2⟩ : ∃ D, flushV m q left down a = D := ⟨_, rfl⟩
    obtain ⟨⟨mE, qE, lE, nE⟩, e3⟩ : ∃ D, fenceV m q left down = D := ⟨_, rfl⟩
    obtain ⟨eN, f0⟩ : ∃ y, imgE m.length = y := ⟨_, rfl⟩
    obtain ⟨eA, f1⟩ : ∃ y, askE m q left down a = y := ⟨_, rfl⟩
    obtain ⟨eD, f2⟩ : ∃ y, devE m q left down = y := ⟨_, rfl⟩
    have h1 := fun A c W (ha : Sl W A m.length c (fU m)) => dNew_any m A c W ha
    have h2 := fun A c W (ha : Sl W A m.length c (fU m)) => dRNew_any m A c W ha
    have h3 := fun A c B d W (ha : Sl W A m.length c (fU m)) (hb : Sl W B q.length d (fD q)) => dStore_any m q left down a v A c B d W ha hb
    have h4 := fun A c B d W (ha : Sl W A m.length c (fU m)) (hb : Sl W B q.length d (fD q)) => dRStore_any m q left down a v A c B d W ha hb
    have h5 := fun A c B d W (ha : Sl W A m.length c (fU m)) (hb : Sl W B q.length d (fD q)) => dFlush_any m q left down a A c B d W ha hb
    have h6 := fun A c B d W (ha : Sl W A m.length c (fU m)) (hb : Sl W B q.length d (fD q)) => dRFlush_any m q left down a A c B d W ha hb
    have h7 := fun A c B d W (ha : Sl W A m.length c (fU m)) (hb : Sl W B q.length d (fD q)) => dFence_any m q left down A c B d W ha hb
    have h8 := fun A c B d W (ha : Sl W A m.length c (fU m)) (hb : Sl W B q.length d (fD q)) => dRFence_any m q left down A c B d W ha hb
    rw [e0, f0] at h1 h2
    rw [e1, f1] at h3 h4
    rw [e2, f1] at h5 h6
    rw [e3, f2] at h7 h8
    have HH := Lib.hid (And.intro h1 (And.intro h2 (And.intro h3 (And.intro h4 (And.intro h5 (And.intro h6 (And.intro h7 (And.intro h8 hg'))))))))
    clear h1 h2 h3 h4 h5 h6 h7 h8 e0 e1 e2 e3 f0 f1 f2 hg hg'
    have hD := DV.new w m q left down A c B d 25 hA hB
    have hX : Ext w (w.alloc (Obj.cells #[.slice A m.length c, .slice B q.length d, .int .i64 left, .bool down] 25)) := (Ext.refl w).alloc _
    go_enter Try.func9, Try.ntmps9
    go_wp2_with fail
    refine (dGreat_any _ _ _ _ _ _ _ _ _).mono ?_
    rintro e w1 ⟨rfl, hx1⟩
    rw [HH.out.2.2.2.2.2.2.2.2]
    replace hX := hX.trans hx1
    replace hD := hD.ext hx1
    obtain ⟨gD, hgD⟩ : ∃ g, w.heap.size = g := ⟨_, rfl⟩
    rw [hgD] at hD ⊢
    clear hx1 hgD
    obtain ⟨AD, cD, BD, dD, bD, sD, tD⟩ := hD
    obtain ⟨b0, b1, b2, b3, bf, bl⟩ := bD
    go_wp2_with fail
    refine (dRTwin_any m q left down AD cD BD dD w1 sD tD (by omega) (by omega)).mono ?_
    rintro e W101 ⟨AO, cO, BO, dO, rfl, sO, tO, hxx⟩
    replace sO := own_sl4 sO
    replace tO := own_sl4 tO
    have hD := DV.mk (Box4.mk b0 b1 b2 b3 bf bl) sD tD
    clear b0 b1 b2 b3 bf bl
    go_upto_region 4 with fail
    have hO := DV.new W101 m q left down AO cO BO dO 25 sO tO
    have neDO : gD ≠ W101.heap.size := Nat.ne_of_lt (Nat.lt_of_lt_of_le hD.lt hxx.size)
    have loO := Nat.le_trans hX.size hxx.size
    replace hxx := Ext.trans hxx ((Ext.refl W101).alloc (Obj.cells #[.slice AO m.length cO, .slice BO q.length dO, .int .i64 left, .bool down] 25))
    obtain ⟨W102, hW⟩ : ∃ W, W = W101.alloc (Obj.cells #[.slice AO m.length cO, .slice BO q.length dO, .int .i64 left, .bool down] 25) := ⟨_, rfl⟩
    obtain ⟨gO, hg⟩ : ∃ g, W101.heap.size = g := ⟨_, rfl⟩
    rw [← hW] at hO hxx ⊢
    rw [hg] at hO loO neDO ⊢
    clear hW hg sO tO
    replace hD := hD.ext hxx
    replace hX := hX.trans hxx
    clear hxx
    obtain ⟨AO, cO, BO, dO, bO, sO, tO⟩ := hO
    obtain ⟨b0, b1, b2, b3, bf, bl⟩ := bO
    go_wp2_with fail
    refine (HH.out.1 AO cO W102 sO).mono ?_
    rintro e W103 ⟨AP, cP, BP, dP, rfl, sP, tP, hxx⟩
    have hO := DV.mk (Box4.mk b0 b1 b2 b3 bf bl) sO tO
    clear b0 b1 b2 b3 bf bl
    go_upto_region 5 with fail
    have hP := DV.new W103 mN qN lN nN AP cP BP dP 25 sP tP
    have neDP : gD ≠ W103.heap.size := Nat.ne_of_lt (Nat.lt_of_lt_of_le hD.lt hxx.size)
    have neOP : gO ≠ W103.heap.size := Nat.ne_of_lt (Nat.lt_of_lt_of_le hO.lt hxx.size)
    have loP := Nat.le_trans hX.size hxx.size
    replace hxx := Ext.trans hxx ((Ext.refl W103).alloc (Obj.cells #[.slice AP mN.length cP, .slice BP qN.length dP, .int .i64 lN, .bool nN] 25))
    obtain ⟨W104, hW⟩ : ∃ W, W = W103.alloc (Obj.cells #[.slice AP mN.length cP, .slice BP qN.length dP, .int .i64 lN, .bool nN] 25) := ⟨_, rfl⟩
    obtain ⟨gP, hg⟩ : ∃ g, W103.heap.size = g := ⟨_, rfl⟩
    rw [← hW] at hP hxx ⊢
    rw [hg] at hP loP neDP neOP ⊢
    clear hW hg sP tP
    replace hD := hD.ext hxx
    replace hO := hO.ext hxx
    replace hX := hX.trans hxx
    clear hxx
    obtain ⟨AD, cD, BD, dD, bD, sD, tD⟩ := hD
    obtain ⟨b0, b1, b2, b3, bf, bl⟩ := bD
    go_wp2_with fail
    refine (HH.out.2.1 AD cD W104 sD).mono ?_
    rintro e W105 ⟨AQ, cQ, BQ, dQ, rfl, sQ, tQ, hxx⟩
    have hD := DV.mk (Box4.mk b0 b1 b2 b3 bf bl) sD tD
    clear b0 b1 b2 b3 bf bl
    go_upto_region 6 with fail
    have hQ := DV.new W105 mN qN lN nN AQ cQ BQ dQ 25 sQ tQ
    have neDQ : gD ≠ W105.heap.size := Nat.ne_of_lt (Nat.lt_of_lt_of_le hD.lt hxx.size)
    have neOQ : gO ≠ W105.heap.size := Nat.ne_of_lt (Nat.lt_of_lt_of_le hO.lt hxx.size)
    have nePQ : gP ≠ W105.heap.size := Nat.ne_of_lt (Nat.lt_of_lt_of_le hP.lt hxx.size)
    have loQ := Nat.le_trans hX.size hxx.size
    replace hxx := Ext.trans hxx ((Ext.refl W105).alloc (Obj.cells #[.slice AQ mN.length cQ, .slice BQ qN.length dQ, .int .i64 lN, .bool nN] 25))
    obtain ⟨W106, hW⟩ : ∃ W, W = W105.alloc (Obj.cells #[.slice AQ mN.length cQ, .slice BQ qN.length dQ, .int .i64 lN, .bool nN] 25) := ⟨_, rfl⟩
    obtain ⟨gQ, hg⟩ : ∃ g, W105.heap.size = g := ⟨_, rfl⟩
    rw [← hW] at hQ hxx ⊢
    rw [hg] at hQ loQ neDQ neOQ nePQ ⊢
    clear hW hg sQ tQ
    replace hD := hD.ext hxx
    replace hO := hO.ext hxx
    replace hP := hP.ext hxx
    replace hX := hX.trans hxx
    clear hxx
    obtain ⟨AO, cO, BO, dO, bO, sO, tO⟩ := hO
    obtain ⟨b0, b1, b2, b3, bf, bl⟩ := bO
    go_wp2_with fail
    refine (HH.out.2.2.1 AO cO BO dO W106 sO tO).mono ?_
    rintro e W107 ⟨AR, cR, BR, dR, rfl, sR, tR, hxx⟩
    have hO := DV.mk (Box4.mk b0 b1 b2 b3 bf bl) sO tO
    clear b0 b1 b2 b3 bf bl
    go_upto_region 7 with fail
    have hR := DV.new W107 mS qS lS nS AR cR BR dR 25 sR tR
    have neDR : gD ≠ W107.heap.size := Nat.ne_of_lt (Nat.lt_of_lt_of_le hD.lt hxx.size)
    have neOR : gO ≠ W107.heap.size := Nat.ne_of_lt (Nat.lt_of_lt_of_le hO.lt hxx.size)
    have nePR : gP ≠ W107.heap.size := Nat.ne_of_lt (Nat.lt_of_lt_of_le hP.lt hxx.size)
    have neQR : gQ ≠ W107.heap.size := Nat.ne_of_lt (Nat.lt_of_lt_of_le hQ.lt hxx.size)
    have loR := Nat.le_trans hX.size hxx.size
    replace hxx := Ext.trans hxx ((Ext.refl W107).alloc (Obj.cells #[.slice AR mS.length cR, .slice BR qS.length dR, .int .i64 lS, .bool nS] 25))
    obtain ⟨W108, hW⟩ : ∃ W, W = W107.alloc (Obj.cells #[.slice AR mS.length cR, .slice BR qS.length dR, .int .i64 lS, .bool nS] 25) := ⟨_, rfl⟩
    obtain ⟨gR, hg⟩ : ∃ g, W107.heap.size = g := ⟨_, rfl⟩
    rw [← hW] at hR hxx ⊢
    rw [hg] at hR loR neDR neOR nePR neQR ⊢
    clear hW hg sR tR
    replace hD := hD.ext hxx
    replace hO := hO.ext hxx
    replace hP := hP.ext hxx
    replace hQ := hQ.ext hxx
    replace hX := hX.trans hxx
    clear hxx
    obtain ⟨AD, cD, BD, dD, bD, sD, tD⟩ := hD
    obtain ⟨b0, b1, b2, b3, bf, bl⟩ := bD
    go_wp2_with fail
    refine (HH.out.2.2.2.1 AD cD BD dD W108 sD tD).mono ?_
    rintro e W109 ⟨AS, cS, BS, dS, rfl, sS, tS, hxx⟩
    have hD := DV.mk (Box4.mk b0 b1 b2 b3 bf bl) sD tD
    clear b0 b1 b2 b3 bf bl
    go_upto_region 8 with fail
    have hS := DV.new W109 mS qS lS nS AS cS BS dS 25 sS tS
    have neDS : gD ≠ W109.heap.size := Nat.ne_of_lt (Nat.lt_of_lt_of_le hD.lt hxx.size)
    have neOS : gO ≠ W109.heap.size := Nat.ne_of_lt (Nat.lt_of_lt_of_le hO.lt hxx.size)
    have nePS : gP ≠ W109.heap.size := Nat.ne_of_lt (Nat.lt_of_lt_of_le hP.lt hxx.size)
    have neQS : gQ ≠ W109.heap.size := Nat.ne_of_lt (Nat.lt_of_lt_of_le hQ.lt hxx.size)
    have neRS : gR ≠ W109.heap.size := Nat.ne_of_lt (Nat.lt_of_lt_of_le hR.lt hxx.size)
    have loS := Nat.le_trans hX.size hxx.size
    replace hxx := Ext.trans hxx ((Ext.refl W109).alloc (Obj.cells #[.slice AS mS.length cS, .slice BS qS.length dS, .int .i64 lS, .bool nS] 25))
    obtain ⟨W110, hW⟩ : ∃ W, W = W109.alloc (Obj.cells #[.slice AS mS.length cS, .slice BS qS.length dS, .int .i64 lS, .bool nS] 25) := ⟨_, rfl⟩
    obtain ⟨gS, hg⟩ : ∃ g, W109.heap.size = g := ⟨_, rfl⟩
    rw [← hW] at hS hxx ⊢
    rw [hg] at hS loS neDS neOS nePS neQS neRS ⊢
    clear hW hg sS tS
    replace hD := hD.ext hxx
    replace hO := hO.ext hxx
    replace hP := hP.ext hxx
    replace hQ := hQ.ext hxx
    replace hR := hR.ext hxx
    replace hX := hX.trans hxx
    clear hxx
    obtain ⟨AO, cO, BO, dO, bO, sO, tO⟩ := hO
    obtain ⟨b0, b1, b2, b3, bf, bl⟩ := bO
    go_wp2_with fail
    refine (HH.out.2.2.2.2.1 AO cO BO dO W110 sO tO).mono ?_
    rintro e W111 ⟨AT, cT, BT, dT, rfl, sT, tT, hxx⟩
    have hO := DV.mk (Box4.mk b0 b1 b2 b3 bf bl) sO tO
    clear b0 b1 b2 b3 bf bl
    go_upto_region 9 with fail
    have hT := DV.new W111 mF qF lF nF AT cT BT dT 25 sT tT
    have neDT : gD ≠ W111.heap.size := Nat.ne_of_lt (Nat.lt_of_lt_of_le hD.lt hxx.size)
    have neOT : gO ≠ W111.heap.size := Nat.ne_of_lt (Nat.lt_of_lt_of_le hO.lt hxx.size)
    have nePT : gP ≠ W111.heap.size := Nat.ne_of_lt (Nat.lt_of_lt_of_le hP.lt hxx.size)
    have neQT : gQ ≠ W111.heap.size := Nat.ne_of_lt (Nat.lt_of_lt_of_le hQ.lt hxx.size)
    have neRT : gR ≠ W111.heap.size := Nat.ne_of_lt (Nat.lt_of_lt_of_le hR.lt hxx.size)
    have neST : gS ≠ W111.heap.size := Nat.ne_of_lt (Nat.lt_of_lt_of_le hS.lt hxx.size)
    have loT := Nat.le_trans hX.size hxx.size
    replace hxx := Ext.trans hxx ((Ext.refl W111).alloc (Obj.cells #[.slice AT mF.length cT, .slice BT qF.length dT, .int .i64 lF, .bool nF] 25))
    obtain ⟨W112, hW⟩ : ∃ W, W = W111.alloc (Obj.cells #[.slice AT mF.length cT, .slice BT qF.length dT, .int .i64 lF, .bool nF] 25) := ⟨_, rfl⟩
    obtain ⟨gT, hg⟩ : ∃ g, W111.heap.size = g := ⟨_, rfl⟩
    rw [← hW] at hT hxx ⊢
    rw [hg] at hT loT neDT neOT nePT neQT neRT neST ⊢
    clear hW hg sT tT
    replace hD := hD.ext hxx
    replace hO := hO.ext hxx
    replace hP := hP.ext hxx
    replace hQ := hQ.ext hxx
    replace hR := hR.ext hxx
    replace hS := hS.ext hxx
    replace hX := hX.trans hxx
    clear hxx
    obtain ⟨AD, cD, BD, dD, bD, sD, tD⟩ := hD
    obtain ⟨b0, b1, b2, b3, bf, bl⟩ := bD
    go_wp2_with fail
    refine (HH.out.2.2.2.2.2.1 AD cD BD dD W112 sD tD).mono ?_
    rintro e W113 ⟨AU, cU, BU, dU, rfl, sU, tU, hxx⟩
    have hD := DV.mk (Box4.mk b0 b1 b2 b3 bf bl) sD tD
    clear b0 b1 b2 b3 bf bl
    go_upto_region 10 with fail
    have hU := DV.new W113 mF qF lF nF AU cU BU dU 25 sU tU
    have neDU : gD ≠ W113.heap.size := Nat.ne_of_lt (Nat.lt_of_lt_of_le hD.lt hxx.size)
    have neOU : gO ≠ W113.heap.size := Nat.ne_of_lt (Nat.lt_of_lt_of_le hO.lt hxx.size)
    have nePU : gP ≠ W113.heap.size := Nat.ne_of_lt (Nat.lt_of_lt_of_le hP.lt hxx.size)
    have neQU : gQ ≠ W113.heap.size := Nat.ne_of_lt (Nat.lt_of_lt_of_le hQ.lt hxx.size)
    have neRU : gR ≠ W113.heap.size := Nat.ne_of_lt (Nat.lt_of_lt_of_le hR.lt hxx.size)
    have neSU : gS ≠ W113.heap.size := Nat.ne_of_lt (Nat.lt_of_lt_of_le hS.lt hxx.size)
    have neTU : gT ≠ W113.heap.size := Nat.ne_of_lt (Nat.lt_of_lt_of_le hT.lt hxx.size)
    have loU := Nat.le_trans hX.size hxx.size
    replace hxx := Ext.trans hxx ((Ext.refl W113).alloc (Obj.cells #[.slice AU mF.length cU, .slice BU qF.length dU, .int .i64 lF, .bool nF] 25))
    obtain ⟨W114, hW⟩ : ∃ W, W = W113.alloc (Obj.cells #[.slice AU mF.length cU, .slice BU qF.length dU, .int .i64 lF, .bool nF] 25) := ⟨_, rfl⟩
    obtain ⟨gU, hg⟩ : ∃ g, W113.heap.size = g := ⟨_, rfl⟩
    rw [← hW] at hU hxx ⊢
    rw [hg] at hU loU neDU neOU nePU neQU neRU neSU neTU ⊢
    clear hW hg sU tU
    replace hD := hD.ext hxx
    replace hO := hO.ext hxx
    replace hP := hP.ext hxx
    replace hQ := hQ.ext hxx
    replace hR := hR.ext hxx
    replace hS := hS.ext hxx
    replace hT := hT.ext hxx
    replace hX := hX.trans hxx
    clear hxx
    obtain ⟨AO, cO, BO, dO, bO, sO, tO⟩ := hO
    obtain ⟨b0, b1, b2, b3, bf, bl⟩ := bO
    go_wp2_with fail
    refine (HH.out.2.2.2.2.2.2.1 AO cO BO dO W114 sO tO).mono ?_
    rintro e W115 ⟨AV, cV, BV, dV, rfl, sV, tV, hxx⟩
    have hO := DV.mk (Box4.mk b0 b1 b2 b3 bf bl) sO tO
    clear b0 b1 b2 b3 bf bl
    go_upto_region 11 with fail
    have hV := DV.new W115 mE qE lE nE AV cV BV dV 25 sV tV
    have neDV : gD ≠ W115.heap.size := Nat.ne_of_lt (Nat.lt_of_lt_of_le hD.lt hxx.size)
    have neOV : gO ≠ W115.heap.size := Nat.ne_of_lt (Nat.lt_of_lt_of_le hO.lt hxx.size)
    have nePV : gP ≠ W115.heap.size := Nat.ne_of_lt (Nat.lt_of_lt_of_le hP.lt hxx.size)
    have neQV : gQ ≠ W115.heap.size := Nat.ne_of_lt (Nat.lt_of_lt_of_le hQ.lt hxx.size)
    have neRV : gR ≠ W115.heap.size := Nat.ne_of_lt (Nat.lt_of_lt_of_le hR.lt hxx.size)
    have neSV : gS ≠ W115.heap.size := Nat.ne_of_lt (Nat.lt_of_lt_of_le hS.lt hxx.size)
    have neTV : gT ≠ W115.heap.size := Nat.ne_of_lt (Nat.lt_of_lt_of_le hT.lt hxx.size)
    have neUV : gU ≠ W115.heap.size := Nat.ne_of_lt (Nat.lt_of_lt_of_le hU.lt hxx.size)
    have loV := Nat.le_trans hX.size hxx.size
    replace hxx := Ext.trans hxx ((Ext.refl W115).alloc (Obj.cells #[.slice AV mE.length cV, .slice BV qE.length dV, .int .i64 lE, .bool nE] 25))
    obtain ⟨W116, hW⟩ : ∃ W, W = W115.alloc (Obj.cells #[.slice AV mE.length cV, .slice BV qE.length dV, .int .i64 lE, .bool nE] 25) := ⟨_, rfl⟩
    obtain ⟨gV, hg⟩ : ∃ g, W115.heap.size = g := ⟨_, rfl⟩
    rw [← hW] at hV hxx ⊢
    rw [hg] at hV loV neDV neOV nePV neQV neRV neSV neTV neUV ⊢
    clear hW hg sV tV
    replace hD := hD.ext hxx
    replace hO := hO.ext hxx
    replace hP := hP.ext hxx
    replace hQ := hQ.ext hxx
    replace hR := hR.ext hxx
    replace hS := hS.ext hxx
    replace hT := hT.ext hxx
    replace hU := hU.ext hxx
    replace hX := hX.trans hxx
    clear hxx
    obtain ⟨AD, cD, BD, dD, bD, sD, tD⟩ := hD
    obtain ⟨b0, b1, b2, b3, bf, bl⟩ := bD
    go_wp2_with fail
    refine (HH.out.2.2.2.2.2.2.2.1 AD cD BD dD W116 sD tD).mono ?_
    rintro e W117 ⟨AZ, cZ, BZ, dZ, rfl, sZ, tZ, hxx⟩
    have hD := DV.mk (Box4.mk b0 b1 b2 b3 bf bl) sD tD
    clear b0 b1 b2 b3 bf bl
    go_upto_region 12 with fail
    have hZ := DV.new W117 mE qE lE nE AZ cZ BZ dZ 25 sZ tZ
    have neDZ : gD ≠ W117.heap.size := Nat.ne_of_lt (Nat.lt_of_lt_of_le hD.lt hxx.size)
    have neOZ : gO ≠ W117.heap.size := Nat.ne_of_lt (Nat.lt_of_lt_of_le hO.lt hxx.size)
    have nePZ : gP ≠ W117.heap.size := Nat.ne_of_lt (Nat.lt_of_lt_of_le hP.lt hxx.size)
    have neQZ : gQ ≠ W117.heap.size := Nat.ne_of_lt (Nat.lt_of_lt_of_le hQ.lt hxx.size)
    have neRZ : gR ≠ W117.heap.size := Nat.ne_of_lt (Nat.lt_of_lt_of_le hR.lt hxx.size)
    have neSZ : gS ≠ W117.heap.size := Nat.ne_of_lt (Nat.lt_of_lt_of_le hS.lt hxx.size)
    have neTZ : gT ≠ W117.heap.size := Nat.ne_of_lt (Nat.lt_of_lt_of_le hT.lt hxx.size)
    have neUZ : gU ≠ W117.heap.size := Nat.ne_of_lt (Nat.lt_of_lt_of_le hU.lt hxx.size)
    have neVZ : gV ≠ W117.heap.size := Nat.ne_of_lt (Nat.lt_of_lt_of_le hV.lt hxx.size)
    have loZ := Nat.le_trans hX.size hxx.size
    replace hxx := Ext.trans hxx ((Ext.refl W117).alloc (Obj.cells #[.slice AZ mE.length cZ, .slice BZ qE.length dZ, .int .i64 lE, .bool nE] 25))
    obtain ⟨W118, hW⟩ : ∃ W, W = W117.alloc (Obj.cells #[.slice AZ mE.length cZ, .slice BZ qE.length dZ, .int .i64 lE, .bool nE] 25) := ⟨_, rfl⟩
    obtain ⟨gZ, hg⟩ : ∃ g, W117.heap.size = g := ⟨_, rfl⟩
    rw [← hW] at hZ hxx ⊢
    rw [hg] at hZ loZ neDZ neOZ nePZ neQZ neRZ neSZ neTZ neUZ neVZ ⊢
    clear hW hg sZ tZ
    replace hD := hD.ext hxx
    replace hO := hO.ext hxx
    replace hP := hP.ext hxx
    replace hQ := hQ.ext hxx
    replace hR := hR.ext hxx
    replace hS := hS.ext hxx
    replace hT := hT.ext hxx
    replace hU := hU.ext hxx
    replace hV := hV.ext hxx
    replace hX := hX.trans hxx
    clear hxx
    obtain ⟨AP, cP, BP, dP, bP, sP, tP⟩ := hP
    obtain ⟨b0, b1, b2, b3, bf, bl⟩ := bP
    obtain ⟨AQ, cQ, BQ, dQ, bQ, sQ, tQ⟩ := hQ
    obtain ⟨o0, o1, o2, o3, of, ol⟩ := bQ
    go_wp2_with fail
    refine (dSame_yes mN qN lN nN AP cP BP dP AQ cQ BQ dQ W118 sP tP sQ tQ).mono ?_
    rintro e W119 ⟨rfl, hxx⟩
    have hP := DV.mk (Box4.mk b0 b1 b2 b3 bf bl) sP tP
    clear b0 b1 b2 b3 bf bl
    have hQ := DV.mk (Box4.mk o0 o1 o2 o3 of ol) sQ tQ
    clear o0 o1 o2 o3 of ol
    replace hD := hD.ext hxx
    replace hO := hO.ext hxx
    replace hP := hP.ext hxx
    replace hQ := hQ.ext hxx
    replace hR := hR.ext hxx
    replace hS := hS.ext hxx
    replace hT := hT.ext hxx
    replace hU := hU.ext hxx
    replace hV := hV.ext hxx
    replace hZ := hZ.ext hxx
    replace hX := hX.trans hxx
    clear hxx
    obtain ⟨AR, cR, BR, dR, bR, sR, tR⟩ := hR
    obtain ⟨b0, b1, b2, b3, bf, bl⟩ := bR
    obtain ⟨AS, cS, BS, dS, bS, sS, tS⟩ := hS
    obtain ⟨o0, o1, o2, o3, of, ol⟩ := bS
    go_wp2_with fail
    refine (dSame_yes mS qS lS nS AR cR BR dR AS cS BS dS W119 sR tR sS tS).mono ?_
    rintro e W120 ⟨rfl, hxx⟩
    have hR := DV.mk (Box4.mk b0 b1 b2 b3 bf bl) sR tR
    clear b0 b1 b2 b3 bf bl
    have hS := DV.mk (Box4.mk o0 o1 o2 o3 of ol) sS tS
    clear o0 o1 o2 o3 of ol
    replace hD := hD.ext hxx
    replace hO := hO.ext hxx
    replace hP := hP.ext hxx
    replace hQ := hQ.ext hxx
    replace hR := hR.ext hxx
    replace hS := hS.ext hxx
    replace hT := hT.ext hxx
    replace hU := hU.ext hxx
    replace hV := hV.ext hxx
    replace hZ := hZ.ext hxx
    replace hX := hX.trans hxx
    clear hxx
    obtain ⟨AT, cT, BT, dT, bT, sT, tT⟩ := hT
    obtain ⟨b0, b1, b2, b3, bf, bl⟩ := bT
    obtain ⟨AU, cU, BU, dU, bU, sU, tU⟩ := hU
    obtain ⟨o0, o1, o2, o3, of, ol⟩ := bU
    go_wp2_with fail
    refine (dSame_yes mF qF lF nF AT cT BT dT AU cU BU dU W120 sT tT sU tU).mono ?_
    rintro e W121 ⟨rfl, hxx⟩
    have hT := DV.mk (Box4.mk b0 b1 b2 b3 bf bl) sT tT
    clear b0 b1 b2 b3 bf bl
    have hU := DV.mk (Box4.mk o0 o1 o2 o3 of ol) sU tU
    clear o0 o1 o2 o3 of ol
    replace hD := hD.ext hxx
    replace hO := hO.ext hxx
    replace hP := hP.ext hxx
    replace hQ := hQ.ext hxx
    replace hR := hR.ext hxx
    replace hS := hS.ext hxx
    replace hT := hT.ext hxx
    replace hU := hU.ext hxx
    replace hV := hV.ext hxx
    replace hZ := hZ.ext hxx
    replace hX := hX.trans hxx
    clear hxx
    obtain ⟨AV, cV, BV, dV, bV, sV, tV⟩ := hV
    obtain ⟨b0, b1, b2, b3, bf, bl⟩ := bV
    obtain ⟨AZ, cZ, BZ, dZ, bZ, sZ, tZ⟩ := hZ
    obtain ⟨o0, o1, o2, o3, of, ol⟩ := bZ
    go_wp2_with fail
    refine (dSame_yes mE qE lE nE AV cV BV dV AZ cZ BZ dZ W121 sV tV sZ tZ).mono ?_
    rintro e W122 ⟨rfl, hxx⟩
    have hV := DV.mk (Box4.mk b0 b1 b2 b3 bf bl) sV tV
    clear b0 b1 b2 b3 bf bl
    have hZ := DV.mk (Box4.mk o0 o1 o2 o3 of ol) sZ tZ
    clear o0 o1 o2 o3 of ol
    replace hD := hD.ext hxx
    replace hO := hO.ext hxx
    replace hP := hP.ext hxx
    replace hQ := hQ.ext hxx
    replace hR := hR.ext hxx
    replace hS := hS.ext hxx
    replace hT := hT.ext hxx
    replace hU := hU.ext hxx
    replace hV := hV.ext hxx
    replace hZ := hZ.ext hxx
    replace hX := hX.trans hxx
    clear hxx
    obtain ⟨AO, cO, BO, dO, bO, sO, tO⟩ := hO
    obtain ⟨b0, b1, b2, b3, bf, bl⟩ := bO
    obtain ⟨AD, cD, BD, dD, bD, sD, tD⟩ := hD
    obtain ⟨o0, o1, o2, o3, of, ol⟩ := bD
    go_wp2_with fail
    refine (dSame_yes m q left down AO cO BO dO AD cD BD dD W122 sO tO sD tD).mono ?_
    rintro e W123 ⟨rfl, hxx⟩
    have hO := DV.mk (Box4.mk b0 b1 b2 b3 bf bl) sO tO
    clear b0 b1 b2 b3 bf bl
    have hD := DV.mk (Box4.mk o0 o1 o2 o3 of ol) sD tD
    clear o0 o1 o2 o3 of ol
    replace hD := hD.ext hxx
    replace hO := hO.ext hxx
    replace hP := hP.ext hxx
    replace hQ := hQ.ext hxx
    replace hR := hR.ext hxx
    replace hS := hS.ext hxx
    replace hT := hT.ext hxx
    replace hU := hU.ext hxx
    replace hV := hV.ext hxx
    replace hZ := hZ.ext hxx
    replace hX := hX.trans hxx
    clear hxx
    go_wp2_with fail
    go_ret
    exact ⟨rfl, hX⟩
set_option maxRecDepth 100000 in
theorem cacheStores_lifted (os : Os) (started : os.Started) (H : Type) (enc : TypeId × Value → H) :
    ReturnsInHanded {} Try.checked os 9 .any (Rows.cacheStoresSpec.pre6 enc Try.prog Try.f9 Rows.cacheStoresRow.domain false) (Rows.cacheStoresSpec.post enc Try.prog Try.f9 false true false false) := by
  refine returnsInHanded_of_change (C := Try.checked) own_knob started (by kernel_rfl) Try.func9
    (ChangeSpec.witness6 (enc := enc) (C := Try.checked) false ⟨#[], #[.agg #[.slice none 0 0, .slice none 0 0, .int .i64 0, .bool false], .int .i64 0, .int .u64 0], []⟩ 8 (by kernel_rfl) (by kernel_rfl) (by kernel_rfl) (by kernel_rfl)) ?_
  intro W base args ds gs before hval0 hW hcnd _
  have hval : ∀ (j : Nat) t v, Try.f9.params[j]? = some t → args[j]? = some v → Value.okWide Try.prog W .any base t v := hval0
  have hW' := hW
  obtain ⟨p, q, hA0, hV, rfl, hfz, hnd⟩ := hW
  have hA : DataW.TrodAll enc Try.prog W 0 (fun _ => true) true Try.f9.params.toList args.toList ds p := hA0
  rw [Try.params9] at hA hval
  obtain ⟨v0, vs0, d0, ds0, p0, q0, hargs, rfl, rfl, h0, r0⟩ := trodAll_cons hA
  obtain ⟨v1, vs1, d1, ds1, p1, q1, rfl, rfl, rfl, h1, r1⟩ := trodAll_cons r0
  obtain ⟨v2, vs2, d2, ds2, p2, q2, rfl, rfl, rfl, h2, r2⟩ := trodAll_cons r1
  obtain ⟨rfl, rfl, rfl⟩ := trodAll_nil r2
  obtain rfl : args = #[v0, v1, v2] := by cases args; simp_all
  obtain ⟨rfl, rfl⟩ := trodVars_none hV
  obtain ⟨A0, c0, m0, B0, k0, ds0, left0, down0, rfl, hS0, wA0, hB0, wB0, wl0⟩ := op_V (hval 0 25 v0 rfl rfl) h0
  obtain ⟨x1, rfl, wx1⟩ := op_i (hval 1 3 v1 rfl rfl) h1
  obtain ⟨x2, rfl, wx2⟩ := op_u (hval 2 26 v2 rfl rfl) h2
  clear hA0 hval0 hval hA
  refine (cacheStores_any m0 ds0 left0 down0 x1 x2 A0 c0 B0 k0 W hS0 hB0).mono fun e W' ⟨he, hx⟩ => ?_
  subst he
  exact ⟨_, rfl, post_law laid_out (by kernel_rfl) hW' rfl rfl rfl Try.underlying4 hx⟩
theorem cacheStores_holds : Rows.CacheStoresSaid :=
  OpenClaim.holds_of_wide 9 Try.f9 rfl rfl rfl rfl rfl rfl rfl ⟨rfl, rfl, rfl, rfl, rfl⟩ rfl rfl rfl rfl rfl (by kernel_rfl) Try.func9 (by kernel_rfl)
    (of_decide_eq_true (by kernel_rfl)) (by unfold Func.isWrapper; first | (rw [if_pos (by decide +kernel)]; kernel_rfl) | (rw [if_neg (by decide +kernel)]; exact ⟨rfl, rfl⟩))
    (fun os started H enc _ => cacheStores_lifted os started H enc)
end Go.Proofs.Ytmmcbleoglgamaa
