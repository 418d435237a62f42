/-
  The contract of replaying a device.
-/
import Derived.Test.YtmkcpnklaijkfaaImg10
import Derived.Test.YtmkcpnklaijkfaaPut3
import Derived.Test.YtmkcpnklaijkfaaRPut
namespace Go.Proofs.Ytmkcpnklaijkfaa
open Go.RowKit
/-- The operations of replaying a change. -/
def repOps (l : List (Int × Int)) : List Dop := putOps l 256 ++ putOps [(24, 0)] 256
def dvE (m : List Int) (q : List Dw) (left : Int) (down : Bool) : Int := if devB m q left down then crE (wrd m q) else 8
def dvV (m : List Int) (q : List Dw) (left : Int) (down : Bool) : Dev4 := if dvE m q left down = 0 then (if (crL (wrd m q)).length = 0 then (m, q, left, down) else runD (m, q, left, down) (repOps (crL (wrd m q)))) else zeroV
theorem RT.retV {w0 wr : World} {m : List Int} {q : List Dw} {left : Int} {down : Bool} (h : RT w0 wr w0.heap.size m q left down) {m' : List Int} {q' : List Dw} {A B : Option Addr} {c d : Nat} (hA : Sl wr A m'.length c (fU m')) (hB : Sl wr B q'.length d (fD q')) (l' : Int) (n' : Bool) (er : Int) :
    RetV w0 (m', q', l', n') er (.returned (.tuple #[.agg #[.slice A m'.length c, .slice B q'.length d, .int .i64 l', .bool n'], .int .i64 er])) (setB wr (w0.heap.size + 1) (.slice A m'.length c) (.slice B q'.length d) (.int .i64 l') (.bool n')) :=
  ⟨A, c, B, d, rfl, hA.setB_U h.r _ _ _ _, hB.setB_D h.r _ _ _ _, h.x.setB (Nat.le_succ _) _ _ _ _⟩
theorem RT.zero {w0 wr : World} {m : List Int} {q : List Dw} {left : Int} {down : Bool} (h : RT w0 wr w0.heap.size m q left down) (er : Int) :
    RetV w0 zeroV er (.returned (.tuple #[.agg #[.slice none 0 0, .slice none 0 0, .int .i64 0, .bool false], .int .i64 er])) (setB wr (w0.heap.size + 1) (.slice none 0 0) (.slice none 0 0) (.int .i64 0) (.bool false)) :=
  retV_zero (h.x.setB (Nat.le_succ _) _ _ _ _)
theorem RT.new (w : World) (m : List Int) (q : List Dw) (left : Int) (down : Bool) (A : Option Addr) (c : Nat) (B : Option Addr) (d : Nat) (hA : Sl w A m.length c (fU m)) (hB : Sl w B q.length d (fD q)) :
    RT w ((w.alloc (Obj.cells #[.slice A m.length c, .slice B q.length d, .int .i64 left, .bool down] 46)).alloc (Obj.cells #[.slice none 0 0, .slice none 0 0, .int .i64 0, .bool false] 46)) w.heap.size m q left down :=
  ⟨(DV.new w m q left down A c B d 46 hA hB).ext ((Ext.refl _).alloc _), Box4.new' _ _ (by simp) _ _ _ _ _, ((Ext.refl w).alloc _).alloc _, Nat.le_refl _⟩
theorem wf24 : WfE [(24, 0)] := by unfold WfE InI InU; decide
theorem rep_wf {n : Int} {l : List (Int × Int)} (h : chkE l n = 0) : l.length ≤ 64 ∧ ∀ e ∈ l, 0 ≤ e.1 ∧ e.1 < n := by
  obtain ⟨hs, hl, hm, _⟩ := chk_iff.1 h
  exact ⟨by omega, fun e he => by have := mayB_bd (hm e he); omega⟩
set_option maxRecDepth 100000 in
set_option maxHeartbeats 6400000 in
theorem dev10_yes (m : List Int) (q : List Dw) (left : Int) (down : Bool) (A : Option Addr) (c : Nat) (B : Option Addr) (d : Nat) (w : World) (hA : Sl w A m.length c (fU m)) (hB : Sl w B q.length d (fD q)) (wm : WfU m) (wd : WfD q) (hd : devB m q left down = true) (h0 : crE (wrd m q) = 0) (hn : (crL (wrd m q)).length ≠ 0) :
    Calls Try.prog 30 #[.agg #[.slice A m.length c, .slice B q.length d, .int .i64 left, .bool down]] w (RetV w (runD (m, q, left, down) (repOps (crL (wrd m q)))) 0) := by
  have hP := RT.new w m q left down A c B d hA hB
  obtain ⟨hs, hk⟩ := cr_ok h0
  have hwl := wrd_length q m
  have hww := wfU_wrd wd wm
  have hwe := crL_wf hww h0
  rw [hwl] at hk
  obtain ⟨hl, hr⟩ := rep_wf hk
  have hsz := sizeB_bd (devB_bd hd).1
  have h1 := fun A c B d W (ha : Sl W A m.length c (fU m)) (hb : Sl W B q.length d (fD q)) => dView_ok hd A c B d W ha hb
  have h2 := fun A c W (ha : Sl W A (wrd m q).length c (fU (wrd m q))) => commitRead_any (wrd m q) A c W ha hww
  rw [h0] at h2
  have h3 := fun A c B d E f W (ha : Sl W A m.length c (fU m)) (hb : Sl W B q.length d (fD q)) (he : Sl W E (crL (wrd m q)).length f (fE (crL (wrd m q)))) => put_ok m q left down (crL (wrd m q)) A c B d E f W ha hb he hd hl hr hwe
  have hv := devB_run (left := left) (down := down) hd (putOps_in hr hsz.2.2 hwe 256)
  obtain ⟨l, hle⟩ : ∃ l, crL (wrd m q) = l := ⟨_, rfl⟩
  rw [hle] at h2 h3 hv hn ⊢
  obtain ⟨⟨m1, q1, l1, n1⟩, e1⟩ : ∃ D, runD (m, q, left, down) (putOps l 256) = D := ⟨_, rfl⟩
  rw [e1] at h3 hv
  have h24 : ∀ e ∈ [((24 : Int), (0 : Int))], 0 ≤ e.1 ∧ e.1 < (m1.length : Int) := fun e he => by
    simp at he; subst he
    have : m1.length = m.length := hv.2
    simp only; omega
  have h4 := fun A c B d E f W (ha : Sl W A m1.length c (fU m1)) (hb : Sl W B q1.length d (fD q1)) (he : Sl W E 1 f (fE [(24, 0)])) => put_ok m1 q1 l1 n1 [(24, 0)] A c B d E f W ha hb he hv.1 (by decide) h24 wf24
  have e2 : runD (m, q, left, down) (repOps l) = runD (m1, q1, l1, n1) (putOps [(24, 0)] 256) := by unfold repOps; rw [runD_append, e1]
  rw [e2]
  obtain ⟨⟨m2, q2, l2, n2⟩, e3⟩ : ∃ D, runD (m1, q1, l1, n1) (putOps [(24, 0)] 256) = D := ⟨_, rfl⟩
  rw [e3] at h4 ⊢
  obtain ⟨V, hV⟩ : ∃ V, wrd m q = V := ⟨_, rfl⟩
  rw [hV] at h1 h2
  have hne0 : ((l.length : Int) == 0) = false := by simpa using hn
  have HH := Lib.hid (And.intro h1 (And.intro h2 (And.intro h3 h4)))
  clear h1 h2 h3 h4 e1 e2 e3 hv h24 hl hr hwe hle hV hk hs h0 hn hd hww hwl hsz hA hB
  go_enter Try.func30, Try.ntmps30
  go_upto_region 1 with fail
  obtain ⟨W2, hW2⟩ : ∃ W, W = (w.alloc (Obj.cells #[.slice A m.length c, .slice B q.length d, .int .i64 left, .bool down] 46)).alloc (Obj.cells #[.slice none 0 0, .slice none 0 0, .int .i64 0, .bool false] 46) := ⟨_, rfl⟩
  rw [← hW2] at hP ⊢
  clear hW2
  have HP := Lib.hid hP
  obtain ⟨A1, c1, B1, d1, ⟨b0, b1, b2, b3, bf, bl⟩, sA, sB⟩ := hP.d
  clear hP
  go_wp2_with fail
  refine (HH.out.1 A1 c1 B1 d1 _ sA sB).mono ?_
  rintro e w3 ⟨AV, cV, rfl, -, hV, hx3⟩
  go_wp2_with fail
  refine (HH.out.2.1 AV cV w3 hV).mono ?_
  rintro e w4 ⟨AL, cL, rfl, hL, hx4⟩
  clear b0 b1 b2 b3 bf bl sA sB hV
  have hP := HP.out.ext (hx3.trans hx4)
  have HP4 := Lib.hid hP
  obtain ⟨A1, c1, B1, d1, ⟨b0, b1, b2, b3, bf, bl⟩, sA, sB⟩ := hP.d
  clear hP HP
  go_wp2_with fail
  refine (HH.out.2.2.1 A1 c1 B1 d1 AL cL w4 sA sB hL).mono ?_
  rintro e w5 ⟨A2, c2, B2, d2, rfl, sA2, sB2, hx5⟩
  clear b0 b1 b2 b3 bf bl sA sB hL
  have hP := HP4.out.ext hx5
  have HP5 := Lib.hid (hP.set sA2 sB2 l1 n1)
  obtain ⟨A3, c3, B3, d3, ⟨b0, b1, b2, b3, bf, bl⟩, -, -⟩ := hP.d
  clear hP HP4 sA2 sB2
  go_upto_region 12 with fail
  clear b0 b1 b2 b3 bf bl
  obtain ⟨W6, hW6⟩ : ∃ W, W = setB w5 w.heap.size (.slice A2 m1.length c2) (.slice B2 q1.length d2) (.int .i64 l1) (.bool n1) := ⟨_, rfl⟩
  rw [show ((((w5.setCell ⟨w.heap.size, 0, none⟩ (.slice A2 m1.length c2)).setCell ⟨w.heap.size, 1, none⟩ (.slice B2 q1.length d2)).setCell ⟨w.heap.size, 2, none⟩ (.int .i64 l1)).setCell ⟨w.heap.size, 3, none⟩ (.bool n1)) = setB w5 w.heap.size (.slice A2 m1.length c2) (.slice B2 q1.length d2) (.int .i64 l1) (.bool n1) from rfl, ← hW6]
  have hP := HP5.out
  rw [← hW6] at hP
  clear hW6 HP5
  have HP6 := Lib.hid hP
  obtain ⟨A4, c4, B4, d4, ⟨b0, b1, b2, b3, bf, bl⟩, sA, sB⟩ := hP.d
  clear hP
  go_wp2_with fail
  refine (HH.out.2.2.2 A4 c4 B4 d4 (some ⟨W6.heap.size, 0, none⟩) 1 _ (sA.alloc _) (sB.alloc _) (Sl.lit' _ _ _ 1 rfl (by decide))).mono ?_
  rintro e w7 ⟨A5, c5, B5, d5, rfl, sA5, sB5, hx7⟩
  clear b0 b1 b2 b3 bf bl sA sB
  have hP := HP6.out.ext (((Ext.refl W6).alloc _).trans hx7)
  have HP7 := Lib.hid hP
  obtain ⟨r0, r1, r2, r3, rf, rl⟩ := hP.r
  have HS := Lib.hid (And.intro sA5 sB5)
  clear hP HP6 sA5 sB5
  go_wp2_with fail
  refine bodyPost_ret (v := .tuple #[.agg #[.slice A5 m2.length c5, .slice B5 q2.length d5, .int .i64 l2, .bool n2], .int .i64 0]) (by simp [results, Try.results30, go_sem, r0, r1, r2, r3]) rfl ?_
  exact HP7.out.retV HS.out.1 HS.out.2 l2 n2 0
end Go.Proofs.Ytmkcpnklaijkfaa
