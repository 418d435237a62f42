/-
  The contracts of the reference's Replayed, Device and All.
-/
import Derived.Test.YtmkcpnklaijkfaaSameK
import Derived.Test.YtmkcpnklaijkfaaRPut
import Derived.BigQuiet
namespace Go.Proofs.Ytmkcpnklaijkfaa
open Go.RowKit
theorem RT.retW {w0 wr : World} {m : List Int} {q : List Dw} {left : Int} {down : Bool} (h : RT w0 wr w0.heap.size m q left down) {m' : List Int} {q' : List Dw} {A B : Option Addr} {c d : Nat} (hA : Sl wr A m'.length c (fU m')) (hB : Sl wr B q'.length d (fD q')) (nA : ∀ ad, A = some ad → w0.heap.size ≤ ad.block) (nB : ∀ ad, B = some ad → w0.heap.size ≤ ad.block) (l' : Int) (n' : Bool) :
    RetW w0 (m', q', l', n') (.returned (.agg #[.slice A m'.length c, .slice B q'.length d, .int .i64 l', .bool n'])) (setB wr (w0.heap.size + 1) (.slice A m'.length c) (.slice B q'.length d) (.int .i64 l') (.bool n')) :=
  ⟨A, c, B, d, rfl, hA.setB_U h.r _ _ _ _, hB.setB_D h.r _ _ _ _, nA, nB, h.x.setB (Nat.le_succ _) _ _ _ _⟩
set_option maxRecDepth 100000 in
set_option maxHeartbeats 1600000 in
theorem refReplayed_ok (m : List Int) (q : List Dw) (left : Int) (down : Bool) (l : List (Int × Int)) (A : Option Addr) (c : Nat) (B : Option Addr) (d : Nat) (E : Option Addr) (f : Nat) (w : World) (hA : Sl w A m.length c (fU m)) (hB : Sl w B q.length d (fD q)) (hE : Sl w E l.length f (fE l)) (hd : devB m q left down = true) (hk : chkE l m.length = 0) (wf : WfE l) :
    Calls Try.prog 94 #[.agg #[.slice A m.length c, .slice B q.length d, .int .i64 left, .bool down], .slice E l.length f] w (RetW w (runD (m, q, left, down) (repOps l))) := by
  have hP := RT.new w m q left down A c B d hA hB
  obtain ⟨hl, hr⟩ := rep_wf hk
  have hsz := sizeB_bd (devB_bd hd).1
  have h3 := fun A c B d W (ha : Sl W A m.length c (fU m)) (hb : Sl W B q.length d (fD q)) (he : Sl W E l.length f (fE l)) => refPut_ok m q left down l A c B d E f W ha hb he hd hr wf
  have hv := devB_run (left := left) (down := down) hd (putOps_in hr hsz.2.2 wf 256)
  obtain ⟨⟨m1, q1, l1, n1⟩, e1⟩ : ∃ D, runD (m, q, left, down) (putOps l 256) = D := ⟨_, rfl⟩
  rw [e1] at h3 hv
  have h24 : ∀ e ∈ [((24 : Int), (0 : Int))], 0 ≤ e.1 ∧ e.1 < (m1.length : Int) := fun e he => by
    simp at he; subst he
    have : m1.length = m.length := hv.2
    simp only; omega
  have h4 := fun A c B d E f W (ha : Sl W A m1.length c (fU m1)) (hb : Sl W B q1.length d (fD q1)) (he : Sl W E 1 f (fE [(24, 0)])) => refPut_ok m1 q1 l1 n1 [(24, 0)] A c B d E f W ha hb he hv.1 h24 wf24
  have e2 : runD (m, q, left, down) (repOps l) = runD (m1, q1, l1, n1) (putOps [(24, 0)] 256) := by unfold repOps; rw [runD_append, e1]
  rw [e2]
  obtain ⟨⟨m2, q2, l2, n2⟩, e3⟩ : ∃ D, runD (m1, q1, l1, n1) (putOps [(24, 0)] 256) = D := ⟨_, rfl⟩
  rw [e3] at h4 ⊢
  have HH := Lib.hid (And.intro h3 h4)
  clear h3 h4 e1 e2 e3 hv h24 hl hr hk hd hsz hA hB
  go_enter Try.func94, Try.ntmps94
  go_upto_region 1 with fail
  obtain ⟨W2, hW2⟩ : ∃ W, W = (w.alloc (Obj.cells #[.slice A m.length c, .slice B q.length d, .int .i64 left, .bool down] 46)).alloc (Obj.cells #[.slice none 0 0, .slice none 0 0, .int .i64 0, .bool false] 46) := ⟨_, rfl⟩
  rw [← hW2] at hP ⊢
  clear hW2
  have HP := Lib.hid hP
  obtain ⟨A1, c1, B1, d1, ⟨b0, b1, b2, b3, bf, bl⟩, sA, sB⟩ := hP.d
  have hX2 := hP.x
  clear hP
  go_wp2_with fail
  refine (HH.out.1 A1 c1 B1 d1 _ sA sB (hE.ext hX2)).mono ?_
  rintro e w3 ⟨A2, c2, B2, d2, rfl, sA2, sB2, -, -, hx3⟩
  clear b0 b1 b2 b3 bf bl sA sB
  go_wp2_with fail
  refine (HH.out.2 A2 c2 B2 d2 (some ⟨w3.heap.size, 0, none⟩) 1 _ (sA2.alloc _) (sB2.alloc _) (Sl.lit' _ _ _ 1 rfl (by decide))).mono ?_
  rintro e w7 ⟨A5, c5, B5, d5, rfl, sA5, sB5, nA, nB, hx7⟩
  have hx37 := hx3.trans (((Ext.refl w3).alloc _).trans hx7)
  have hsz := Ext.size (Ext.trans (Ext.trans hX2 hx3) ((Ext.refl w3).alloc (Obj.cells #[.int .i64 24, .int .u64 0] 38)))
  have hP := HP.out.ext hx37
  have HP7 := Lib.hid hP
  obtain ⟨r0, r1, r2, r3, rf, rl⟩ := hP.r
  have HS := Lib.hid (And.intro sA5 (And.intro sB5 (And.intro (fun ad h => Nat.le_trans hsz (nA ad h)) (fun ad h => Nat.le_trans hsz (nB ad h)))))
  clear hP HP sA5 sB5 nA nB sA2 sB2 hsz
  go_wp2_with fail
  refine bodyPost_ret (v := .agg #[.slice A5 m2.length c5, .slice B5 q2.length d5, .int .i64 l2, .bool n2]) (by simp [results, Try.results94, go_sem, r0, r1, r2, r3]) rfl ?_
  exact HP7.out.retW HS.out.1 HS.out.2.1 HS.out.2.2.1 HS.out.2.2.2 l2 n2
set_option maxRecDepth 100000 in
set_option maxHeartbeats 1600000 in
theorem refDev10_any (m : List Int) (q : List Dw) (left : Int) (down : Bool) (A : Option Addr) (c : Nat) (B : Option Addr) (d : Nat) (w : World) (hA : Sl w A m.length c (fU m)) (hB : Sl w B q.length d (fD q)) (wm : WfU m) (wd : WfD q) :
    Calls Try.prog 55 #[.agg #[.slice A m.length c, .slice B q.length d, .int .i64 left, .bool down]] w (RetV w (dvV m q left down) (dvE m q left down)) := by
  have hP := RT.new w m q left down A c B d hA hB
  have h1 := fun A c B d W (hb : Sl W B q.length d (fD q)) => dRefCk_any m q left down A c B d W hb
  cases hd : devB m q left down with
  | false =>
    have he : dvE m q left down = 8 := by simp [dvE, hd]
    rw [dvV, he, if_neg (by decide)]
    rw [devE_no hd] at h1
    have HH := Lib.hid h1
    clear h1 hd hA hB he
    go_enter Try.func55, Try.ntmps55
    go_upto_region 1 with fail
    obtain ⟨W2, hW2⟩ : ∃ W, W = (w.alloc (Obj.cells #[.slice A m.length c, .slice B q.length d, .int .i64 left, .bool down] 46)).alloc (Obj.cells #[.slice none 0 0, .slice none 0 0, .int .i64 0, .bool false] 46) := ⟨_, rfl⟩
    rw [← hW2] at hP ⊢
    clear hW2
    have HP := Lib.hid hP
    obtain ⟨A1, c1, B1, d1, ⟨b0, b1, b2, b3, bf, bl⟩, sA, sB⟩ := hP.d
    clear hP
    go_wp2_with fail
    refine (HH.out A1 c1 B1 d1 _ sB).mono ?_
    rintro e w3 ⟨rfl, hx3⟩
    clear b0 b1 b2 b3 bf bl sA sB
    have hP := HP.out.ext hx3
    have HP7 := Lib.hid hP
    obtain ⟨r0, r1, r2, r3, rf, rl⟩ := hP.r
    clear hP HP
    go_wp2_with fail
    refine bodyPost_ret (v := .tuple #[.agg #[.slice none 0 0, .slice none 0 0, .int .i64 0, .bool false], .int .i64 8]) (by simp [results, Try.results55, go_sem, r0, r1, r2, r3]) rfl ?_
    exact HP7.out.zero 8
  | true =>
    have he : dvE m q left down = crE (wrd m q) := by simp [dvE, hd]
    have hww := wfU_wrd wd wm
    have hwl := wrd_length q m
    have hsz := sizeB_bd (devB_bd hd).1
    have hql := dirty_le hd
    rw [devE_yes hd] at h1
    have h2 := fun A c B d W (ha : Sl W A m.length c (fU m)) (hb : Sl W B q.length d (fD q)) => dWords_any m q left down A c B d W ha hb hd
    have h3 := fun A c W (ha : Sl W A (wrd m q).length c (fU (wrd m q))) => refCRead_any (wrd m q) A c W ha hww
    rw [hwl] at h3
    by_cases h0 : crE (wrd m q) = 0
    · obtain ⟨hs, hk⟩ := cr_ok h0
      rw [hwl] at hk
      have hwe := crL_wf hww h0
      have h4 := fun A c B d E f W (ha : Sl W A m.length c (fU m)) (hb : Sl W B q.length d (fD q)) (he : Sl W E (crL (wrd m q)).length f (fE (crL (wrd m q)))) => refReplayed_ok m q left down (crL (wrd m q)) A c B d E f W ha hb he hd hk hwe
      have h5 := fun A c B d W (ha : Sl W A m.length c (fU m)) (hb : Sl W B q.length d (fD q)) => dRTwin_any m q left down A c B d W ha hb (by omega) (by omega)
      rw [dvV, he, h0, if_pos rfl]
      rw [h0] at h3
      obtain ⟨V, hV⟩ : ∃ V, wrd m q = V := ⟨_, rfl⟩
      rw [hV] at h2 h3 h4 ⊢
      obtain ⟨l, hl⟩ : ∃ l, crL V = l := ⟨_, rfl⟩
      rw [hl] at h3 h4 ⊢
      obtain ⟨⟨m1, q1, l1, n1⟩, eD⟩ : ∃ D, runD (m, q, left, down) (repOps l) = D := ⟨_, rfl⟩
      rw [eD] at h4 ⊢
      have HH := Lib.hid (And.intro h1 (And.intro h2 (And.intro h3 (And.intro h4 h5))))
      have kk : ((l.length : Int) == 0) = true ∧ (if l.length = 0 then (m, q, left, down) else (m1, q1, l1, n1)) = (m, q, left, down) ∨ ((l.length : Int) == 0) = false ∧ (if l.length = 0 then (m, q, left, down) else (m1, q1, l1, n1)) = (m1, q1, l1, n1) := by
        by_cases hn : l.length = 0
        · exact .inl ⟨by simp [hn], if_pos hn⟩
        · exact .inr ⟨by simpa using hn, if_neg hn⟩
      clear h1 h2 h3 h4 h5 hd hA hB he hwe hk hs h0 hV hl eD hql hsz hwl hww
      rcases kk with ⟨g1, g2⟩ | ⟨g1, g2⟩
      all_goals
        rw [g2]
        clear g2
        go_enter Try.func55, Try.ntmps55
        go_upto_region 1 with fail
        obtain ⟨W2, hW2⟩ : ∃ W, W = (w.alloc (Obj.cells #[.slice A m.length c, .slice B q.length d, .int .i64 left, .bool down] 46)).alloc (Obj.cells #[.slice none 0 0, .slice none 0 0, .int .i64 0, .bool false] 46) := ⟨_, rfl⟩
        rw [← hW2] at hP ⊢
        clear hW2
        have HP := Lib.hid hP
        obtain ⟨A1, c1, B1, d1, ⟨b0, b1, b2, b3, bf, bl⟩, sA, sB⟩ := hP.d
        clear hP
        go_wp2_with fail
        refine (HH.out.1 A1 c1 B1 d1 _ sB).mono ?_
        rintro e w3 ⟨rfl, hx3⟩
        clear b0 b1 b2 b3 bf bl sA sB
        have hP := HP.out.ext hx3
        obtain ⟨A2, c2, B2, d2, ⟨b0, b1, b2, b3, bf, bl⟩, sA, sB⟩ := hP.d
        clear hP
        go_wp2_with fail
        refine (HH.out.2.1 A2 c2 B2 d2 _ sA sB).mono ?_
        rintro e w4 ⟨AV, cV, rfl, -, hV, hx4⟩
        clear b0 b1 b2 b3 bf bl sA sB
        go_wp2_with fail
        refine (HH.out.2.2.1 AV cV w4 hV).mono ?_
        rintro e w5 ⟨AL, cL, rfl, hL, hx5⟩
        have hP := HP.out.ext (hx3.trans (hx4.trans hx5))
        have HP5 := Lib.hid hP
        obtain ⟨A3, c3, B3, d3, ⟨b0, b1, b2, b3, bf, bl⟩, sA, sB⟩ := hP.d
        clear hP HP hV
        go_wp2_with fail
      · refine (HH.out.2.2.2.2 A3 c3 B3 d3 _ sA sB).mono ?_
        rintro e w7 ⟨A5, c5, B5, d5, rfl, sA5, sB5, hx7⟩
        replace sA5 := own_sl4 sA5
        replace sB5 := own_sl4 sB5
        clear b0 b1 b2 b3 bf bl sA sB hL
        have hP := HP5.out.ext hx7
        have HP7 := Lib.hid hP
        obtain ⟨r0, r1, r2, r3, rf, rl⟩ := hP.r
        have HS := Lib.hid (And.intro sA5 sB5)
        clear hP HP5 sA5 sB5
        go_wp2_with fail
        refine bodyPost_ret (v := .tuple #[.agg #[.slice A5 m.length c5, .slice B5 q.length d5, .int .i64 left, .bool down], .int .i64 0]) (by simp [results, Try.results55, go_sem, r0, r1, r2, r3]) rfl ?_
        exact HP7.out.retV HS.out.1 HS.out.2 left down 0
      · refine (HH.out.2.2.2.1 A3 c3 B3 d3 AL cL _ sA sB hL).mono ?_
        rintro e w7 ⟨A5, c5, B5, d5, rfl, sA5, sB5, -, -, hx7⟩
        clear b0 b1 b2 b3 bf bl sA sB hL
        have hP := HP5.out.ext hx7
        have HP7 := Lib.hid hP
        obtain ⟨r0, r1, r2, r3, rf, rl⟩ := hP.r
        have HS := Lib.hid (And.intro sA5 sB5)
        clear hP HP5 sA5 sB5
        go_wp2_with fail
        refine bodyPost_ret (v := .tuple #[.agg #[.slice A5 m1.length c5, .slice B5 q1.length d5, .int .i64 l1, .bool n1], .int .i64 0]) (by simp [results, Try.results55, go_sem, r0, r1, r2, r3]) rfl ?_
        exact HP7.out.retV HS.out.1 HS.out.2 l1 n1 0
    · rw [dvV, he, if_neg h0]
      rw [crL_bad h0] at h3
      obtain ⟨V, hV⟩ : ∃ V, wrd m q = V := ⟨_, rfl⟩
      rw [hV] at h0 h2 h3 ⊢
      obtain ⟨er, her⟩ : ∃ er, crE V = er := ⟨_, rfl⟩
      rw [her] at h0 h3 ⊢
      have hb : (er != 0) = true := by simpa using h0
      have HH := Lib.hid (And.intro h1 (And.intro h2 h3))
      clear h1 h2 h3 hd hA hB he h0 hV her hql hsz hwl hww
      go_enter Try.func55, Try.ntmps55
      go_upto_region 1 with fail
      obtain ⟨W2, hW2⟩ : ∃ W, W = (w.alloc (Obj.cells #[.slice A m.length c, .slice B q.length d, .int .i64 left, .bool down] 46)).alloc (Obj.cells #[.slice none 0 0, .slice none 0 0, .int .i64 0, .bool false] 46) := ⟨_, rfl⟩
      rw [← hW2] at hP ⊢
      clear hW2
      have HP := Lib.hid hP
      obtain ⟨A1, c1, B1, d1, ⟨b0, b1, b2, b3, bf, bl⟩, sA, sB⟩ := hP.d
      clear hP
      go_wp2_with fail
      refine (HH.out.1 A1 c1 B1 d1 _ sB).mono ?_
      rintro e w3 ⟨rfl, hx3⟩
      clear b0 b1 b2 b3 bf bl sA sB
      have hP := HP.out.ext hx3
      obtain ⟨A2, c2, B2, d2, ⟨b0, b1, b2, b3, bf, bl⟩, sA, sB⟩ := hP.d
      clear hP
      go_wp2_with fail
      refine (HH.out.2.1 A2 c2 B2 d2 _ sA sB).mono ?_
      rintro e w4 ⟨AV, cV, rfl, -, hV, hx4⟩
      clear b0 b1 b2 b3 bf bl sA sB
      go_wp2_with fail
      refine (HH.out.2.2 AV cV w4 hV).mono ?_
      rintro e w5 ⟨AL, cL, rfl, hL, hx5⟩
      have hP := HP.out.ext (hx3.trans (hx4.trans hx5))
      have HP7 := Lib.hid hP
      obtain ⟨r0, r1, r2, r3, rf, rl⟩ := hP.r
      clear hP HP hV hL
      go_wp2_with fail
      refine bodyPost_ret (v := .tuple #[.agg #[.slice none 0 0, .slice none 0 0, .int .i64 0, .bool false], .int .i64 er]) (by simp [results, Try.results55, go_sem, r0, r1, r2, r3]) rfl ?_
      exact HP7.out.zero er
set_option maxRecDepth 100000 in
set_option maxHeartbeats 1600000 in
theorem refAll10_any (m : List Int) (q : List Dw) (left : Int) (down : Bool) (l : List (Int × Int)) (A : Option Addr) (c : Nat) (B : Option Addr) (d : Nat) (E : Option Addr) (f : Nat) (w : World) (hA : Sl w A m.length c (fU m)) (hB : Sl w B q.length d (fD q)) (hE : Sl w E l.length f (fE l)) (wf : WfE l) :
    Calls Try.prog 57 #[.agg #[.slice A m.length c, .slice B q.length d, .int .i64 left, .bool down], .slice E l.length f] w (RetV w (putV m q left down l) (putE m q left down l)) := by
  have hP := RT.new w m q left down A c B d hA hB
  have h1 := fun A c B d W (hb : Sl W B q.length d (fD q)) => dRefCk_any m q left down A c B d W hb
  have hlm := hE.max
  have hle := hE.le
  unfold maxLen at hlm
  cases hd : devB m q left down with
  | false =>
    have he : putE m q left down l = 8 := by simp [putE, hd]
    rw [putV, he, if_neg (by decide)]
    rw [devE_no hd] at h1
    have HH := Lib.hid h1
    clear h1 hd hA hB he
    go_enter Try.func57, Try.ntmps57
    go_upto_region 1 with fail
    obtain ⟨W2, hW2⟩ : ∃ W, W = (w.alloc (Obj.cells #[.slice A m.length c, .slice B q.length d, .int .i64 left, .bool down] 46)).alloc (Obj.cells #[.slice none 0 0, .slice none 0 0, .int .i64 0, .bool false] 46) := ⟨_, rfl⟩
    rw [← hW2] at hP ⊢
    clear hW2
    have HP := Lib.hid hP
    obtain ⟨A1, c1, B1, d1, ⟨b0, b1, b2, b3, bf, bl⟩, sA, sB⟩ := hP.d
    clear hP
    go_wp2_with fail
    refine (HH.out A1 c1 B1 d1 _ sB).mono ?_
    rintro e w3 ⟨rfl, hx3⟩
    clear b0 b1 b2 b3 bf bl sA sB
    have hP := HP.out.ext hx3
    have HP7 := Lib.hid hP
    obtain ⟨r0, r1, r2, r3, rf, rl⟩ := hP.r
    clear hP HP
    go_wp2_with fail
    refine bodyPost_ret (v := .tuple #[.agg #[.slice none 0 0, .slice none 0 0, .int .i64 0, .bool false], .int .i64 8]) (by simp [results, Try.results57, go_sem, r0, r1, r2, r3]) rfl ?_
    exact HP7.out.zero 8
  | true =>
    rw [devE_yes hd] at h1
    by_cases h64 : 64 < l.length
    · have he : putE m q left down l = 4 := by simp [putE, hd, h64]
      rw [putV, he, if_neg (by decide)]
      have hb : decide ((64 : Int) < (l.length : Int)) = true := decide_eq_true (by omega)
      have HH := Lib.hid h1
      clear h1 hd hA hB he h64
      go_enter Try.func57, Try.ntmps57
      go_upto_region 1 with fail
      obtain ⟨W2, hW2⟩ : ∃ W, W = (w.alloc (Obj.cells #[.slice A m.length c, .slice B q.length d, .int .i64 left, .bool down] 46)).alloc (Obj.cells #[.slice none 0 0, .slice none 0 0, .int .i64 0, .bool false] 46) := ⟨_, rfl⟩
      rw [← hW2] at hP ⊢
      clear hW2
      have HP := Lib.hid hP
      obtain ⟨A1, c1, B1, d1, ⟨b0, b1, b2, b3, bf, bl⟩, sA, sB⟩ := hP.d
      clear hP
      go_wp2_with fail
      refine (HH.out A1 c1 B1 d1 _ sB).mono ?_
      rintro e w3 ⟨rfl, hx3⟩
      clear b0 b1 b2 b3 bf bl sA sB
      have hP := HP.out.ext hx3
      have HP7 := Lib.hid hP
      obtain ⟨r0, r1, r2, r3, rf, rl⟩ := hP.r
      clear hP HP
      go_wp2_with fail
      refine bodyPost_ret (v := .tuple #[.agg #[.slice none 0 0, .slice none 0 0, .int .i64 0, .bool false], .int .i64 4]) (by simp [results, Try.results57, go_sem, r0, r1, r2, r3]) rfl ?_
      exact HP7.out.zero 4
    · have hb : decide ((64 : Int) < (l.length : Int)) = false := decide_eq_false (by omega)
      obtain ⟨er, her⟩ : ∃ er, putE m q left down l = er := ⟨_, rfl⟩
      obtain ⟨D, hD⟩ : ∃ D, putV m q left down l = D := ⟨_, rfl⟩
      have hno : inrB l m.length = false → er = 2 ∧ D = zeroV := fun hi => by
        have he : putE m q left down l = 2 := by simp [putE, hd, h64, hi]
        rw [← her, ← hD, putV, he, if_neg (by decide)]; exact ⟨rfl, rfl⟩
      have hyes : inrB l m.length = true → er = 0 ∧ ∀ A c B d W, Sl W A m.length c (fU m) → Sl W B q.length d (fD q) → Sl W E l.length f (fE l) → Calls Try.prog 99 #[.agg #[.slice A m.length c, .slice B q.length d, .int .i64 left, .bool down], .slice E l.length f] W (RetW W D) := fun hi => by
        have he : putE m q left down l = 0 := by simp [putE, hd, h64, hi]
        refine ⟨by rw [← her, he], ?_⟩
        rw [← hD, putV, if_pos he]
        exact fun A c B d W ha hb he => refPut_ok m q left down l A c B d E f W ha hb he hd (inrB_iff.1 hi) wf
      rw [her, hD]
      obtain ⟨m1, q1, l1, n1⟩ := D
      have HH := Lib.hid (And.intro h1 (And.intro hno hyes))
      have hl64 : l.length ≤ 64 := by omega
      clear h1 hno hyes hd hA hB h64 her hD
      go_enter Try.func57, Try.ntmps57
      go_upto_region 1 with fail
      obtain ⟨W2, hW2⟩ : ∃ W, W = (w.alloc (Obj.cells #[.slice A m.length c, .slice B q.length d, .int .i64 left, .bool down] 46)).alloc (Obj.cells #[.slice none 0 0, .slice none 0 0, .int .i64 0, .bool false] 46) := ⟨_, rfl⟩
      rw [← hW2] at hP ⊢
      clear hW2
      have HP := Lib.hid hP
      obtain ⟨A1, c1, B1, d1, ⟨b0, b1, b2, b3, bf, bl⟩, sA, sB⟩ := hP.d
      clear hP
      go_wp2_with fail
      refine (HH.out.1 A1 c1 B1 d1 _ sB).mono ?_
      rintro e w3 ⟨rfl, hx3⟩
      clear b0 b1 b2 b3 bf bl sA sB
      have HP3 := Lib.hid (HP.out.ext hx3)
      clear HP hx3
      go_wp2_with fail
      go_loopw [6] (fun i wr => ∃ k : Nat, k ≤ l.length ∧ i = .int .i64 k ∧ Ext w3 wr ∧ Hid (inrB (l.take k) m.length = true)) (fun i _ => l.length - (intOf i).toNat)
      case atStart => exact ⟨0, Nat.zero_le _, rfl, Ext.refl _, Lib.hid rfl⟩
      case round =>
        obtain ⟨k, hk, rfl, hxk, hI⟩ := hrel
        by_cases hlt : k < l.length
        · obtain ⟨A1, c1, B1, d1, ⟨b0, b1, b2, b3, bf, bl⟩, -, -⟩ := (HP3.out.ext hxk).d
          obtain ⟨ad, x, rfl, hat, g0, g1⟩ := (hE.ext (HP3.out.x.trans hxk)).e_at (k := k) hlt
          have HAT := Lib.hid hat
          clear hat
          by_cases hx : 0 ≤ x.1 ∧ x.1 < m.length
          · obtain ⟨x0, x1⟩ := hx
            have HX := Lib.hid (And.intro x0 x1)
            have d1 : decide (x.1 < 0) = false := decide_eq_false (by omega)
            have d2 : decide ((m.length : Int) ≤ x.1) = false := decide_eq_false (by omega)
            go_wp2_with fail
            go_quiet (fail)
            all_goals
              go_wp2_with fail
              go_roundw
              case rel => exact ⟨k + 1, by omega, by go_num, hxk.trans (by first | exact (drew_N _ _).ext | exact (drew_1 _).ext | exact Ext.refl _), Lib.hid (inrB_take HAT.out hI.out HX.out)⟩
              case measure => simp [intOf]; omega
          · have hnot : inrB l m.length = false := by
              cases hi : inrB l m.length with
              | false => rfl
              | true => exact absurd (inrB_iff.1 hi x (List.mem_of_getElem? HAT.out)) hx
            have HE := Lib.hid (HH.out.2.1 hnot)
            clear hnot
            obtain ⟨r0, r1, r2, r3, rf, rl⟩ := (HP3.out.ext hxk).r
            have rf0 := rf 0
            have rf1 := rf 1
            have rf2 := rf 2
            have rf3 := rf 3
            by_cases x0 : x.1 < 0
            · have d1 : decide (x.1 < 0) = true := decide_eq_true x0
              clear hx
              go_wp2_with fail
              go_quiet (fail)
              all_goals
                go_wp2_with fail
                refine bodyPost_ret (v := .tuple #[.agg #[.slice none 0 0, .slice none 0 0, .int .i64 0, .bool false], .int .i64 2]) (by simp [results, Try.results57, go_sem, r0, r1, r2, r3]) rfl ?_
                rw [HE.out.1, HE.out.2]
                exact (HP3.out.ext (hxk.trans (by first | exact (drew_N _ _).ext | exact (drew_1 _).ext | exact Ext.refl _))).zero 2
            · have d1 : decide (x.1 < 0) = false := decide_eq_false x0
              have x2 : (m.length : Int) ≤ x.1 := by omega
              have d2 : decide ((m.length : Int) ≤ x.1) = true := decide_eq_true x2
              clear hx
              go_wp2_with fail
              go_quiet (fail)
              all_goals
                go_wp2_with fail
                refine bodyPost_ret (v := .tuple #[.agg #[.slice none 0 0, .slice none 0 0, .int .i64 0, .bool false], .int .i64 2]) (by simp [results, Try.results57, go_sem, r0, r1, r2, r3]) rfl ?_
                rw [HE.out.1, HE.out.2]
                exact (HP3.out.ext (hxk.trans (by first | exact (drew_N _ _).ext | exact (drew_1 _).ext | exact Ext.refl _))).zero 2
        · obtain rfl : k = l.length := by omega
          have hi := hI.out
          rw [List.take_length] at hi
          have HY := Lib.hid (HH.out.2.2 hi)
          have HP5 := Lib.hid (HP3.out.ext hxk)
          obtain ⟨A3, c3, B3, d3, ⟨b0, b1, b2, b3, bf, bl⟩, sA, sB⟩ := (HP3.out.ext hxk).d
          clear hi hI
          go_wp2_with fail
          refine (HY.out.2 A3 c3 B3 d3 _ sA sB (hE.ext HP5.out.x)).mono ?_
          rintro e w7 ⟨A5, c5, B5, d5, rfl, sA5, sB5, -, -, hx7⟩
          clear b0 b1 b2 b3 bf bl sA sB
          have hP := HP5.out.ext hx7
          have HP7 := Lib.hid hP
          obtain ⟨r0, r1, r2, r3, rf, rl⟩ := hP.r
          have HS := Lib.hid (And.intro sA5 sB5)
          clear hP HP5 sA5 sB5
          go_wp2_with fail
          refine bodyPost_ret (v := .tuple #[.agg #[.slice A5 m1.length c5, .slice B5 q1.length d5, .int .i64 l1, .bool n1], .int .i64 0]) (by simp [results, Try.results57, go_sem, r0, r1, r2, r3]) rfl ?_
          rw [HY.out.1]
          exact HP7.out.retV HS.out.1 HS.out.2 l1 n1 0
end Go.Proofs.Ytmkcpnklaijkfaa
