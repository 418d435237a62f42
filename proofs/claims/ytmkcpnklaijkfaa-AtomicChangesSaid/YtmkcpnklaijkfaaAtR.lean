/-
  The contracts of chapter 12's reference.
-/
import Derived.Test.YtmkcpnklaijkfaaAtO
import Derived.Test.YtmkcpnklaijkfaaRDev10
import Derived.RegionTactic
namespace Go.Proofs.Ytmkcpnklaijkfaa
open Go.RowKit
/-- The call returned a device alone. -/
def RetX (w0 : World) (D : Dev4) (en : Ending) (w' : World) : Prop :=
  ∃ A c B k, en = .returned (.agg #[.slice A D.1.length c, .slice B D.2.1.length k, .int .i64 D.2.2.1, .bool D.2.2.2]) ∧ Sl w' A D.1.length c (fU D.1) ∧ Sl w' B D.2.1.length k (fD D.2.1) ∧ Ext w0 w'
theorem RT.retX {w0 wr : World} {m : List Int} {q : List Dw} {left : Int} {down : Bool} (h : RT w0 wr w0.heap.size m q left down) {m' : List Int} {q' : List Dw} {A B : Option Addr} {c d : Nat} (hA : Sl wr A m'.length c (fU m')) (hB : Sl wr B q'.length d (fD q')) (l' : Int) (n' : Bool) :
    RetX w0 (m', q', l', n') (.returned (.agg #[.slice A m'.length c, .slice B q'.length d, .int .i64 l', .bool n'])) (setB wr (w0.heap.size + 1) (.slice A m'.length c) (.slice B q'.length d) (.int .i64 l') (.bool n')) :=
  ⟨A, c, B, d, rfl, hA.setB_U h.r _ _ _ _, hB.setB_D h.r _ _ _ _, h.x.setB (Nat.le_succ _) _ _ _ _⟩
set_option maxRecDepth 100000 in
set_option maxHeartbeats 1600000 in
theorem refMade_none (m : List Int) (q : List Dw) (left : Int) (down : Bool) (l : List (Int × Int)) (A : Option Addr) (c : Nat) (B : Option Addr) (d : Nat) (E : Option Addr) (f : Nat) (w : World) (hA : Sl w A m.length c (fU m)) (hB : Sl w B q.length d (fD q)) (hd : devB m q left down = true) (hn : l.length = 0) :
    Calls Try.prog 91 #[.agg #[.slice A m.length c, .slice B q.length d, .int .i64 left, .bool down], .slice E l.length f] w (RetX w (m, q, left, down)) := by
  have hP := RT.new w m q left down A c B d hA hB
  have hsz := sizeB_bd (devB_bd hd).1
  have hql := dirty_le hd
  have h5 := fun A c B d W (ha : Sl W A m.length c (fU m)) (hb : Sl W B q.length d (fD q)) => dRTwin_any m q left down A c B d W ha hb (by omega) (by omega)
  have hb : ((l.length : Int) == 0) = true := by rw [hn]; rfl
  have HH := Lib.hid h5
  clear h5 hd hA hB hsz hql hn
  go_enter Try.func91, Try.ntmps91
  go_upto_region 1 with fail
  obtain ⟨W2, hW2⟩ : ∃ W, W = (w.alloc (Obj.cells #[.slice A m.length c, .slice B q.length d, .int .i64 left, .bool down] 46)).alloc (Obj.cells #[.slice none 0 0, .slice none 0 0, .int .i64 0, .bool false] 46) := ⟨_, rfl⟩
  rw [← hW2] at hP ⊢
  clear hW2
  have HP := Lib.hid hP
  obtain ⟨A1, c1, B1, d1, ⟨b0, b1, b2, b3, bf, bl⟩, sA, sB⟩ := hP.d
  clear hP
  go_wp2_with fail
  refine (HH.out A1 c1 B1 d1 _ sA sB).mono ?_
  rintro e w7 ⟨A5, c5, B5, d5, rfl, sA5, sB5, hx7⟩
  replace sA5 := own_sl4 sA5
  replace sB5 := own_sl4 sB5
  clear b0 b1 b2 b3 bf bl sA sB
  have hP := HP.out.ext hx7
  have HP7 := Lib.hid hP
  obtain ⟨r0, r1, r2, r3, rf, rl⟩ := hP.r
  have HS := Lib.hid (And.intro sA5 sB5)
  clear hP HP sA5 sB5
  go_wp2_with fail
  refine bodyPost_ret (v := .agg #[.slice A5 m.length c5, .slice B5 q.length d5, .int .i64 left, .bool down]) (by simp [results, Try.results91, go_sem, r0, r1, r2, r3]) rfl ?_
  exact HP7.out.retX HS.out.1 HS.out.2 left down
set_option maxRecDepth 100000 in
set_option maxHeartbeats 1600000 in
theorem refMade_ok (m : List Int) (q : List Dw) (left : Int) (down : Bool) (l : List (Int × Int)) (A : Option Addr) (c : Nat) (B : Option Addr) (d : Nat) (E : Option Addr) (f : Nat) (w : World) (hA : Sl w A m.length c (fU m)) (hB : Sl w B q.length d (fD q)) (hE : Sl w E l.length f (fE l)) (hd : devB m q left down = true) (hk : chkE l m.length = 0) (hn : l.length ≠ 0) (wf : WfE l) :
    Calls Try.prog 91 #[.agg #[.slice A m.length c, .slice B q.length d, .int .i64 left, .bool down], .slice E l.length f] w (RetX w (runD (m, q, left, down) (chOps l))) := by
  have hP := RT.new w m q left down A c B d hA hB
  obtain ⟨hs, hl, hmb, _⟩ := chk_iff.1 hk
  have hsz := sizeB_bd hs
  have hsm := (chk_small hk).1
  have hll := listed_length l
  have hb : ((l.length : Int) == 0) = false := by simpa using hn
  have k1 : ∀ W, Sl W E l.length f (fE l) → Calls Try.prog 114 #[.slice E l.length f] W (RetOwn W 38 2 (2 * l.length) (fE (jrn l))) := fun W h => by
    have := journal12_any l E f W h hsm (by omega)
    unfold jrn
    rw [hll] at this ⊢
    exact this
  have hv1 := devB_run (left := left) (down := down) hd (putOps_in (fun e he => by have := jrn_mem he hl; omega) hsz.2.2 (jrn_wf hk wf) 256)
  have k2 : ∀ A c B d E f W, Sl W A m.length c (fU m) → Sl W B q.length d (fD q) → Sl W E (2 * l.length) f (fE (jrn l)) → Calls Try.prog 99 #[.agg #[.slice A m.length c, .slice B q.length d, .int .i64 left, .bool down], .slice E (2 * l.length) f] W (RetW W (runD (m, q, left, down) (putOps (jrn l) 256))) := fun A c B d E f W ha hb he => by
    have := refPut_ok m q left down (jrn l) A c B d E f W ha hb (by rw [jrn_length]; exact he) hd (fun e he => by have := jrn_mem he hl; omega) (jrn_wf hk wf)
    rw [jrn_length] at this
    exact this
  obtain ⟨⟨m1, q1, l1, n1⟩, e1⟩ : ∃ D, runD (m, q, left, down) (putOps (jrn l) 256) = D := ⟨_, rfl⟩
  rw [e1] at hv1 k2
  have hm1 : m1.length = m.length := hv1.2
  have hc := cword_in hl
  have hr2 : ∀ e ∈ [((24 : Int), cword l)], 0 ≤ e.1 ∧ e.1 < (m1.length : Int) := fun e he => by
    simp at he; subst he; simp only; omega
  have hw2 : WfE [((24 : Int), cword l)] := fun e he => by simp at he; subst he; exact ⟨by unfold InI; simp only; omega, by unfold InU; simp only; omega⟩
  have hv2 := devB_run (left := l1) (down := n1) hv1.1 (putOps_in hr2 (by omega) hw2 256)
  have k3 := fun W (h : Sl W E l.length f (fE l)) => refOf_any l E f W h hsm (by omega) wf
  have k4 := fun A c B d E f W (ha : Sl W A m1.length c (fU m1)) (hb : Sl W B q1.length d (fD q1)) (he : Sl W E 1 f (fE [(24, cword l)])) => refPut_ok m1 q1 l1 n1 [(24, cword l)] A c B d E f W ha hb he hv1.1 hr2 hw2
  obtain ⟨⟨m2, q2, l2, n2⟩, e2⟩ : ∃ D, runD (m1, q1, l1, n1) (putOps [(24, cword l)] 256) = D := ⟨_, rfl⟩
  rw [e2] at hv2 k4
  have hm2 : m2.length = m.length := hv2.2.trans hm1
  have k5 := fun A c B d W (ha : Sl W A m2.length c (fU m2)) (hb : Sl W B q2.length d (fD q2)) (he : Sl W E l.length f (fE l)) => refReplayed_ok m2 q2 l2 n2 l A c B d E f W ha hb he hv2.1 (by rw [hm2]; exact hk) wf
  have eD : runD (m, q, left, down) (chOps l) = runD (m2, q2, l2, n2) (repOps l) := by
    unfold chOps
    rw [runD_append, e1, runD_append, e2]
  rw [eD]
  obtain ⟨⟨m3, q3, l3, n3⟩, e3⟩ : ∃ D, runD (m2, q2, l2, n2) (repOps l) = D := ⟨_, rfl⟩
  rw [e3] at k5 ⊢
  obtain ⟨C, hC⟩ : ∃ C, cword l = C := ⟨_, rfl⟩
  rw [hC] at k3 k4
  have HK := Lib.hid (And.intro k1 (And.intro k2 (And.intro k3 (And.intro k4 k5))))
  clear k1 k2 k3 k4 k5 e1 e2 e3 eD hv1 hv2 hm1 hm2 hr2 hw2 hc hC hll hsm hsz hs hmb hk hd hA hB hn hl
  go_enter Try.func91, Try.ntmps91
  go_upto_region 1 with fail
  obtain ⟨W2, hW2⟩ : ∃ W, W = (w.alloc (Obj.cells #[.slice A m.length c, .slice B q.length d, .int .i64 left, .bool down] 46)).alloc (Obj.cells #[.slice none 0 0, .slice none 0 0, .int .i64 0, .bool false] 46) := ⟨_, rfl⟩
  rw [← hW2] at hP ⊢
  clear hW2
  have HP := Lib.hid hP
  have hE2 := hE.ext hP.x
  obtain ⟨A1, c1, B1, d1, hbx, sA, sB⟩ := hP.d
  have HB := Lib.hid hbx
  obtain ⟨b0, b1, b2, b3, bf, bl⟩ := hbx
  have bf0 := bf 0
  have bf1 := bf 1
  have bf2 := bf 2
  have bf3 := bf 3
  clear hP
  go_upto_region 3 with fail
  go_region_with (first
    | (go_at_call 114; refine (HK.out.1 _ (hE2.ext (by repeat (first | assumption | exact Ext.refl _ | refine Ext.drewN ?_ _ | refine Ext.drew ?_ | refine Ext.alloc ?_ _ | refine Ext.trans ?_ (by assumption))))).mono ?_; rintro e wn ⟨AJ, cJ, rfl, -, hJ, hxn⟩; obtain ⟨y0, y1, y2, y3, yf, yl⟩ := HB.out.ext (w' := wn) (by repeat (first | assumption | exact Ext.refl _ | refine Ext.drewN ?_ _ | refine Ext.drew ?_ | refine Ext.alloc ?_ _ | refine Ext.trans ?_ (by assumption))))
    | (go_at_call 99; refine (HK.out.2.1 A1 c1 B1 d1 AJ cJ _ (sA.ext (by repeat (first | assumption | exact Ext.refl _ | refine Ext.drewN ?_ _ | refine Ext.drew ?_ | refine Ext.alloc ?_ _ | refine Ext.trans ?_ (by assumption)))) (sB.ext (by repeat (first | assumption | exact Ext.refl _ | refine Ext.drewN ?_ _ | refine Ext.drew ?_ | refine Ext.alloc ?_ _ | refine Ext.trans ?_ (by assumption)))) (hJ.ext (by repeat (first | assumption | exact Ext.refl _ | refine Ext.drewN ?_ _ | refine Ext.drew ?_ | refine Ext.alloc ?_ _ | refine Ext.trans ?_ (by assumption))))).mono ?_; rintro e wm ⟨A2, c2, B2, d2, rfl, sA2, sB2, -, -, hxm⟩; obtain ⟨z0, z1, z2, z3, zf, zl⟩ := HB.out.ext (w' := wm) (by repeat (first | assumption | exact Ext.refl _ | refine Ext.drewN ?_ _ | refine Ext.drew ?_ | refine Ext.alloc ?_ _ | refine Ext.trans ?_ (by assumption))); have zf0 := zf 0; have zf1 := zf 1; have zf2 := zf 2; have zf3 := zf 3))
  all_goals
    have hxx : Ext W2 wm := (by repeat (first | assumption | exact Ext.refl _ | refine Ext.drewN ?_ _ | refine Ext.drew ?_ | refine Ext.alloc ?_ _ | refine Ext.trans ?_ (by assumption)))
    have H4 := Lib.hid ((HP.out.ext hxx).set sA2 sB2 l1 n1)
    clear sA sB hE2 hJ sA2 sB2
    go_upto_region 4 with fail
    clear b0 b1 b2 b3 bf bl bf0 bf1 bf2 bf3 y0 y1 y2 y3 yf yl z0 z1 z2 z3 zf zl zf0 zf1 zf2 zf3 HB HP hxx hxn hxm
    obtain ⟨W4, hW4⟩ : ∃ W, W = setB wm w.heap.size (.slice A2 m1.length c2) (.slice B2 q1.length d2) (.int .i64 l1) (.bool n1) := ⟨_, rfl⟩
    rw [show ((((wm.setCell ⟨w.heap.size, 0, none⟩ (.slice A2 m1.length c2)).setCell ⟨w.heap.size, 1, none⟩ (.slice B2 q1.length d2)).setCell ⟨w.heap.size, 2, none⟩ (.int .i64 l1)).setCell ⟨w.heap.size, 3, none⟩ (.bool n1)) = setB wm w.heap.size (.slice A2 m1.length c2) (.slice B2 q1.length d2) (.int .i64 l1) (.bool n1) from rfl, ← hW4]
    have hP := H4.out
    rw [← hW4] at hP
    clear hW4 H4
    have HP := Lib.hid hP
    have hE2 := hE.ext hP.x
    obtain ⟨A3, c3, B3, d3, hbx, sA, sB⟩ := hP.d
    have HB := Lib.hid hbx
    obtain ⟨b0, b1, b2, b3, bf, bl⟩ := hbx
    have bf0 := bf 0
    have bf1 := bf 1
    have bf2 := bf 2
    have bf3 := bf 3
    clear hP
    go_region_with (first
      | (go_at_call 86; refine (HK.out.2.2.1 _ (hE2.ext (by repeat (first | assumption | exact Ext.refl _ | refine Ext.drewN ?_ _ | refine Ext.drew ?_ | refine Ext.alloc ?_ _ | refine Ext.trans ?_ (by assumption))))).mono ?_; rintro e wn ⟨rfl, hxn⟩; obtain ⟨y0, y1, y2, y3, yf, yl⟩ := HB.out.ext (w' := wn) (by repeat (first | assumption | exact Ext.refl _ | refine Ext.drewN ?_ _ | refine Ext.drew ?_ | refine Ext.alloc ?_ _ | refine Ext.trans ?_ (by assumption))))
      | (go_at_call 99; refine (HK.out.2.2.2.1 A3 c3 B3 d3 (some ⟨_, 0, none⟩) 1 _ (sA.ext (by repeat (first | assumption | exact Ext.refl _ | refine Ext.drewN ?_ _ | refine Ext.drew ?_ | refine Ext.alloc ?_ _ | refine Ext.trans ?_ (by assumption)))) (sB.ext (by repeat (first | assumption | exact Ext.refl _ | refine Ext.drewN ?_ _ | refine Ext.drew ?_ | refine Ext.alloc ?_ _ | refine Ext.trans ?_ (by assumption)))) (Sl.lit' _ _ _ 1 rfl (by decide))).mono ?_; rintro e wm ⟨A4, c4, B4, d4, rfl, sA4, sB4, -, -, hxm⟩; obtain ⟨z0, z1, z2, z3, zf, zl⟩ := HB.out.ext (w' := wm) (by repeat (first | assumption | exact Ext.refl _ | refine Ext.drewN ?_ _ | refine Ext.drew ?_ | refine Ext.alloc ?_ _ | refine Ext.trans ?_ (by assumption))); have zf0 := zf 0; have zf1 := zf 1; have zf2 := zf 2; have zf3 := zf 3))
    all_goals
      have hxx : Ext W4 wm := (by repeat (first | assumption | exact Ext.refl _ | refine Ext.drewN ?_ _ | refine Ext.drew ?_ | refine Ext.alloc ?_ _ | refine Ext.trans ?_ (by assumption)))
      have H4 := Lib.hid ((HP.out.ext hxx).set sA4 sB4 l2 n2)
      clear sA sB hE2 sA4 sB4
      go_upto_region 5 with fail
      clear b0 b1 b2 b3 bf bl bf0 bf1 bf2 bf3 y0 y1 y2 y3 yf yl z0 z1 z2 z3 zf zl zf0 zf1 zf2 zf3 HB HP hxx hxn hxm
      obtain ⟨W5, hW5⟩ : ∃ W, W = setB wm w.heap.size (.slice A4 m2.length c4) (.slice B4 q2.length d4) (.int .i64 l2) (.bool n2) := ⟨_, rfl⟩
      rw [show ((((wm.setCell ⟨w.heap.size, 0, none⟩ (.slice A4 m2.length c4)).setCell ⟨w.heap.size, 1, none⟩ (.slice B4 q2.length d4)).setCell ⟨w.heap.size, 2, none⟩ (.int .i64 l2)).setCell ⟨w.heap.size, 3, none⟩ (.bool n2)) = setB wm w.heap.size (.slice A4 m2.length c4) (.slice B4 q2.length d4) (.int .i64 l2) (.bool n2) from rfl, ← hW5]
      have hP := H4.out
      rw [← hW5] at hP
      clear hW5 H4
      have HP := Lib.hid hP
      have hE2 := hE.ext hP.x
      obtain ⟨A5, c5, B5, d5, ⟨b0, b1, b2, b3, bf, bl⟩, sA, sB⟩ := hP.d
      clear hP
      go_wp2_with fail
      refine (HK.out.2.2.2.2 A5 c5 B5 d5 _ sA sB hE2).mono ?_
      rintro e w7 ⟨A6, c6, B6, d6, rfl, sA6, sB6, -, -, hx7⟩
      clear b0 b1 b2 b3 bf bl sA sB hE2
      have hP := HP.out.ext hx7
      have HP7 := Lib.hid hP
      obtain ⟨r0, r1, r2, r3, rf, rl⟩ := hP.r
      have HS := Lib.hid (And.intro sA6 sB6)
      clear hP HP sA6 sB6
      go_wp2_with fail
      refine bodyPost_ret (v := .agg #[.slice A6 m3.length c6, .slice B6 q3.length d6, .int .i64 l3, .bool n3]) (by simp [results, Try.results91, go_sem, r0, r1, r2, r3]) rfl ?_
      exact HP7.out.retX HS.out.1 HS.out.2 l3 n3
theorem refMade_any (m : List Int) (q : List Dw) (left : Int) (down : Bool) (l : List (Int × Int)) (A : Option Addr) (c : Nat) (B : Option Addr) (d : Nat) (E : Option Addr) (f : Nat) (w : World) (hA : Sl w A m.length c (fU m)) (hB : Sl w B q.length d (fD q)) (hE : Sl w E l.length f (fE l)) (hd : devB m q left down = true) (hk : chkE l m.length = 0) (wf : WfE l) :
    Calls Try.prog 91 #[.agg #[.slice A m.length c, .slice B q.length d, .int .i64 left, .bool down], .slice E l.length f] w (RetX w (runD (m, q, left, down) (chAll l))) := by
  unfold chAll
  split
  · rename_i hn
    exact refMade_none m q left down l A c B d E f w hA hB hd hn
  · rename_i hn
    exact refMade_ok m q left down l A c B d E f w hA hB hE hd hk hn wf
set_option maxRecDepth 100000 in
set_option maxHeartbeats 1600000 in
theorem refAsked_any (m : List Int) (q : List Dw) (left : Int) (down : Bool) (l : List (Int × Int)) (A : Option Addr) (c : Nat) (B : Option Addr) (d : Nat) (E : Option Addr) (f : Nat) (w : World) (hA : Sl w A m.length c (fU m)) (hB : Sl w B q.length d (fD q)) (hE : Sl w E l.length f (fE l)) :
    Calls Try.prog 90 #[.agg #[.slice A m.length c, .slice B q.length d, .int .i64 left, .bool down], .slice E l.length f] w fun e w' => e = .returned (.int .i64 (chE m q left down l)) ∧ Ext w w' := by
  have hD := DV.new w m q left down A c B d 46 hA hB
  have hX : Ext w (w.alloc (Obj.cells #[.slice A m.length c, .slice B q.length d, .int .i64 left, .bool down] 46)) := (Ext.refl w).alloc _
  have h1 := fun A c B d W (hb : Sl W B q.length d (fD q)) => dRefCk_any m q left down A c B d W hb
  have h2 := fun W (he : Sl W E l.length f (fE l)) => refCheck8_any l m.length E f W he
  cases hd : devB m q left down with
  | false =>
    have he : chE m q left down l = 8 := by simp [chE, hd]
    rw [he]
    rw [devE_no hd] at h1
    have HH := Lib.hid h1
    clear h1 h2 hd hA hB he
    go_enter Try.func90, Try.ntmps90
    go_upto_region 1 with fail
    obtain ⟨W2, hW2⟩ : ∃ W, W = w.alloc (Obj.cells #[.slice A m.length c, .slice B q.length d, .int .i64 left, .bool down] 46) := ⟨_, rfl⟩
    obtain ⟨gD, hgD⟩ : ∃ g, w.heap.size = g := ⟨_, rfl⟩
    rw [← hW2] at hD hX ⊢
    rw [hgD] at hD ⊢
    clear hW2 hgD
    obtain ⟨AD, cD, BD, dD, bD, sD, tD⟩ := hD
    obtain ⟨b0, b1, b2, b3, bf, bl⟩ := bD
    go_wp2_with fail
    refine (HH.out AD cD BD dD W2 tD).mono ?_
    rintro e W101 ⟨rfl, hxx⟩
    have hD := DV.mk (Box4.mk b0 b1 b2 b3 bf bl) sD tD
    clear b0 b1 b2 b3 bf bl
    replace hD := hD.ext hxx
    replace hX := hX.trans hxx
    clear hxx
    go_wp2_with fail
    go_ret
    exact ⟨rfl, hX⟩
  | true =>
    rw [devE_yes hd] at h1
    have h3 := fun A c B d W (ha : Sl W A m.length c (fU m)) (hb : Sl W B q.length d (fD q)) => dWords_any m q left down A c B d W ha hb hd
    by_cases hk : chkE l m.length = 0
    · have hsz := sizeB_bd (chk_iff.1 hk).1
      have hwl := wrd_length q m
      rw [hk] at h2
      obtain ⟨V, hV⟩ : ∃ V, wrd m q = V := ⟨_, rfl⟩
      obtain ⟨x, hx⟩ : ∃ x, V[24]? = some x := ⟨_, List.getElem?_eq_getElem (by rw [← hV, hwl]; omega)⟩
      rw [hV] at h3 hwl
      have he : chE m q left down l = if x = 0 then 0 else 8 := by
        unfold chE
        rw [if_pos hd, if_pos hk, hV, hx]
        by_cases h : x = 0
        · rw [h, if_pos rfl, if_pos rfl]
        · rw [if_neg h, if_neg (fun e => h (by injection e))]
      have kk : (x != 0) = true ∧ (if x = 0 then (0 : Int) else 8) = 8 ∨ (x != 0) = false ∧ (if x = 0 then (0 : Int) else 8) = 0 := by
        by_cases h : x = 0
        · exact .inr ⟨by simp [h], if_pos h⟩
        · exact .inl ⟨by simpa using h, if_neg h⟩
      rw [he]
      have HH := Lib.hid (And.intro h1 (And.intro h2 (And.intro h3 (And.intro hx hwl))))
      clear h1 h2 h3 hd hA hB he hk hV hx hwl
      rcases kk with ⟨g1, g2⟩ | ⟨g1, g2⟩
      all_goals
        rw [g2]
        clear g2
        go_enter Try.func90, Try.ntmps90
        go_upto_region 1 with fail
        obtain ⟨W2, hW2⟩ : ∃ W, W = w.alloc (Obj.cells #[.slice A m.length c, .slice B q.length d, .int .i64 left, .bool down] 46) := ⟨_, rfl⟩
        obtain ⟨gD, hgD⟩ : ∃ g, w.heap.size = g := ⟨_, rfl⟩
        have hE2 := hE.ext hX
        rw [← hW2] at hD hX hE2 ⊢
        rw [hgD] at hD ⊢
        clear hW2 hgD
        obtain ⟨AD, cD, BD, dD, bD, sD, tD⟩ := hD
        obtain ⟨b0, b1, b2, b3, bf, bl⟩ := bD
        go_wp2_with fail
        refine (HH.out.1 AD cD BD dD W2 tD).mono ?_
        rintro e W101 ⟨rfl, hxx⟩
        have hD := DV.mk (Box4.mk b0 b1 b2 b3 bf bl) sD tD
        clear b0 b1 b2 b3 bf bl
        replace hD := hD.ext hxx
        replace hE2 := hE2.ext hxx
        replace hX := hX.trans hxx
        clear hxx
        obtain ⟨A9, c9, B9, d9, ⟨b0, b1, b2, b3, bf, bl⟩, s9, t9⟩ := hD
        go_wp2_with fail
        refine (HH.out.2.1 _ hE2).mono ?_
        rintro e w4 ⟨rfl, hd4⟩
        have hD := (DV.mk (Box4.mk b0 b1 b2 b3 bf bl) s9 t9).ext hd4.ext
        replace hX := hX.trans hd4.ext
        clear b0 b1 b2 b3 bf bl s9 t9 hE2
        obtain ⟨A9, c9, B9, d9, ⟨b0, b1, b2, b3, bf, bl⟩, s9, t9⟩ := hD
        go_wp2_with fail
        refine (HH.out.2.2.1 A9 c9 B9 d9 _ s9 t9).mono ?_
        rintro e w5 ⟨AV, cV, rfl, -, hAV, hx5⟩
        obtain ⟨ad, y, rfl, hat, g0⟩ := hAV.u_at (k := 24) (by rw [HH.out.2.2.2.2]; omega)
        rw [HH.out.2.2.2.1] at hat
        injection hat with hat
        subst hat
        rw [add_lit_ ad 23] at g0
        have h24 : 24 < m.length := by omega
        have h24' : (24 : Int) < m.length := by omega
        clear b0 b1 b2 b3 bf bl s9 t9 hAV
        replace hX := hX.trans hx5
        go_wp2_with fail
        go_ret
        exact ⟨rfl, hX⟩
    · have he : chE m q left down l = chkE l m.length := by unfold chE; rw [if_pos hd, if_neg hk]
      rw [he]
      obtain ⟨er, her⟩ : ∃ er, chkE l m.length = er := ⟨_, rfl⟩
      rw [her] at h2 hk ⊢
      have hb : (er != 0) = true := by simpa using hk
      have HH := Lib.hid (And.intro h1 h2)
      clear h1 h2 h3 hd hA hB he hk her
      go_enter Try.func90, Try.ntmps90
      go_upto_region 1 with fail
      obtain ⟨W2, hW2⟩ : ∃ W, W = w.alloc (Obj.cells #[.slice A m.length c, .slice B q.length d, .int .i64 left, .bool down] 46) := ⟨_, rfl⟩
      obtain ⟨gD, hgD⟩ : ∃ g, w.heap.size = g := ⟨_, rfl⟩
      have hE2 := hE.ext hX
      rw [← hW2] at hD hX hE2 ⊢
      rw [hgD] at hD ⊢
      clear hW2 hgD
      obtain ⟨AD, cD, BD, dD, bD, sD, tD⟩ := hD
      obtain ⟨b0, b1, b2, b3, bf, bl⟩ := bD
      go_wp2_with fail
      refine (HH.out.1 AD cD BD dD W2 tD).mono ?_
      rintro e W101 ⟨rfl, hxx⟩
      have hD := DV.mk (Box4.mk b0 b1 b2 b3 bf bl) sD tD
      clear b0 b1 b2 b3 bf bl
      replace hD := hD.ext hxx
      replace hE2 := hE2.ext hxx
      replace hX := hX.trans hxx
      clear hxx
      obtain ⟨A9, c9, B9, d9, ⟨b0, b1, b2, b3, bf, bl⟩, s9, t9⟩ := hD
      go_wp2_with fail
      refine (HH.out.2 _ hE2).mono ?_
      rintro e w4 ⟨rfl, hd4⟩
      replace hX := hX.trans hd4.ext
      clear b0 b1 b2 b3 bf bl s9 t9 hE2
      go_wp2_with fail
      go_ret
      exact ⟨rfl, hX⟩
set_option maxRecDepth 100000 in
set_option maxHeartbeats 1600000 in
theorem refChange_any (m : List Int) (q : List Dw) (left : Int) (down : Bool) (l : List (Int × Int)) (A : Option Addr) (c : Nat) (B : Option Addr) (d : Nat) (E : Option Addr) (f : Nat) (w : World) (hA : Sl w A m.length c (fU m)) (hB : Sl w B q.length d (fD q)) (hE : Sl w E l.length f (fE l)) (wf : WfE l) :
    Calls Try.prog 51 #[.agg #[.slice A m.length c, .slice B q.length d, .int .i64 left, .bool down], .slice E l.length f] w (RetV w (chV m q left down l) (chE m q left down l)) := by
  have hP := RT.new w m q left down A c B d hA hB
  have h1 := fun A c B d W (ha : Sl W A m.length c (fU m)) (hb : Sl W B q.length d (fD q)) (he : Sl W E l.length f (fE l)) => refAsked_any m q left down l A c B d E f W ha hb he
  by_cases h0 : chE m q left down l = 0
  · obtain ⟨hd, hk, -⟩ := chE_ok h0
    have h2 := fun A c B d W (ha : Sl W A m.length c (fU m)) (hb : Sl W B q.length d (fD q)) (he : Sl W E l.length f (fE l)) => refMade_any m q left down l A c B d E f W ha hb he hd hk wf
    rw [chV, h0, if_pos rfl]
    rw [h0] at h1
    obtain ⟨⟨m1, q1, l1, n1⟩, eD⟩ : ∃ D, runD (m, q, left, down) (chAll l) = D := ⟨_, rfl⟩
    rw [eD] at h2 ⊢
    have HH := Lib.hid (And.intro h1 h2)
    clear h1 h2 h0 hd hk eD hA hB
    go_enter Try.func51, Try.ntmps51
    go_upto_region 1 with fail
    obtain ⟨W2, hW2⟩ : ∃ W, W = (w.alloc (Obj.cells #[.slice A m.length c, .slice B q.length d, .int .i64 left, .bool down] 46)).alloc (Obj.cells #[.slice none 0 0, .slice none 0 0, .int .i64 0, .bool false] 46) := ⟨_, rfl⟩
    rw [← hW2] at hP ⊢
    clear hW2
    have HP := Lib.hid hP
    have hE2 := hE.ext hP.x
    obtain ⟨A1, c1, B1, d1, ⟨b0, b1, b2, b3, bf, bl⟩, sA, sB⟩ := hP.d
    clear hP
    go_wp2_with fail
    refine (HH.out.1 A1 c1 B1 d1 _ sA sB hE2).mono ?_
    rintro e w3 ⟨rfl, hx3⟩
    clear b0 b1 b2 b3 bf bl sA sB
    have HP3 := Lib.hid (HP.out.ext hx3)
    replace hE2 := hE2.ext hx3
    obtain ⟨A2, c2, B2, d2, ⟨b0, b1, b2, b3, bf, bl⟩, sA, sB⟩ := (HP.out.ext hx3).d
    clear HP hx3
    go_wp2_with fail
    refine (HH.out.2 A2 c2 B2 d2 _ sA sB hE2).mono ?_
    rintro e w7 ⟨A6, c6, B6, d6, rfl, sA6, sB6, hx7⟩
    clear b0 b1 b2 b3 bf bl sA sB hE2
    have hP := HP3.out.ext hx7
    have HP7 := Lib.hid hP
    obtain ⟨r0, r1, r2, r3, rf, rl⟩ := hP.r
    have HS := Lib.hid (And.intro sA6 sB6)
    clear hP HP3 sA6 sB6
    go_wp2_with fail
    refine bodyPost_ret (v := .tuple #[.agg #[.slice A6 m1.length c6, .slice B6 q1.length d6, .int .i64 l1, .bool n1], .int .i64 0]) (by simp [results, Try.results51, go_sem, r0, r1, r2, r3]) rfl ?_
    exact HP7.out.retV HS.out.1 HS.out.2 l1 n1 0
  · rw [chV, if_neg h0]
    obtain ⟨er, her⟩ : ∃ er, chE m q left down l = er := ⟨_, rfl⟩
    rw [her] at h0 h1 ⊢
    have hb : (er != 0) = true := by simpa using h0
    have HH := Lib.hid h1
    clear h1 h0 her hA hB
    go_enter Try.func51, Try.ntmps51
    go_upto_region 1 with fail
    obtain ⟨W2, hW2⟩ : ∃ W, W = (w.alloc (Obj.cells #[.slice A m.length c, .slice B q.length d, .int .i64 left, .bool down] 46)).alloc (Obj.cells #[.slice none 0 0, .slice none 0 0, .int .i64 0, .bool false] 46) := ⟨_, rfl⟩
    rw [← hW2] at hP ⊢
    clear hW2
    have HP := Lib.hid hP
    have hE2 := hE.ext hP.x
    obtain ⟨A1, c1, B1, d1, ⟨b0, b1, b2, b3, bf, bl⟩, sA, sB⟩ := hP.d
    clear hP
    go_wp2_with fail
    refine (HH.out A1 c1 B1 d1 _ sA sB hE2).mono ?_
    rintro e w3 ⟨rfl, hx3⟩
    clear b0 b1 b2 b3 bf bl sA sB
    have HP3 := Lib.hid (HP.out.ext hx3)
    replace hE2 := hE2.ext hx3
    obtain ⟨A2, c2, B2, d2, ⟨b0, b1, b2, b3, bf, bl⟩, sA, sB⟩ := (HP.out.ext hx3).d
    clear HP hx3
    go_wp2_with fail
    refine (HH.out A2 c2 B2 d2 _ sA sB hE2).mono ?_
    rintro e w7 ⟨rfl, hx7⟩
    clear b0 b1 b2 b3 bf bl sA sB hE2
    have hP := HP3.out.ext hx7
    have HP7 := Lib.hid hP
    obtain ⟨r0, r1, r2, r3, rf, rl⟩ := hP.r
    clear hP HP3
    go_wp2_with fail
    refine bodyPost_ret (v := .tuple #[.agg #[.slice none 0 0, .slice none 0 0, .int .i64 0, .bool false], .int .i64 er]) (by simp [results, Try.results51, go_sem, r0, r1, r2, r3]) rfl ?_
    exact HP7.out.zero er
end Go.Proofs.Ytmkcpnklaijkfaa
