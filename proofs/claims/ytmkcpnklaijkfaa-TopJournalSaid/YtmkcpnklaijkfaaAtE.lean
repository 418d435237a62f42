/-
  The contract of atomic.Change, with its errors.
-/
import Derived.Test.YtmkcpnklaijkfaaAtCh
import Derived.RegionTactic
namespace Go.Proofs.Ytmkcpnklaijkfaa
open Go.RowKit
/-- The operations of a change that may be empty. -/
def chAll (l : List (Int × Int)) : List Dop := if l.length = 0 then [] else chOps l
def chE (m : List Int) (q : List Dw) (left : Int) (down : Bool) (l : List (Int × Int)) : Int :=
  if devB m q left down then (if chkE l m.length = 0 then (if (wrd m q)[24]? = some 0 then 0 else 8) else chkE l m.length) else 8
def chV (m : List Int) (q : List Dw) (left : Int) (down : Bool) (l : List (Int × Int)) : Dev4 := if chE m q left down l = 0 then runD (m, q, left, down) (chAll l) else zeroV
theorem chE_yes {m : List Int} {q : List Dw} {left : Int} {down : Bool} {l : List (Int × Int)} (hd : devB m q left down = true) (hk : chkE l m.length = 0) (h24 : (wrd m q)[24]? = some 0) : chE m q left down l = 0 := by
  unfold chE; rw [if_pos hd, if_pos hk, if_pos h24]
theorem chE_ok {m : List Int} {q : List Dw} {left : Int} {down : Bool} {l : List (Int × Int)} (h : chE m q left down l = 0) : devB m q left down = true ∧ chkE l m.length = 0 ∧ (wrd m q)[24]? = some 0 := by
  unfold chE at h
  split at h
  · rename_i hd
    split at h
    · rename_i hk
      split at h
      · rename_i h24
        exact ⟨hd, hk, h24⟩
      · cases h
    · rename_i hk; exact absurd h hk
  · cases h
set_option maxRecDepth 100000 in
set_option maxHeartbeats 1600000 in
theorem aChange_none (m : List Int) (q : List Dw) (left : Int) (down : Bool) (l : List (Int × Int)) (A : Option Addr) (c : Nat) (B : Option Addr) (d : Nat) (E : Option Addr) (f : Nat) (w : World) (hA : Sl w A m.length c (fU m)) (hB : Sl w B q.length d (fD q)) (hE : Sl w E l.length f (fE l))
    (hd : devB m q left down = true) (hk : chkE l m.length = 0) (hn : l.length = 0) (h24 : (wrd m q)[24]? = some 0) (wf : WfE l) :
    Calls Try.prog 50 #[.agg #[.slice A m.length c, .slice B q.length d, .int .i64 left, .bool down], .slice E l.length f] w (RetV w (m, q, left, down) 0) := by
  obtain ⟨hs, hl, hmb, _⟩ := chk_iff.1 hk
  have hsz := sizeB_bd hs
  have hVl := wrd_length q m
  have hPT0 := (DV.new w m q left down A c B d 46 hA hB).ext ((Ext.refl _).alloc (Obj.cells #[.slice none 0 0, .slice none 0 0, .int .i64 0, .bool false] 46))
  have hrx : Box4 ((w.alloc (Obj.cells #[.slice A m.length c, .slice B q.length d, .int .i64 left, .bool down] 46)).alloc (Obj.cells #[.slice none 0 0, .slice none 0 0, .int .i64 0, .bool false] 46)) (w.heap.size + 1) (.slice none 0 0) (.slice none 0 0) (.int .i64 0) (.bool false) := Box4.new' _ _ (by simp) _ _ _ _ _
  have h1 := fun A c B d W (ha : Sl W A m.length c (fU m)) (hb : Sl W B q.length d (fD q)) => dView_ok hd A c B d W ha hb
  have h2 := fun W (h : Sl W E l.length f (fE l)) => entryWords_any l m.length E f W h wf
  rw [hk] at h2
  have hq := asc_length (devB_bd hd).2.2.2.2 (by omega)
  obtain ⟨V, hV⟩ : ∃ V, wrd m q = V := ⟨_, rfl⟩
  rw [hV] at h1 hVl h24
  have hne0 : ((l.length : Int) == 0) = true := by rw [hn]; rfl
  have HH := Lib.hid (And.intro h1 (And.intro h2 (And.intro hVl (And.intro hd (And.intro hk h24)))))
  clear h1 h2 hVl hd hk h24 hn hV hs hmb
  go_enter Try.func50, Try.ntmps50
  go_wp2_with fail
  refine (HH.out.1 A c B d _ ((hA.alloc _).alloc _) ((hB.alloc _).alloc _)).mono ?_
  rintro e w1 ⟨AV, cV, rfl, -, sV, hx1⟩
  have hX1 : Ext w w1 := Ext.trans (((Ext.refl w).alloc _).alloc _) hx1
  have hPT : PT w (w1.alloc (Obj.cells #[.int .i64 0] 30)) w.heap.size w1.heap.size m q left down :=
    ⟨(hPT0.ext hx1).ext ((Ext.refl _).alloc _), by simp [go_sem], fun o => by simp [go_sem], (hrx.ext hx1).alloc _, hX1.alloc _, Nat.le_refl _, (hrx.ext hx1).lt⟩
  replace sV := sV.alloc (Obj.cells #[.int .i64 0] 30)
  clear hPT0 hrx hx1 hX1 hA hB
  go_upto_region 4 with fail
  obtain ⟨W2, hW2⟩ : ∃ W, W = w1.alloc (Obj.cells #[.int .i64 0] 30) := ⟨_, rfl⟩
  obtain ⟨ge, hge⟩ : ∃ g, w1.heap.size = g := ⟨_, rfl⟩
  rw [← hW2] at hPT sV ⊢
  rw [hge] at hPT ⊢
  obtain ⟨gd, hgd⟩ : ∃ g, w.heap.size = g := ⟨_, rfl⟩
  have HGD := Lib.hid hgd
  rw [hgd] at hPT ⊢
  clear hW2 hge hgd
  have hP0 := hPT
  clear hPT
  rw [HH.out.2.2.1] at sV ⊢
  go_wp2_with fail
  refine (HH.out.2.1 W2 (hE.ext hP0.x)).mono ?_
  rintro e w3 (⟨_, Aw, cw, rfl, ow, sW, hx3⟩ | ⟨hne, _⟩)
  case inr => exact absurd rfl hne
  have hP3 := hP0.ext hx3
  replace sV := sV.ext hx3
  have he := hP3.e
  have hef := hP3.ef
  have H3 := Lib.hid (And.intro hP3.setE (sV.setSame he))
  clear hP0 hP3 sV ow sW hx3
  go_upto_region 7 with fail
  obtain ⟨W4, hW4⟩ : ∃ W, W = w3.setCell ⟨ge, 0, none⟩ (.int .i64 0) := ⟨_, rfl⟩
  have h3 := H3.out
  rw [← hW4] at h3 ⊢
  obtain ⟨hP4, sV4⟩ := h3
  clear hW4 he hef H3
  obtain ⟨ad, x, rfl, hat, g0⟩ := sV4.u_at (k := 24) (by rw [HH.out.2.2.1]; omega)
  rw [HH.out.2.2.2.2.2] at hat
  injection hat with hat
  subst hat
  rw [add_lit_ ad 23] at g0
  have H4 := Lib.hid hP4
  clear hP4 sV4
  go_upto_region 9 with fail
  clear g0
  have hP4 := H4.out
  obtain ⟨A1, c1, B1, d1, hb, sA, sB⟩ := hP4.d
  have HB := Lib.hid hb
  obtain ⟨b0, b1, b2, b3, bf, bl⟩ := hb
  have bf0 := bf 0
  have bf1 := bf 1
  clear hP4 bf
  go_region_with (first
    | (go_at_call 71; refine (cloneU_any m A1 c1 _ (sA.ext (by repeat (first | assumption | exact Ext.refl _ | refine Ext.drewN ?_ _ | refine Ext.drew ?_ | refine Ext.alloc ?_ _ | refine Ext.trans ?_ (by assumption)))) (by omega)).mono ?_; rintro e wn ⟨A2, c2, rfl, oA2, sA2, hxA⟩; obtain ⟨y0, y1, y2, y3, yf, yl⟩ := HB.out.ext (w' := wn) (by repeat (first | assumption | exact Ext.refl _ | refine Ext.drewN ?_ _ | refine Ext.drew ?_ | refine Ext.alloc ?_ _ | refine Ext.trans ?_ (by assumption))); have yf0 := yf 0; have yf1 := yf 1)
    | (go_at_call 87; refine (cloneD_any q B1 d1 _ (sB.ext (by repeat (first | assumption | exact Ext.refl _ | refine Ext.drewN ?_ _ | refine Ext.drew ?_ | refine Ext.alloc ?_ _ | refine Ext.trans ?_ (by assumption)))) (by omega)).mono ?_; rintro e wm ⟨B2, d2, rfl, oB2, sB2, hxB⟩; obtain ⟨z0, z1, z2, z3, zf, zl⟩ := HB.out.ext (w' := wm) (by repeat (first | assumption | exact Ext.refl _ | refine Ext.drewN ?_ _ | refine Ext.drew ?_ | refine Ext.alloc ?_ _ | refine Ext.trans ?_ (by assumption))); have zf0 := zf 0; have zf1 := zf 1))
  all_goals
    have hx5 : Ext W4 wm := (by repeat (first | assumption | exact Ext.refl _ | refine Ext.drewN ?_ _ | refine Ext.drew ?_ | refine Ext.alloc ?_ _ | refine Ext.trans ?_ (by assumption)))
    have fA := own_far (b := gd) oA2 (by have := HB.out.lt; simpa using this)
    have fB := own_far (b := gd) oB2 (Nat.lt_of_lt_of_le HB.out.lt (Ext.size (a := W4) (by repeat (first | assumption | exact Ext.refl _ | refine Ext.drewN ?_ _ | refine Ext.drew ?_ | refine Ext.alloc ?_ _ | refine Ext.trans ?_ (by assumption)))))
    have H5 := Lib.hid ((H4.out.ext hx5).set2 (sA2.ext hxB) sB2 fA fB)
    go_upto_region 10 with fail
    obtain ⟨W5, hW5⟩ : ∃ W, W = (wm.setCell ⟨gd, 0, none⟩ (.slice A2 m.length c2)).setCell ⟨gd, 1, none⟩ (.slice B2 q.length d2) := ⟨_, rfl⟩
    have hP13 := H5.out
    rw [← hW5] at hP13 ⊢
    clear hW5 H5 fA fB hx5 hxA hxB oA2 oB2 sA2 sB2 sA sB HB b0 b1 b2 b3 bf0 bf1 bl y0 y1 y2 y3 yf yl yf0 yf1 z0 z1 z2 z3 zf zl zf0 zf1
    clear H4
    have HP8 := Lib.hid hP13
    obtain ⟨A3, c3, B3, d3, ⟨b0, b1, b2, b3, bf, bl⟩, sA, sB⟩ := hP13.d
    obtain ⟨r0, r1, r2, r3, rf, rl⟩ := hP13.r
    have SA := Lib.hid (And.intro sA sB)
    clear hP13 sA sB
    go_wp2_with fail
    refine bodyPost_ret (v := .tuple #[.agg #[.slice A3 m.length c3, .slice B3 q.length d3, .int .i64 left, .bool down], .int .i64 0]) (by simp [results, Try.results50, go_sem, r0, r1, r2, r3]) rfl ?_
    exact ⟨A3, c3, B3, d3, rfl, SA.out.1.setB_U HP8.out.r _ _ _ _, SA.out.2.setB_D HP8.out.r _ _ _ _, HP8.out.x.setB (Nat.le_succ_of_le HP8.out.lo) _ _ _ _⟩
set_option maxRecDepth 100000 in
set_option maxHeartbeats 1600000 in
theorem aChange_dev (m : List Int) (q : List Dw) (left : Int) (down : Bool) (l : List (Int × Int)) (A : Option Addr) (c : Nat) (B : Option Addr) (d : Nat) (E : Option Addr) (f : Nat) (w : World) (hA : Sl w A m.length c (fU m)) (hB : Sl w B q.length d (fD q))
    (hd : devB m q left down = false) :
    Calls Try.prog 50 #[.agg #[.slice A m.length c, .slice B q.length d, .int .i64 left, .bool down], .slice E l.length f] w (RetV w zeroV 8) := by
  have hrx : Box4 ((w.alloc (Obj.cells #[.slice A m.length c, .slice B q.length d, .int .i64 left, .bool down] 46)).alloc (Obj.cells #[.slice none 0 0, .slice none 0 0, .int .i64 0, .bool false] 46)) (w.heap.size + 1) (.slice none 0 0) (.slice none 0 0) (.int .i64 0) (.bool false) := Box4.new' _ _ (by simp) _ _ _ _ _
  have hbx := (DV.new w m q left down A c B d 46 hA hB).ext ((Ext.refl _).alloc (Obj.cells #[.slice none 0 0, .slice none 0 0, .int .i64 0, .bool false] 46))
  have h1 := fun A c B d W (ha : Sl W A m.length c (fU m)) (hb : Sl W B q.length d (fD q)) => dView_any m q left down A c B d W ha hb
  rw [devE_no hd, show viewL m q left down = [] from by simp [viewL, devE_no hd]] at h1
  have HH := Lib.hid h1
  clear h1 hd
  go_enter Try.func50, Try.ntmps50
  go_wp2_with fail
  refine (HH.out A c B d _ ((hA.alloc _).alloc _) ((hB.alloc _).alloc _)).mono ?_
  rintro e w1 ⟨AV, cV, rfl, -, -, hx1⟩
  have hX1 : Ext w w1 := Ext.trans (((Ext.refl w).alloc _).alloc _) hx1
  have hlt := (hrx.ext hx1).lt
  have hrx1 := (hrx.ext hx1).alloc (Obj.cells #[.int .i64 8] 30)
  have hcl : (w1.alloc (Obj.cells #[.int .i64 8] 30)).cell? ⟨w1.heap.size, 0, none⟩ = some (.int .i64 8) := by simp [go_sem]
  have hX2 := hX1.alloc (Obj.cells #[.int .i64 8] 30)
  clear hbx hrx hx1 hX1 hA hB
  go_upto_region 3 with fail
  obtain ⟨W2, hW2⟩ : ∃ W, W = w1.alloc (Obj.cells #[.int .i64 8] 30) := ⟨_, rfl⟩
  obtain ⟨ge, hge⟩ : ∃ g, w1.heap.size = g := ⟨_, rfl⟩
  rw [← hW2] at hrx1 hcl hX2 ⊢
  rw [hge] at hcl hlt ⊢
  clear hW2 hge
  obtain ⟨r0, r1, r2, r3, rf, rl⟩ := hrx1
  have hn1 : w.heap.size + 1 ≠ ge := by omega
  have hn2 : ge ≠ w.heap.size + 1 := Ne.symm hn1
  go_region
  all_goals
    go_wp2_with fail
    refine bodyPost_ret (v := .tuple #[.agg #[.slice none 0 0, .slice none 0 0, .int .i64 0, .bool false], .int .i64 8]) (by simp [results, Try.results50, go_sem, r0, r1, r2, r3]) rfl ?_
    exact retV_zero (set4_ext hX2 (Nat.le_succ _) _ _ _ _).drew
set_option maxRecDepth 100000 in
set_option maxHeartbeats 1600000 in
theorem aChange_chk (m : List Int) (q : List Dw) (left : Int) (down : Bool) (l : List (Int × Int)) (A : Option Addr) (c : Nat) (B : Option Addr) (d : Nat) (E : Option Addr) (f : Nat) (w : World) (hA : Sl w A m.length c (fU m)) (hB : Sl w B q.length d (fD q)) (hE : Sl w E l.length f (fE l))
    (hd : devB m q left down = true) (hk : chkE l m.length ≠ 0) (wf : WfE l) :
    Calls Try.prog 50 #[.agg #[.slice A m.length c, .slice B q.length d, .int .i64 left, .bool down], .slice E l.length f] w (RetV w zeroV (chkE l m.length)) := by
  have hVl := wrd_length q m
  have hPT0 := (DV.new w m q left down A c B d 46 hA hB).ext ((Ext.refl _).alloc (Obj.cells #[.slice none 0 0, .slice none 0 0, .int .i64 0, .bool false] 46))
  have hrx : Box4 ((w.alloc (Obj.cells #[.slice A m.length c, .slice B q.length d, .int .i64 left, .bool down] 46)).alloc (Obj.cells #[.slice none 0 0, .slice none 0 0, .int .i64 0, .bool false] 46)) (w.heap.size + 1) (.slice none 0 0) (.slice none 0 0) (.int .i64 0) (.bool false) := Box4.new' _ _ (by simp) _ _ _ _ _
  have h1 := fun A c B d W (ha : Sl W A m.length c (fU m)) (hb : Sl W B q.length d (fD q)) => dView_ok hd A c B d W ha hb
  have h2 := fun W (h : Sl W E l.length f (fE l)) => entryWords_any l m.length E f W h wf
  obtain ⟨V, hV⟩ : ∃ V, wrd m q = V := ⟨_, rfl⟩
  rw [hV] at h1 hVl
  obtain ⟨er, her⟩ : ∃ V, chkE l m.length = V := ⟨_, rfl⟩
  rw [her] at h2 hk ⊢
  have hneb : (er != 0) = true := by simpa using hk
  have HH := Lib.hid (And.intro h1 (And.intro h2 (And.intro hVl hk)))
  clear h1 h2 hVl hd hk hV her
  go_enter Try.func50, Try.ntmps50
  go_wp2_with fail
  refine (HH.out.1 A c B d _ ((hA.alloc _).alloc _) ((hB.alloc _).alloc _)).mono ?_
  rintro e w1 ⟨AV, cV, rfl, -, sV, hx1⟩
  have hX1 : Ext w w1 := Ext.trans (((Ext.refl w).alloc _).alloc _) hx1
  have hPT : PT w (w1.alloc (Obj.cells #[.int .i64 0] 30)) w.heap.size w1.heap.size m q left down :=
    ⟨(hPT0.ext hx1).ext ((Ext.refl _).alloc _), by simp [go_sem], fun o => by simp [go_sem], (hrx.ext hx1).alloc _, hX1.alloc _, Nat.le_refl _, (hrx.ext hx1).lt⟩
  clear hPT0 hrx hx1 hX1 hA hB sV
  go_upto_region 4 with fail
  obtain ⟨W2, hW2⟩ : ∃ W, W = w1.alloc (Obj.cells #[.int .i64 0] 30) := ⟨_, rfl⟩
  obtain ⟨ge, hge⟩ : ∃ g, w1.heap.size = g := ⟨_, rfl⟩
  rw [← hW2] at hPT ⊢
  rw [hge] at hPT ⊢
  obtain ⟨gd, hgd⟩ : ∃ g, w.heap.size = g := ⟨_, rfl⟩
  have HGD := Lib.hid hgd
  rw [hgd] at hPT ⊢
  clear hW2 hge hgd
  have hP0 := hPT
  clear hPT
  rw [HH.out.2.2.1]
  go_wp2_with fail
  refine (HH.out.2.1 W2 (hE.ext hP0.x)).mono ?_
  rintro e w3 (⟨h0, _⟩ | ⟨_, rfl, hx3⟩)
  case inl => exact absurd h0 HH.out.2.2.2
  have hP3 := hP0.ext hx3
  have he := hP3.e
  have hef := hP3.ef
  have hcl : (w3.setCell ⟨ge, 0, none⟩ (.int .i64 er)).cell? ⟨ge, 0, none⟩ = some (.int .i64 er) := cell_same he
  have hrx1 := hP3.r.far (p := ⟨ge, 0, none⟩) (by show ge ≠ gd + 1; have := hP3.lt; omega) (.int .i64 er)
  have hX2 := hP3.x.setCell (p := ⟨ge, 0, none⟩) (by show w.heap.size ≤ ge; have := hP3.lt; have := hP3.lo; omega) (.int .i64 er)
  have hlt := hP3.lt
  have hlo := hP3.lo
  have hf0 := hef 0
  clear hP0 hP3 hx3 hE hef
  go_upto_region 6 with fail
  obtain ⟨W4, hW4⟩ : ∃ W, W = w3.setCell ⟨ge, 0, none⟩ (.int .i64 er) := ⟨_, rfl⟩
  rw [← hW4] at hrx1 hcl hX2 ⊢
  clear hW4 he hf0
  obtain ⟨r0, r1, r2, r3, rf, rl⟩ := hrx1
  have hn1 : gd + 1 ≠ ge := by omega
  have hn2 : ge ≠ gd + 1 := Ne.symm hn1
  have HLO := Lib.hid hlo
  clear hlo hlt
  go_region
  all_goals
    go_wp2_with fail
    refine bodyPost_ret (v := .tuple #[.agg #[.slice none 0 0, .slice none 0 0, .int .i64 0, .bool false], .int .i64 er]) (by simp [results, Try.results50, go_sem, r0, r1, r2, r3]) rfl ?_
    exact retV_zero (set4_ext hX2 (Nat.le_succ_of_le HLO.out) _ _ _ _).drew
set_option maxRecDepth 100000 in
set_option maxHeartbeats 1600000 in
theorem aChange_word (m : List Int) (q : List Dw) (left : Int) (down : Bool) (l : List (Int × Int)) (A : Option Addr) (c : Nat) (B : Option Addr) (d : Nat) (E : Option Addr) (f : Nat) (w : World) (hA : Sl w A m.length c (fU m)) (hB : Sl w B q.length d (fD q)) (hE : Sl w E l.length f (fE l))
    (hd : devB m q left down = true) (hk : chkE l m.length = 0) (h24 : (wrd m q)[24]? ≠ some 0) (wf : WfE l) :
    Calls Try.prog 50 #[.agg #[.slice A m.length c, .slice B q.length d, .int .i64 left, .bool down], .slice E l.length f] w (RetV w zeroV 8) := by
  obtain ⟨hs, hl, hmb, _⟩ := chk_iff.1 hk
  have hsz := sizeB_bd hs
  have hVl := wrd_length q m
  have hPT0 := (DV.new w m q left down A c B d 46 hA hB).ext ((Ext.refl _).alloc (Obj.cells #[.slice none 0 0, .slice none 0 0, .int .i64 0, .bool false] 46))
  have hrx : Box4 ((w.alloc (Obj.cells #[.slice A m.length c, .slice B q.length d, .int .i64 left, .bool down] 46)).alloc (Obj.cells #[.slice none 0 0, .slice none 0 0, .int .i64 0, .bool false] 46)) (w.heap.size + 1) (.slice none 0 0) (.slice none 0 0) (.int .i64 0) (.bool false) := Box4.new' _ _ (by simp) _ _ _ _ _
  have h1 := fun A c B d W (ha : Sl W A m.length c (fU m)) (hb : Sl W B q.length d (fD q)) => dView_ok hd A c B d W ha hb
  have h2 := fun W (h : Sl W E l.length f (fE l)) => entryWords_any l m.length E f W h wf
  rw [hk] at h2
  obtain ⟨V, hV⟩ : ∃ V, wrd m q = V := ⟨_, rfl⟩
  rw [hV] at h1 hVl h24
  have HH := Lib.hid (And.intro h1 (And.intro h2 (And.intro hVl (And.intro hd (And.intro hk h24)))))
  clear h1 h2 hVl hd hk h24 hV hs hmb
  go_enter Try.func50, Try.ntmps50
  go_wp2_with fail
  refine (HH.out.1 A c B d _ ((hA.alloc _).alloc _) ((hB.alloc _).alloc _)).mono ?_
  rintro e w1 ⟨AV, cV, rfl, -, sV, hx1⟩
  have hX1 : Ext w w1 := Ext.trans (((Ext.refl w).alloc _).alloc _) hx1
  have hPT : PT w (w1.alloc (Obj.cells #[.int .i64 0] 30)) w.heap.size w1.heap.size m q left down :=
    ⟨(hPT0.ext hx1).ext ((Ext.refl _).alloc _), by simp [go_sem], fun o => by simp [go_sem], (hrx.ext hx1).alloc _, hX1.alloc _, Nat.le_refl _, (hrx.ext hx1).lt⟩
  replace sV := sV.alloc (Obj.cells #[.int .i64 0] 30)
  clear hPT0 hrx hx1 hX1 hA hB
  go_upto_region 4 with fail
  obtain ⟨W2, hW2⟩ : ∃ W, W = w1.alloc (Obj.cells #[.int .i64 0] 30) := ⟨_, rfl⟩
  obtain ⟨ge, hge⟩ : ∃ g, w1.heap.size = g := ⟨_, rfl⟩
  rw [← hW2] at hPT sV ⊢
  rw [hge] at hPT ⊢
  obtain ⟨gd, hgd⟩ : ∃ g, w.heap.size = g := ⟨_, rfl⟩
  have HGD := Lib.hid hgd
  rw [hgd] at hPT ⊢
  clear hW2 hge hgd
  have hP0 := hPT
  clear hPT
  rw [HH.out.2.2.1] at sV ⊢
  go_wp2_with fail
  refine (HH.out.2.1 W2 (hE.ext hP0.x)).mono ?_
  rintro e w3 (⟨_, Aw, cw, rfl, ow, sW, hx3⟩ | ⟨hne, _⟩)
  case inr => exact absurd rfl hne
  have hP3 := hP0.ext hx3
  replace sV := sV.ext hx3
  have he := hP3.e
  have hef := hP3.ef
  have H3 := Lib.hid (And.intro hP3.setE (sV.setSame he))
  clear hP0 hP3 sV ow sW hx3
  go_upto_region 7 with fail
  obtain ⟨W4, hW4⟩ : ∃ W, W = w3.setCell ⟨ge, 0, none⟩ (.int .i64 0) := ⟨_, rfl⟩
  have h3 := H3.out
  rw [← hW4] at h3 ⊢
  obtain ⟨hP4, sV4⟩ := h3
  clear hW4 he hef H3
  obtain ⟨ad, x, rfl, hat, g0⟩ := sV4.u_at (k := 24) (by rw [HH.out.2.2.1]; omega)
  have hx0 : x ≠ 0 := fun e => HH.out.2.2.2.2.2 (by rw [hat, e])
  have hxb : (x != 0) = true := by simpa using hx0
  rw [add_lit_ ad 23] at g0
  have HP8 := Lib.hid hP4
  obtain ⟨r0, r1, r2, r3, rf, rl⟩ := hP4.r
  clear hP4 sV4 hx0 hat
  go_wp2_with fail
  refine bodyPost_ret (v := .tuple #[.agg #[.slice none 0 0, .slice none 0 0, .int .i64 0, .bool false], .int .i64 8]) (by simp [results, Try.results50, go_sem, r0, r1, r2, r3]) rfl ?_
  exact retV_zero (HP8.out.x.setB (Nat.le_succ_of_le HP8.out.lo) _ _ _ _)
theorem aChange_any (m : List Int) (q : List Dw) (left : Int) (down : Bool) (l : List (Int × Int)) (A : Option Addr) (c : Nat) (B : Option Addr) (d : Nat) (E : Option Addr) (f : Nat) (w : World) (hA : Sl w A m.length c (fU m)) (hB : Sl w B q.length d (fD q)) (hE : Sl w E l.length f (fE l)) (wf : WfE l) :
    Calls Try.prog 50 #[.agg #[.slice A m.length c, .slice B q.length d, .int .i64 left, .bool down], .slice E l.length f] w (RetV w (chV m q left down l) (chE m q left down l)) := by
  cases hd : devB m q left down with
  | false =>
    have he : chE m q left down l = 8 := by simp [chE, hd]
    rw [chV, he, if_neg (by decide)]
    exact aChange_dev m q left down l A c B d E f w hA hB hd
  | true =>
    by_cases hk : chkE l m.length = 0
    · by_cases h24 : (wrd m q)[24]? = some 0
      · rw [chV, chE_yes hd hk h24, if_pos rfl, chAll]
        split
        · rename_i hn
          exact aChange_none m q left down l A c B d E f w hA hB hE hd hk hn h24 wf
        · rename_i hn
          exact aChange_ok m q left down l A c B d E f w hA hB hE hd hk hn h24 wf
      · have he : chE m q left down l = 8 := by unfold chE; rw [if_pos hd, if_pos hk, if_neg h24]
        rw [chV, he, if_neg (by decide)]
        exact aChange_word m q left down l A c B d E f w hA hB hE hd hk h24 wf
    · have he : chE m q left down l = chkE l m.length := by unfold chE; rw [if_pos hd, if_neg hk]
      rw [chV, he, if_neg hk]
      exact aChange_chk m q left down l A c B d E f w hA hB hE hd hk wf
theorem aChange_yes {m : List Int} {q : List Dw} {left : Int} {down : Bool} {l : List (Int × Int)} (hd : devB m q left down = true) (hk : chkE l m.length = 0) (h24 : (wrd m q)[24]? = some 0) (wf : WfE l) (A : Option Addr) (c : Nat) (B : Option Addr) (d : Nat) (E : Option Addr) (f : Nat) (w : World) (hA : Sl w A m.length c (fU m)) (hB : Sl w B q.length d (fD q)) (hE : Sl w E l.length f (fE l)) :
    Calls Try.prog 50 #[.agg #[.slice A m.length c, .slice B q.length d, .int .i64 left, .bool down], .slice E l.length f] w (RetV w (runD (m, q, left, down) (chAll l)) 0) := by
  have := aChange_any m q left down l A c B d E f w hA hB hE wf
  rw [chV, chE_yes hd hk h24, if_pos rfl] at this
  exact this
end Go.Proofs.Ytmkcpnklaijkfaa
