/-
  AtomicAgain, for every image, every list of entries, every two numbers and every two masks: the law returns true. No condition.
-/
import Derived.Test.YtmkcpnklaijkfaaAtG
import Derived.Test.YtmkcpnklaijkfaaDev10x
import Derived.Test.YtmkcpnklaijkfaaGA
namespace Go.Proofs.Ytmkcpnklaijkfaa
open Go.ChangeShapes Go.WideShapes Go.ChangeAt Go.RowKit
/-- An image on which something is committed holds it in its journal. -/
theorem jhas_self {x : List Int} (h : crE x = 0) (hn : (crL x).length ≠ 0) : JHas x (crL x) ∧ chkE (crL x) x.length = 0 := by
  obtain ⟨hs, hk⟩ := cr_ok h
  refine ⟨?_, hk⟩
  have hb : crB x = true := by
    cases hb : crB x with
    | true => rfl
    | false => exact absurd (by simp [crL, hb]) hn
  have hc : crL x = jnl x (cn x) := by unfold crL; rw [if_pos ⟨hs, hb⟩]
  rw [hc] at hk ⊢
  refine ⟨?_, fun i e he => ?_⟩
  · unfold crB at hb
    simp only [Bool.and_eq_true, decide_eq_true_eq] at hb
    exact hb.2.symm
  · obtain ⟨hi, rfl⟩ := List.getElem?_eq_some_iff.1 he
    have hm := mayB_bd ((chk_iff.1 hk).2.2.1 _ (List.getElem_mem hi))
    simp only [jnl, List.getElem_map, List.getElem_range, jat] at hm ⊢
    refine ⟨?_, trivial⟩
    split at hm
    · omega
    · rename_i h1
      rw [if_neg h1]
/-- A crash while an image is replayed leaves what replaying leaves. -/
theorem again_img {z : List Int} (again : Nat) (other : Int) (h : crE z = 0) (wz : WfU z) :
    crE (crM other 0 (dvV z [] again false).1 (dvV z [] again false).2.1) = 0 ∧ imgL (crM other 0 (dvV z [] again false).1 (dvV z [] again false).2.1) = imgL z ∨ devB z [] again false = false := by
  by_cases hd : devB z [] (again : Int) false = true
  · left
    have he : dvE z [] again false = 0 := by simp only [dvE, hd, if_true]; exact h
    by_cases hn : (crL z).length = 0
    · have e1 : dvV z [] (again : Int) false = (z, ([] : List Dw), (again : Int), false) := by unfold dvV; rw [if_pos he]; exact if_pos hn
      rw [e1]
      exact ⟨h, rfl⟩
    · have e1 : dvV z [] (again : Int) false = runD (z, [], (again : Int), false) (repOps (crL z)) := by unfold dvV; rw [if_pos he]; exact if_neg hn
      rw [e1]
      obtain ⟨hj, hk⟩ := jhas_self h hn
      obtain ⟨_, r2, r3, _⟩ := rep_crash again other hk hn (crL_wf wz h) hj
      refine ⟨r2, ?_⟩
      rw [r3]
      simp [imgL, h, imgX]
  · exact .inr (by simpa using hd)
set_option maxRecDepth 100000 in
set_option maxHeartbeats 6400000 in
theorem atomicAgain_main (m : List Int) (l : List (Int × Int)) (lf ag : Nat) (mask other : Int) (A : Option Addr) (c : Nat) (B : Option Addr) (d : Nat) (w : World) (hA : Sl w A m.length c (fU m)) (hB : Sl w B l.length d (fE l)) (wm : WfU m) (wf : WfE l) (hmk : InU mask) (hot : InU other) (hs : sizeB m.length = true) (hk : chkE l m.length = 0) (i0 : lf ≤ 1000) (i1 : ag ≤ 1000) :
    Calls Try.prog 19 #[.slice A m.length c, .slice B l.length d, .int .i64 lf, .int .i64 ag, .int .u64 mask, .int .u64 other] w fun e w' => e = .returned (.bool true) ∧ Ext w w' := by
  have hsz := sizeB_bd hs
  have hi : imgE (m.length : Int) = 0 := by simp [imgE, hs]
  have h24 := cl_24 hs
  have hk2 := cl_chk hk
  have wx := cl_wf wm
  have hxl := cl_len m
  obtain ⟨x, hx⟩ : ∃ x, m.set 24 0 = x := ⟨_, rfl⟩
  rw [hx] at h24 hk2 wx hxl
  have h1 : ∀ W, Sl W A m.length c (fU m) → Calls Try.prog 62 #[.slice A m.length c] W (RetOwn W 24 1 x.length (fU x)) := fun W ha => by
    rw [hxl, ← hx]; exact clean_any m A c W ha hs
  obtain ⟨k1, -, k3⟩ := af_ok lf mask hk2 wf h24 (by omega)
  have hd : devB x [] (lf : Int) false = true := at_dev (chk_iff.1 hk2).1 (by omega) (by omega)
  have h2 := fun A c A2 c2 W (ha : Sl W A x.length c (fU x)) (hq : Sl W A2 ([] : List Dw).length c2 (fD [])) (hb : Sl W B l.length d (fE l)) => aAfter_any x [] (lf : Int) false l mask A c A2 c2 B d W ha hq hb wx (fun x hx => by cases hx) wf hmk
  rw [k1, k3] at h2
  have h3 := fun A c A2 c2 W (ha : Sl W A x.length c (fU x)) (hq : Sl W A2 ([] : List Dw).length c2 (fD [])) (hb : Sl W B l.length d (fE l)) => aChange_yes hd hk2 (show (wrd x [])[24]? = some 0 from h24) wf A c A2 c2 B d W ha hq hb
  have hxs : sizeB (x.length : Int) = true := (chk_iff.1 hk2).1
  have hxz := sizeB_bd hxs
  have hv := devB_run (left := (lf : Int)) (down := false) hd (ch_in hk2 wf)
  have hw := runD_W (n := (x.length : Int)) hxz.2.1 (D := (x, [], (lf : Int), false)) (os := chAll l) ⟨wx, fun x hx => by cases hx⟩ (ch_in hk2 wf)
  obtain ⟨z1, z2, -, -⟩ := at_crash lf mask hk2 wf h24
  unfold afZ at h2 k3
  obtain ⟨⟨m1, q1, l1, n1⟩, eD⟩ : ∃ D, runD (x, [], (lf : Int), false) (chAll l) = D := ⟨_, rfl⟩
  rw [eD] at h2 h3 hv hw z1 z2
  simp only at h2 hv hw z1 z2
  have h4 := fun A c B d W (ha : Sl W A m1.length c (fU m1)) (hb : Sl W B q1.length d (fD q1)) => dCrash_ok' (mask := mask) hv.1 hmk A c B d W ha hb
  have wz : WfU (crM mask 0 m1 q1) := wfU_cr hw.2 hw.1
  obtain ⟨z, hz⟩ : ∃ z, crM mask 0 m1 q1 = z := ⟨_, rfl⟩
  rw [hz] at h2 h4 z1 z2 wz
  have hzs : sizeB (z.length : Int) = true := by rw [z1]; exact hxs
  have hd1 : devB z [] (-1) false = true := at_dev hzs (by omega) (by omega)
  have hd2 : devB z [] (ag : Int) false = true := at_dev hzs (by omega) (by omega)
  have h5 := fun A c B d W (ha : Sl W A z.length c (fU z)) (hb : Sl W B ([] : List Dw).length d (fD [])) => dArm_any z [] (-1) false (ag : Int) A c B d W ha hb
  have hae : armE z [] (-1) false (ag : Int) = 0 := by unfold armE; rw [if_pos (devE_yes hd1), if_neg (by omega)]
  rw [armV, hae, if_pos rfl] at h5
  have h6 := fun A c B d W (ha : Sl W A z.length c (fU z)) (hb : Sl W B ([] : List Dw).length d (fD [])) => dev10_any z [] (ag : Int) false A c B d W ha hb wz (fun x hx => by cases hx)
  have hde : dvE z [] (ag : Int) false = 0 := by simp only [dvE, hd2, if_true]; exact z2
  rw [hde] at h6
  obtain ⟨j1, j2⟩ : crE (crM other 0 (dvV z [] ag false).1 (dvV z [] ag false).2.1) = 0 ∧ imgL (crM other 0 (dvV z [] ag false).1 (dvV z [] ag false).2.1) = imgL z := by
    rcases again_img ag other z2 wz with h | h
    · exact h
    · rw [hd2] at h; cases h
  have hdv : devB (dvV z [] (ag : Int) false).1 (dvV z [] (ag : Int) false).2.1 (dvV z [] (ag : Int) false).2.2.1 (dvV z [] (ag : Int) false).2.2.2 = true ∧ DevW ((dvV z [] (ag : Int) false).1, (dvV z [] (ag : Int) false).2.1) := by
    unfold dvV
    rw [if_pos hde]
    split
    · exact ⟨hd2, wz, fun x hx => by cases hx⟩
    · obtain ⟨_, hck⟩ := cr_ok (show crE (wrd z []) = 0 from z2)
      obtain ⟨_, hr⟩ := rep_wf hck
      have hzz := sizeB_bd hzs
      have hin : ∀ o ∈ repOps (crL (wrd z [])), OpIn (z.length : Int) o := by
        intro o ho
        unfold repOps at ho
        rcases List.mem_append.1 ho with h | h
        · exact putOps_in hr hzz.2.2 (crL_wf (show WfU (wrd z []) from wz) z2) 256 o h
        · exact putOps_in (fun e he => by simp at he; subst he; simp only; omega) hzz.2.2 wf24 256 o h
      exact ⟨(devB_run (left := (ag : Int)) (down := false) hd2 hin).1, runD_W (n := (z.length : Int)) hzz.2.1 (D := (z, [], (ag : Int), false)) ⟨wz, fun x hx => by cases hx⟩ hin⟩
  obtain ⟨⟨m2, q2, l2, n2⟩, eD2⟩ : ∃ D, dvV z [] (ag : Int) false = D := ⟨_, rfl⟩
  rw [eD2] at h6 j1 j2 hdv
  simp only at j1 j2 hdv
  have h7 := fun A c B d W (ha : Sl W A m2.length c (fU m2)) (hb : Sl W B q2.length d (fD q2)) => dCrash_ok' (mask := other) hdv.1 hot A c B d W ha hb
  have wy : WfU (crM other 0 m2 q2) := wfU_cr hdv.2.2 hdv.2.1
  obtain ⟨y, hy⟩ : ∃ y, crM other 0 m2 q2 = y := ⟨_, rfl⟩
  rw [hy] at h7 wy j1 j2
  have h8 := fun A c W (ha : Sl W A y.length c (fU y)) => image10_any y A c W ha wy
  rw [j1, j2] at h8
  obtain ⟨Y, hY⟩ : ∃ Y, imgL z = Y := ⟨_, rfl⟩
  rw [hY] at h2 h8
  obtain ⟨q0, hq0⟩ : ∃ q : List Dw, [] = q := ⟨_, rfl⟩
  have hn0 : ∀ W, Sl W none q0.length 0 (fD q0) := fun W => by rw [← hq0]; exact Sl.nil_ W
  have hq0l : q0.length = 0 := by rw [← hq0]; rfl
  rw [hq0] at h2 h3 h4 h5 h6 h7
  have hK8 := fun W (hb : Sl W B l.length d (fE l)) => refCheck8_any l m.length B d W hb
  rw [hk] at hK8
  have HK8 := Lib.hid hK8
  have b1 : decide ((lf : Int) < 0) = false := decide_eq_false (by omega)
  have b2 : decide ((1000 : Int) < (lf : Int)) = false := decide_eq_false (by omega)
  have b3 : decide ((ag : Int) < 0) = false := decide_eq_false (by omega)
  have b4 : decide ((1000 : Int) < (ag : Int)) = false := decide_eq_false (by omega)
  have HH := Lib.hid (And.intro h1 (And.intro h2 (And.intro h3 (And.intro h4 (And.intro h5 (And.intro h6 (And.intro h7 (And.intro h8 (And.intro hn0 hq0l)))))))))
  obtain ⟨L, hL⟩ : ∃ L : Int, (lf : Int) = L := ⟨_, rfl⟩
  obtain ⟨G, hG⟩ : ∃ L : Int, (ag : Int) = L := ⟨_, rfl⟩
  rw [hL] at HH b1 b2 ⊢
  rw [hG] at HH b3 b4 ⊢
  clear h1 h2 h3 h4 h5 h6 h7 h8 hn0 hq0l hK8 hq0 hY hy wy hdv eD2 j1 j2 hde hae hd1 hd2 hzs hz wz z1 z2 eD hw hv hxz hxs hd k1 k3 hL hG hxl wx hk2 h24 hx hsz wm wf hmk hot hs hk i0 i1
  go_enter Try.func19, Try.ntmps19
  go_wp2_with fail
  refine (refCheck2_any _ _ _ _).mono ?_
  rintro e w1 ⟨rfl, rfl⟩
  go_wp2_with fail
  refine (HK8.out w hB).mono ?_
  rintro e w1 ⟨rfl, hd1⟩
  have hX : Ext w w1 := hd1.ext
  clear hd1
  go_wp2_with fail
  refine (HH.out.1 w1 (hA.ext hX)).mono ?_
  rintro e w2 ⟨A2, c2, rfl, -, hA2, hx2⟩
  replace hX := hX.trans hx2
  have hBl := hB.ext hX
  clear hx2 hA hB
  have hD := DV.new w2 x q0 L false A2 c2 none 0 46 hA2 (HH.out.2.2.2.2.2.2.2.2.1 _)
  have loD := hX.size
  replace hBl := hBl.alloc (Obj.cells #[.slice A2 x.length c2, .slice none q0.length 0, .int .i64 L, .bool false] 46)
  replace hX := hX.alloc (Obj.cells #[.slice A2 x.length c2, .slice none q0.length 0, .int .i64 L, .bool false] 46)
  rw [HH.out.2.2.2.2.2.2.2.2.2] at hD hBl hX
  go_upto_region 4 with fail
  obtain ⟨W3, hW3⟩ : ∃ W, W = w2.alloc (Obj.cells #[.slice A2 x.length c2, .slice none 0 0, .int .i64 L, .bool false] 46) := ⟨_, rfl⟩
  obtain ⟨gD, hgD⟩ : ∃ g, w2.heap.size = g := ⟨_, rfl⟩
  rw [← hW3] at hD hBl hX ⊢
  rw [hgD] at hD loD ⊢
  clear hW3 hgD hA2
  obtain ⟨AD, cD, BD, dD, bD, sD, tD⟩ := hD
  obtain ⟨b0, b1, b2, b3, bf, bl⟩ := bD
  go_wp2_with fail
  refine (HH.out.2.1 AD cD BD dD W3 sD tD hBl).mono ?_
  rintro e W101 ⟨AY, cY, rfl, hAY, hxx⟩
  have hD := DV.mk (Box4.mk b0 b1 b2 b3 bf bl) sD tD
  clear b0 b1 b2 b3 bf bl
  replace hD := hD.ext hxx
  replace hBl := hBl.ext hxx
  replace hX := hX.trans hxx
  clear hxx
  obtain ⟨AD, cD, BD, dD, bD, sD, tD⟩ := hD
  obtain ⟨b0, b1, b2, b3, bf, bl⟩ := bD
  go_wp2_with fail
  refine (HH.out.2.2.1 AD cD BD dD W101 sD tD hBl).mono ?_
  rintro e W102 ⟨AZ1, cZ1, BZ1, dZ1, rfl, sZ1, tZ1, hxx⟩
  have hD := DV.mk (Box4.mk b0 b1 b2 b3 bf bl) sD tD
  clear b0 b1 b2 b3 bf bl
  go_upto_region 6 with fail
  have hZ1 := DV.new W102 m1 q1 l1 n1 AZ1 cZ1 BZ1 dZ1 46 sZ1 tZ1
  have neDZ1 : gD ≠ W102.heap.size := Nat.ne_of_lt (Nat.lt_of_lt_of_le hD.lt hxx.size)
  have loZ1 := Nat.le_trans hX.size hxx.size
  replace hxx := Ext.trans hxx ((Ext.refl W102).alloc (Obj.cells #[.slice AZ1 m1.length cZ1, .slice BZ1 q1.length dZ1, .int .i64 l1, .bool n1] 46))
  obtain ⟨W103, hW⟩ : ∃ W, W = W102.alloc (Obj.cells #[.slice AZ1 m1.length cZ1, .slice BZ1 q1.length dZ1, .int .i64 l1, .bool n1] 46) := ⟨_, rfl⟩
  obtain ⟨gZ1, hg⟩ : ∃ g, W102.heap.size = g := ⟨_, rfl⟩
  rw [← hW] at hZ1 hxx ⊢
  rw [hg] at hZ1 loZ1 neDZ1 ⊢
  clear hW hg sZ1 tZ1
  replace hD := hD.ext hxx
  replace hBl := hBl.ext hxx
  replace hAY := hAY.ext hxx
  replace hX := hX.trans hxx
  clear hxx
  clear hD hBl loD
  obtain ⟨AZ1, cZ1, BZ1, dZ1, bZ1, sZ1, tZ1⟩ := hZ1
  obtain ⟨b0, b1, b2, b3, bf, bl⟩ := bZ1
  go_wp2_with fail
  refine (HH.out.2.2.2.1 AZ1 cZ1 BZ1 dZ1 W103 sZ1 tZ1).mono ?_
  rintro e W104 ⟨AU, cU, BU, dU, rfl, sU, tU, hxx⟩
  have hZ1 := DV.mk (Box4.mk b0 b1 b2 b3 bf bl) sZ1 tZ1
  clear b0 b1 b2 b3 bf bl
  go_upto_region 7 with fail
  have hU := DV.new W104 z q0 ((-1)) false AU cU BU dU 46 sU tU
  have neZ1U : gZ1 ≠ W104.heap.size := Nat.ne_of_lt (Nat.lt_of_lt_of_le hZ1.lt hxx.size)
  have loU := Nat.le_trans hX.size hxx.size
  replace hxx := Ext.trans hxx ((Ext.refl W104).alloc (Obj.cells #[.slice AU z.length cU, .slice BU q0.length dU, .int .i64 (-1), .bool false] 46))
  obtain ⟨W105, hW⟩ : ∃ W, W = W104.alloc (Obj.cells #[.slice AU z.length cU, .slice BU q0.length dU, .int .i64 (-1), .bool false] 46) := ⟨_, rfl⟩
  obtain ⟨gU, hg⟩ : ∃ g, W104.heap.size = g := ⟨_, rfl⟩
  rw [← hW] at hU hxx ⊢
  rw [hg] at hU loU neZ1U ⊢
  clear hW hg sU tU
  replace hZ1 := hZ1.ext hxx
  replace hAY := hAY.ext hxx
  replace hX := hX.trans hxx
  clear hxx
  clear hZ1
  obtain ⟨AU, cU, BU, dU, bU, sU, tU⟩ := hU
  obtain ⟨b0, b1, b2, b3, bf, bl⟩ := bU
  go_wp2_with fail
  refine (HH.out.2.2.2.2.1 AU cU BU dU W105 sU tU).mono ?_
  rintro e W106 ⟨A9, c9, B9, d9, rfl, s9, t9, hxx⟩
  have hU := DV.mk (Box4.mk b0 b1 b2 b3 bf bl) sU tU
  clear b0 b1 b2 b3 bf bl
  replace hU := hU.ext hxx
  replace hAY := hAY.ext hxx
  replace hX := hX.trans hxx
  have h9 := hU
  obtain ⟨A8, c8, B8, d8, b9, s8, t8⟩ := h9
  obtain ⟨b0, b1, b2, b3, bf, bl⟩ := b9
  go_upto_region 8 with fail
  clear b0 b1 b2 b3 bf bl s8 t8 hxx
  have h9 := hU.set s9 t9 (G) (false)
  replace hAY := (by first | exact hU.slU hAY (.slice A9 z.length c9) (.slice B9 q0.length d9) (.int .i64 G) (.bool false) | exact hU.slD hAY (.slice A9 z.length c9) (.slice B9 q0.length d9) (.int .i64 G) (.bool false) | exact hU.slE hAY (.slice A9 z.length c9) (.slice B9 q0.length d9) (.int .i64 G) (.bool false))
  replace hX := hX.setB loU (.slice A9 z.length c9) (.slice B9 q0.length d9) (.int .i64 G) (.bool false)
  obtain ⟨W107, hW⟩ : ∃ W, W = setB W106 gU (.slice A9 z.length c9) (.slice B9 q0.length d9) (.int .i64 G) (.bool false) := ⟨_, rfl⟩
  rw [show ((((W106.setCell ⟨gU, 0, none⟩ (.slice A9 z.length c9)).setCell ⟨gU, 1, none⟩ (.slice B9 q0.length d9)).setCell ⟨gU, 2, none⟩ (.int .i64 G)).setCell ⟨gU, 3, none⟩ (.bool false)) = setB W106 gU (.slice A9 z.length c9) (.slice B9 q0.length d9) (.int .i64 G) (.bool false) from rfl, ← hW]
  rw [← hW] at h9 hX hAY
  replace hU := h9
  clear h9 hW s9 t9
  obtain ⟨AU, cU, BU, dU, bU, sU, tU⟩ := hU
  obtain ⟨b0, b1, b2, b3, bf, bl⟩ := bU
  go_wp2_with fail
  refine (HH.out.2.2.2.2.2.1 AU cU BU dU W107 sU tU).mono ?_
  rintro e W108 ⟨AV, cV, BV, dV, rfl, sV, tV, hxx⟩
  have hU := DV.mk (Box4.mk b0 b1 b2 b3 bf bl) sU tU
  clear b0 b1 b2 b3 bf bl
  go_upto_region 9 with fail
  have hV := DV.new W108 m2 q2 l2 n2 AV cV BV dV 46 sV tV
  have neUV : gU ≠ W108.heap.size := Nat.ne_of_lt (Nat.lt_of_lt_of_le hU.lt hxx.size)
  have loV := Nat.le_trans hX.size hxx.size
  replace hxx := Ext.trans hxx ((Ext.refl W108).alloc (Obj.cells #[.slice AV m2.length cV, .slice BV q2.length dV, .int .i64 l2, .bool n2] 46))
  obtain ⟨W109, hW⟩ : ∃ W, W = W108.alloc (Obj.cells #[.slice AV m2.length cV, .slice BV q2.length dV, .int .i64 l2, .bool n2] 46) := ⟨_, rfl⟩
  obtain ⟨gV, hg⟩ : ∃ g, W108.heap.size = g := ⟨_, rfl⟩
  rw [← hW] at hV hxx ⊢
  rw [hg] at hV loV neUV ⊢
  clear hW hg sV tV
  replace hU := hU.ext hxx
  replace hAY := hAY.ext hxx
  replace hX := hX.trans hxx
  clear hxx
  clear hU
  obtain ⟨AV, cV, BV, dV, bV, sV, tV⟩ := hV
  obtain ⟨b0, b1, b2, b3, bf, bl⟩ := bV
  go_wp2_with fail
  refine (HH.out.2.2.2.2.2.2.1 AV cV BV dV W109 sV tV).mono ?_
  rintro e W110 ⟨A9, c9, B9, d9, rfl, s9, t9, hxx⟩
  have hV := DV.mk (Box4.mk b0 b1 b2 b3 bf bl) sV tV
  clear b0 b1 b2 b3 bf bl
  replace hV := hV.ext hxx
  replace hAY := hAY.ext hxx
  replace hX := hX.trans hxx
  have h9 := hV
  obtain ⟨A8, c8, B8, d8, b9, s8, t8⟩ := h9
  obtain ⟨b0, b1, b2, b3, bf, bl⟩ := b9
  go_upto_region 10 with fail
  clear b0 b1 b2 b3 bf bl s8 t8 hxx
  have h9 := hV.set s9 t9 ((-1)) (false)
  replace hAY := (by first | exact hV.slU hAY (.slice A9 y.length c9) (.slice B9 q0.length d9) (.int .i64 (-1)) (.bool false) | exact hV.slD hAY (.slice A9 y.length c9) (.slice B9 q0.length d9) (.int .i64 (-1)) (.bool false) | exact hV.slE hAY (.slice A9 y.length c9) (.slice B9 q0.length d9) (.int .i64 (-1)) (.bool false))
  replace hX := hX.setB loV (.slice A9 y.length c9) (.slice B9 q0.length d9) (.int .i64 (-1)) (.bool false)
  obtain ⟨W111, hW⟩ : ∃ W, W = setB W110 gV (.slice A9 y.length c9) (.slice B9 q0.length d9) (.int .i64 (-1)) (.bool false) := ⟨_, rfl⟩
  rw [show ((((W110.setCell ⟨gV, 0, none⟩ (.slice A9 y.length c9)).setCell ⟨gV, 1, none⟩ (.slice B9 q0.length d9)).setCell ⟨gV, 2, none⟩ (.int .i64 (-1))).setCell ⟨gV, 3, none⟩ (.bool false)) = setB W110 gV (.slice A9 y.length c9) (.slice B9 q0.length d9) (.int .i64 (-1)) (.bool false) from rfl, ← hW]
  rw [← hW] at h9 hX hAY
  replace hV := h9
  clear h9 hW s9 t9
  obtain ⟨AV, cV, BV, dV, bV, sV, tV⟩ := hV
  obtain ⟨b0, b1, b2, b3, bf, bl⟩ := bV
  go_wp2_with fail
  refine (HH.out.2.2.2.2.2.2.2.1 AV cV W111 sV).mono ?_
  rintro e W112 ⟨AZ, cZ, rfl, hAZ, hxx⟩
  have hV := DV.mk (Box4.mk b0 b1 b2 b3 bf bl) sV tV
  clear b0 b1 b2 b3 bf bl
  replace hV := hV.ext hxx
  replace hAY := hAY.ext hxx
  replace hX := hX.trans hxx
  clear hxx
  go_wp2_with fail
  refine (same2_yes Y Y rfl AZ AY cZ cY _ hAZ hAY).mono ?_
  rintro e w9 ⟨rfl, hdn⟩
  replace hX := hX.trans hdn.ext
  go_wp2_with fail
  refine (alive12_any _).mono ?_
  rintro e w10 ⟨rfl, hx10⟩
  go_wp2_with fail
  go_ret
  exact ⟨rfl, hX.trans hx10⟩
set_option maxRecDepth 100000 in
set_option maxHeartbeats 6400000 in
theorem atomicAgain_any (m : List Int) (l : List (Int × Int)) (left again mask other : Int) (A : Option Addr) (c : Nat) (B : Option Addr) (d : Nat) (w : World) (hA : Sl w A m.length c (fU m)) (hB : Sl w B l.length d (fE l)) (wm : WfU m) (wf : WfE l) (hmk : InU mask) (hot : InU other) :
    Calls Try.prog 19 #[.slice A m.length c, .slice B l.length d, .int .i64 left, .int .i64 again, .int .u64 mask, .int .u64 other] w fun e w' => e = .returned (.bool true) ∧ Ext w w' := by
  have hBm := hB.max
  have hBl := hB.le
  have hAm := hA.max
  have hAl := hA.le
  unfold maxLen at hBm hAm
  by_cases hs : sizeB (m.length : Int) = true
  rotate_left
  · have hi : imgE (m.length : Int) = 8 := by simp [imgE, hs]
    clear hs
    go_enter Try.func19, Try.ntmps19
    go_wp2_with fail
    refine (refCheck2_any _ _ _ _).mono ?_
    rintro e w1 ⟨rfl, rfl⟩
    go_wp2_with fail
    refine (alive12_any _).mono ?_
    rintro e w9 ⟨rfl, hx9⟩
    go_wp2_with fail
    go_ret
    exact ⟨rfl, hx9⟩
  have hi : imgE (m.length : Int) = 0 := by simp [imgE, hs]
  by_cases hk : chkE l m.length = 0
  rotate_left
  · have hb2 : (chkE l m.length != 0) = true := by simpa using hk
    clear hk hs
    go_enter Try.func19, Try.ntmps19
    go_wp2_with fail
    refine (refCheck2_any _ _ _ _).mono ?_
    rintro e w1 ⟨rfl, rfl⟩
    go_wp2_with fail
    refine (refCheck8_any l m.length B d w hB).mono ?_
    rintro e w1 ⟨rfl, hd1⟩
    go_wp2_with fail
    refine (alive12_any _).mono ?_
    rintro e w9 ⟨rfl, hx9⟩
    go_wp2_with fail
    go_ret
    exact ⟨rfl, hd1.ext.trans hx9⟩
  by_cases hr : 0 ≤ left
  rotate_left
  · have hn : decide (left < 0) = true := decide_eq_true (by omega)
    have HK := Lib.hid hk
    clear hr hk hs
    go_enter Try.func19, Try.ntmps19
    go_wp2_with fail
    refine (refCheck2_any _ _ _ _).mono ?_
    rintro e w1 ⟨rfl, rfl⟩
    go_wp2_with fail
    refine (refCheck8_any l m.length B d w hB).mono ?_
    rintro e w1 ⟨rfl, hd1⟩
    rw [HK.out]
    go_wp2_with fail
    refine (alive12_any _).mono ?_
    rintro e w9 ⟨rfl, hx9⟩
    go_wp2_with fail
    go_ret
    exact ⟨rfl, hd1.ext.trans hx9⟩
  have i0 := hr
  clear hr
  by_cases hr : left ≤ 1000
  rotate_left
  · have hn : decide (1000 < left) = true := decide_eq_true (by omega)
    have HK := Lib.hid hk
    clear hr hk hs
    go_enter Try.func19, Try.ntmps19
    go_wp2_with fail
    refine (refCheck2_any _ _ _ _).mono ?_
    rintro e w1 ⟨rfl, rfl⟩
    go_wp2_with fail
    refine (refCheck8_any l m.length B d w hB).mono ?_
    rintro e w1 ⟨rfl, hd1⟩
    rw [HK.out]
    go_wp2_with fail
    refine (alive12_any _).mono ?_
    rintro e w9 ⟨rfl, hx9⟩
    go_wp2_with fail
    go_ret
    exact ⟨rfl, hd1.ext.trans hx9⟩
  have i1 := hr
  clear hr
  by_cases hr : 0 ≤ again
  rotate_left
  · have hn : decide (again < 0) = true := decide_eq_true (by omega)
    have HK := Lib.hid hk
    clear hr hk hs
    go_enter Try.func19, Try.ntmps19
    go_wp2_with fail
    refine (refCheck2_any _ _ _ _).mono ?_
    rintro e w1 ⟨rfl, rfl⟩
    go_wp2_with fail
    refine (refCheck8_any l m.length B d w hB).mono ?_
    rintro e w1 ⟨rfl, hd1⟩
    rw [HK.out]
    go_wp2_with fail
    refine (alive12_any _).mono ?_
    rintro e w9 ⟨rfl, hx9⟩
    go_wp2_with fail
    go_ret
    exact ⟨rfl, hd1.ext.trans hx9⟩
  have i2 := hr
  clear hr
  by_cases hr : again ≤ 1000
  rotate_left
  · have hn : decide (1000 < again) = true := decide_eq_true (by omega)
    have HK := Lib.hid hk
    clear hr hk hs
    go_enter Try.func19, Try.ntmps19
    go_wp2_with fail
    refine (refCheck2_any _ _ _ _).mono ?_
    rintro e w1 ⟨rfl, rfl⟩
    go_wp2_with fail
    refine (refCheck8_any l m.length B d w hB).mono ?_
    rintro e w1 ⟨rfl, hd1⟩
    rw [HK.out]
    go_wp2_with fail
    refine (alive12_any _).mono ?_
    rintro e w9 ⟨rfl, hx9⟩
    go_wp2_with fail
    go_ret
    exact ⟨rfl, hd1.ext.trans hx9⟩
  have i3 := hr
  clear hr
  obtain ⟨lf, rfl⟩ : ∃ k : Nat, left = (k : Int) := ⟨left.toNat, by omega⟩
  obtain ⟨ag, rfl⟩ : ∃ k : Nat, again = (k : Int) := ⟨again.toNat, by omega⟩
  exact atomicAgain_main m l lf ag mask other A c B d w hA hB wm wf hmk hot hs hk (by omega) (by omega)
set_option maxRecDepth 100000 in
theorem atomicAgain_lifted (os : Os) (started : os.Started) (H : Type) (enc : TypeId × Value → H) :
    ReturnsInHanded {} Try.checked os 19 .any (Rows.atomicAgainSpec.pre6 enc Try.prog Try.f19 Rows.atomicAgainRow.domain false) (Rows.atomicAgainSpec.post enc Try.prog Try.f19 false true false false) := by
  refine returnsInHanded_of_change (C := Try.checked) own_knob started (by kernel_rfl) Try.func19
    (ChangeSpec.witness6 (enc := enc) (C := Try.checked) false ⟨#[], #[.slice none 0 0, .slice none 0 0, .int .i64 0, .int .i64 0, .int .u64 0, .int .u64 0], []⟩ 8 (by kernel_rfl) (by kernel_rfl) (by kernel_rfl) (by kernel_rfl)) ?_
  intro W base args ds gs before hval0 hW hcnd _
  have hval : ∀ (j : Nat) t v, Try.f19.params[j]? = some t → args[j]? = some v → Value.okWide Try.prog W .any base t v := hval0
  have hW' := hW
  obtain ⟨p, q, hA0, hV, rfl, hfz, hnd⟩ := hW
  have hA : DataW.TrodAll enc Try.prog W 0 (fun _ => true) true Try.f19.params.toList args.toList ds p := hA0
  rw [Try.params19] at hA hval
  obtain ⟨v0, vs0, d0, ds0, p0, q0, hargs, rfl, rfl, h0, r0⟩ := trodAll_cons hA
  obtain ⟨v1, vs1, d1, ds1, p1, q1, rfl, rfl, rfl, h1, r1⟩ := trodAll_cons r0
  obtain ⟨v2, vs2, d2, ds2, p2, q2, rfl, rfl, rfl, h2, r2⟩ := trodAll_cons r1
  obtain ⟨v3, vs3, d3, ds3, p3, q3, rfl, rfl, rfl, h3, r3⟩ := trodAll_cons r2
  obtain ⟨v4, vs4, d4, ds4, p4, q4, rfl, rfl, rfl, h4, r4⟩ := trodAll_cons r3
  obtain ⟨v5, vs5, d5, ds5, p5, q5, rfl, rfl, rfl, h5, r5⟩ := trodAll_cons r4
  obtain ⟨rfl, rfl, rfl⟩ := trodAll_nil r5
  obtain rfl : args = #[v0, v1, v2, v3, v4, v5] := by cases args; simp_all
  obtain ⟨rfl, rfl⟩ := trodVars_none hV
  obtain ⟨A0, c0, m0, rfl, hS0, wA0⟩ := op_U (hval 0 29 v0 rfl rfl) h0
  obtain ⟨A1, c1, l1, rfl, hS1, wA1⟩ := op_E (hval 1 34 v1 rfl rfl) h1
  obtain ⟨x2, rfl, wx2⟩ := op_i (hval 2 3 v2 rfl rfl) h2
  obtain ⟨x3, rfl, wx3⟩ := op_i (hval 3 3 v3 rfl rfl) h3
  obtain ⟨x4, rfl, wx4⟩ := op_u (hval 4 24 v4 rfl rfl) h4
  obtain ⟨x5, rfl, wx5⟩ := op_u (hval 5 24 v5 rfl rfl) h5
  clear hA0 hval0 hval hA
  refine (atomicAgain_any m0 l1 x2 x3 x4 x5 A0 c0 A1 c1 W hS0 hS1 wA0 wA1 wx4 wx5).mono fun e W' ⟨he, hx⟩ => ?_
  subst he
  exact ⟨_, rfl, post_law laid_out (by kernel_rfl) hW' rfl rfl rfl Try.underlying4 hx⟩
theorem atomicAgain_holds : Rows.AtomicAgainSaid :=
  OpenClaim.holds_of_wide 19 Try.f19 rfl rfl rfl rfl rfl rfl rfl ⟨rfl, rfl, rfl, rfl, rfl⟩ rfl rfl rfl rfl rfl (by kernel_rfl) Try.func19 (by kernel_rfl)
    (of_decide_eq_true (by kernel_rfl)) (by unfold Func.isWrapper; first | (rw [if_pos (by decide +kernel)]; kernel_rfl) | (rw [if_neg (by decide +kernel)]; exact ⟨rfl, rfl⟩))
    (fun os started H enc _ => atomicAgain_lifted os started H enc)
end Go.Proofs.Ytmkcpnklaijkfaa
