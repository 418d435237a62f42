/-
  AtomicAll, for every image, every list of entries, every number and every mask: the law returns true. No condition.
-/
import Derived.Test.YtmkcpnklaijkfaaAtG
import Derived.Test.YtmkcpnklaijkfaaGA
namespace Go.Proofs.Ytmkcpnklaijkfaa
open Go.ChangeShapes Go.WideShapes Go.ChangeAt Go.RowKit
/-- What the law finds, by how the change ends. -/
theorem at_key {x : List Int} {l : List (Int × Int)} {left mask : Int} (hk : chkE l x.length = 0) (wf : WfE l) (h24 : x[24]? = some 0) (i0 : -1 ≤ left) (i1 : left ≤ 1000) :
    afE x [] left false l mask = 0 ∧ (Out (afL x [] left false l mask) x ∨ Out (afL x [] left false l mask) (applied x l)) ∧
    (decide (0 ≤ left) = false ∧ (runD (x, [], left, false) (chAll l)).2.2.2 = false ∧ Out (afL x [] left false l mask) (applied x l) ∨
     decide (0 ≤ left) = true ∧ decide (left < (chN l : Int)) = (runD (x, [], left, false) (chAll l)).2.2.2 ∧ ((runD (x, [], left, false) (chAll l)).2.2.2 = false → Out (afL x [] left false l mask) (applied x l))) := by
  by_cases h : 0 ≤ left
  · obtain ⟨k, rfl⟩ : ∃ k : Nat, left = (k : Int) := ⟨left.toNat, by omega⟩
    obtain ⟨a1, a2, a3⟩ := af_ok k mask hk wf h24 (by omega)
    obtain ⟨_, _, a4, _⟩ := at_crash k mask hk wf h24
    rw [a3]
    refine ⟨a1, a2.either, .inr ⟨decide_eq_true h, ?_, fun hd => ?_⟩⟩
    · rw [a4]
      exact decide_eq_decide.2 (by omega)
    · rw [a4] at hd
      exact a2.all hk (by have := of_decide_eq_false hd; omega)
  · obtain rfl : left = -1 := by omega
    obtain ⟨a1, a2⟩ := af_free mask hk wf h24
    refine ⟨a1, .inr a2, .inl ⟨decide_eq_false h, ?_, a2⟩⟩
    rw [at_free hk wf]
set_option maxRecDepth 100000 in
set_option maxHeartbeats 6400000 in
theorem atomicAll_main (m : List Int) (l : List (Int × Int)) (left mask : Int) (A : Option Addr) (c : Nat) (B : Option Addr) (d : Nat) (w : World) (hA : Sl w A m.length c (fU m)) (hB : Sl w B l.length d (fE l)) (wm : WfU m) (wf : WfE l) (hmk : InU mask) (hs : sizeB m.length = true) (hk : chkE l m.length = 0) (i0 : -1 ≤ left) (i1 : left ≤ 1000) :
    Calls Try.prog 15 #[.slice A m.length c, .slice B l.length d, .int .i64 left, .int .u64 mask] w fun e w' => e = .returned (.bool true) ∧ Ext w w' := by
  have hsz := sizeB_bd hs
  have hi : imgE (m.length : Int) = 0 := by simp [imgE, hs]
  have h24 := cl_24 hs
  have hk2 := cl_chk hk
  have wx := cl_wf wm
  have hxl := cl_len m
  obtain ⟨x, hx⟩ : ∃ x, m.set 24 0 = x := ⟨_, rfl⟩
  rw [hx] at h24 hk2 wx hxl
  have h1 : ∀ W, Sl W A m.length c (fU m) → Calls Try.prog 62 #[.slice A m.length c] W (RetOwn W 24 1 x.length (fU x)) := fun W ha => by
    rw [hxl, ← hx]; exact clean_any m A c W ha hs
  have hd : devB x [] left false = true := at_dev (chk_iff.1 hk2).1 i0 (by omega)
  obtain ⟨k1, k2, k3⟩ := at_key (mask := mask) hk2 wf h24 i0 i1
  have h2 := fun A c W (ha : Sl W A x.length c (fU x)) (hb : Sl W B l.length d (fE l)) => apply_ok hk2 wf A c B d W ha hb
  have h3 := fun A c A2 c2 W (ha : Sl W A x.length c (fU x)) (hq : Sl W A2 ([] : List Dw).length c2 (fD [])) (hb : Sl W B l.length d (fE l)) => aAfter_any x [] left false l mask A c A2 c2 B d W ha hq hb wx (fun x hx => by cases hx) wf hmk
  rw [k1] at h3
  have h4 := fun A c A2 c2 W (ha : Sl W A x.length c (fU x)) (hq : Sl W A2 ([] : List Dw).length c2 (fD [])) (hb : Sl W B l.length d (fE l)) => aChange_yes hd hk2 (show (wrd x [])[24]? = some 0 from h24) wf A c A2 c2 B d W ha hq hb
  have h5 := fun W (hb : Sl W B l.length d (fE l)) => aOps_any l m.length B d W hb wf
  rw [show aoN l m.length = (chN l : Int) from by unfold aoN; rw [if_pos hk], hk] at h5
  have hK8 := fun W (hb : Sl W B l.length d (fE l)) => refCheck8_any l m.length B d W hb
  rw [hk] at hK8
  obtain ⟨V, hV⟩ : ∃ V, applied x l = V := ⟨_, rfl⟩
  have hVl : V.length = x.length := by rw [← hV, applied_length]
  have hV24 : V[24]? = some 0 := by rw [← hV, applied24 hk]; exact h24
  rw [hV] at h2 k2 k3
  obtain ⟨Y, hY⟩ : ∃ Y, afL x [] left false l mask = Y := ⟨_, rfl⟩
  rw [hY] at h3 k2 k3
  obtain ⟨⟨m1, q1, l1, n1⟩, eD⟩ : ∃ D, runD (x, [], left, false) (chAll l) = D := ⟨_, rfl⟩
  rw [eD] at h4 k3
  simp only at k3
  obtain ⟨N, hN⟩ : ∃ N : Int, (chN l : Int) = N := ⟨_, rfl⟩
  rw [hN] at h5 k3
  obtain ⟨q0, hq0⟩ : ∃ q : List Dw, [] = q := ⟨_, rfl⟩
  have hn0 : ∀ W, Sl W none q0.length 0 (fD q0) := fun W => by rw [← hq0]; exact Sl.nil_ W
  have hq0l : q0.length = 0 := by rw [← hq0]; rfl
  rw [hq0] at h3 h4
  have hYl : Y.length = x.length := by
    rcases k2 with h | h
    · exact h.1
    · exact h.1.trans hVl
  have hY24 : Y[24]? = some 0 := by
    rcases k2 with h | h
    · exact h.2.1
    · exact h.2.1
  have h6 := fun A c B d W (ha : Sl W A Y.length c (fU Y)) (hb : Sl W B V.length d (fU V)) => outside_at (hVl.trans hYl.symm) (by rw [hYl, hxl]; omega) hY24 hV24 A c B d W ha hb
  have h7 := fun A c B d W (ha : Sl W A Y.length c (fU Y)) (hb : Sl W B x.length d (fU x)) => outside_at hYl.symm (by rw [hYl, hxl]; omega) hY24 h24 A c B d W ha hb
  have HK8 := Lib.hid hK8
  have k4 : outB Y x = true ∨ outB Y x = false ∧ outB Y V = true := by
    cases hb : outB Y x with
    | true => exact .inl rfl
    | false =>
      refine .inr ⟨rfl, ?_⟩
      rcases k2 with h | h
      · rw [h.b] at hb; cases hb
      · exact h.b
  have k5 : decide (0 ≤ left) = false ∧ n1 = false ∧ outB Y V = true ∨ decide (0 ≤ left) = true ∧ decide (left < N) = true ∧ n1 = true ∨ decide (0 ≤ left) = true ∧ decide (left < N) = false ∧ n1 = false ∧ outB Y V = true := by
    rcases k3 with ⟨g1, g2, g3⟩ | ⟨g1, g2, g3⟩
    · exact .inl ⟨g1, g2, g3.b⟩
    · cases n1
      · exact .inr (.inr ⟨g1, g2, rfl, (g3 rfl).b⟩)
      · exact .inr (.inl ⟨g1, g2, rfl⟩)
  have hb1 : decide (left < -1) = false := decide_eq_false (by omega)
  have hb2 : decide (1000 < left) = false := decide_eq_false (by omega)
  have HH := Lib.hid (And.intro h1 (And.intro h2 (And.intro h3 (And.intro h4 (And.intro h5 (And.intro h6 (And.intro h7 (And.intro hn0 hq0l))))))))
  have K4 := Lib.hid k4
  have K5 := Lib.hid k5
  have HXL := Lib.hid hxl
  clear h1 h2 h3 h4 h5 h6 h7 hn0 hq0l hK8 k1 k2 k3 k4 k5 hYl hY24 hq0 hN eD hY hV hVl hV24 hd hxl wx hk2 h24 hx hsz wm wf hmk hs hk i0 i1
  go_enter Try.func15, Try.ntmps15
  go_wp2_with fail
  refine (refCheck2_any _ _ _ _).mono ?_
  rintro e w1 ⟨rfl, rfl⟩
  go_wp2_with fail
  refine (HK8.out w hB).mono ?_
  rintro e w1 ⟨rfl, hd1⟩
  have hX : Ext w w1 := hd1.ext
  clear hd1
  go_wp2_with fail
  refine (HH.out.1 w1 (hA.ext hX)).mono ?_
  rintro e w2 ⟨A2, c2, rfl, -, hA2, hx2⟩
  replace hX := hX.trans hx2
  have hBl := hB.ext hX
  clear hx2 hA hB
  have hD := DV.new w2 x q0 left false A2 c2 none 0 46 hA2 (HH.out.2.2.2.2.2.2.2.1 _)
  replace hA2 := hA2.alloc (Obj.cells #[.slice A2 x.length c2, .slice none q0.length 0, .int .i64 left, .bool false] 46)
  have loD := hX.size
  replace hBl := hBl.alloc (Obj.cells #[.slice A2 x.length c2, .slice none q0.length 0, .int .i64 left, .bool false] 46)
  replace hX := hX.alloc (Obj.cells #[.slice A2 x.length c2, .slice none q0.length 0, .int .i64 left, .bool false] 46)
  rw [HH.out.2.2.2.2.2.2.2.2] at hD hA2 hBl hX
  go_upto_region 5 with fail
  obtain ⟨W3, hW3⟩ : ∃ W, W = w2.alloc (Obj.cells #[.slice A2 x.length c2, .slice none 0 0, .int .i64 left, .bool false] 46) := ⟨_, rfl⟩
  obtain ⟨gD, hgD⟩ : ∃ g, w2.heap.size = g := ⟨_, rfl⟩
  rw [← hW3] at hD hA2 hBl hX ⊢
  rw [hgD] at hD loD ⊢
  clear hW3 hgD
  obtain ⟨AD, cD, BD, dD, bD, sD, tD⟩ := hD
  obtain ⟨b0, b1, b2, b3, bf, bl⟩ := bD
  go_wp2_with fail
  refine (HH.out.2.1 A2 c2 W3 hA2 hBl).mono ?_
  rintro e W101 ⟨AV, cV, rfl, hAV, hxx⟩
  have hD := DV.mk (Box4.mk b0 b1 b2 b3 bf bl) sD tD
  clear b0 b1 b2 b3 bf bl
  replace hD := hD.ext hxx
  replace hA2 := hA2.ext hxx
  replace hBl := hBl.ext hxx
  replace hX := hX.trans hxx
  clear hxx
  obtain ⟨AD, cD, BD, dD, bD, sD, tD⟩ := hD
  obtain ⟨b0, b1, b2, b3, bf, bl⟩ := bD
  go_wp2_with fail
  refine (HH.out.2.2.1 AD cD BD dD W101 sD tD hBl).mono ?_
  rintro e W102 ⟨AY, cY, rfl, hAY, hxx⟩
  have hD := DV.mk (Box4.mk b0 b1 b2 b3 bf bl) sD tD
  clear b0 b1 b2 b3 bf bl
  replace hD := hD.ext hxx
  replace hA2 := hA2.ext hxx
  replace hBl := hBl.ext hxx
  replace hAV := hAV.ext hxx
  replace hX := hX.trans hxx
  clear hxx
  obtain ⟨AD, cD, BD, dD, bD, sD, tD⟩ := hD
  obtain ⟨b0, b1, b2, b3, bf, bl⟩ := bD
  go_wp2_with fail
  refine (HH.out.2.2.2.1 AD cD BD dD W102 sD tD hBl).mono ?_
  rintro e W103 ⟨AZ, cZ, BZ, dZ, rfl, sZ, tZ, hxx⟩
  have hD := DV.mk (Box4.mk b0 b1 b2 b3 bf bl) sD tD
  clear b0 b1 b2 b3 bf bl
  go_upto_region 8 with fail
  have hZ := DV.new W103 m1 q1 l1 n1 AZ cZ BZ dZ 46 sZ tZ
  have neDZ : gD ≠ W103.heap.size := Nat.ne_of_lt (Nat.lt_of_lt_of_le hD.lt hxx.size)
  have loZ := Nat.le_trans hX.size hxx.size
  replace hxx := Ext.trans hxx ((Ext.refl W103).alloc (Obj.cells #[.slice AZ m1.length cZ, .slice BZ q1.length dZ, .int .i64 l1, .bool n1] 46))
  obtain ⟨W104, hW⟩ : ∃ W, W = W103.alloc (Obj.cells #[.slice AZ m1.length cZ, .slice BZ q1.length dZ, .int .i64 l1, .bool n1] 46) := ⟨_, rfl⟩
  obtain ⟨gZ, hg⟩ : ∃ g, W103.heap.size = g := ⟨_, rfl⟩
  rw [← hW] at hZ hxx ⊢
  rw [hg] at hZ loZ neDZ ⊢
  clear hW hg sZ tZ
  replace hD := hD.ext hxx
  replace hA2 := hA2.ext hxx
  replace hBl := hBl.ext hxx
  replace hAV := hAV.ext hxx
  replace hAY := hAY.ext hxx
  replace hX := hX.trans hxx
  clear hxx
  obtain ⟨AD, cD, BD, dD, bD, sD, tD⟩ := hD
  obtain ⟨b0, b1, b2, b3, bf, bl⟩ := bD
  go_wp2_with fail
  refine (HH.out.2.2.2.2.1 W104 hBl).mono ?_
  rintro e W105 ⟨rfl, hxx⟩
  have hD := DV.mk (Box4.mk b0 b1 b2 b3 bf bl) sD tD
  clear b0 b1 b2 b3 bf bl
  replace hD := hD.ext hxx
  replace hZ := hZ.ext hxx
  replace hA2 := hA2.ext hxx
  replace hBl := hBl.ext hxx
  replace hAV := hAV.ext hxx
  replace hAY := hAY.ext hxx
  replace hX := hX.trans hxx
  clear hxx
  obtain ⟨AZ, cZ, BZ, dZ, bZ, sZ, tZ⟩ := hZ
  obtain ⟨b0, b1, b2, b3, bf, bl⟩ := bZ
  rcases K5.out with ⟨g1, g2, g3⟩ | ⟨g1, g2, g3⟩ | ⟨g1, g2, g3, g4⟩
  · subst g2
    have G := Lib.hid g3
    clear g3
    go_wp2_with fail
    refine (HH.out.2.2.2.2.2.1 AY cY AV cV _ hAY hAV).mono ?_
    rintro e w9 ⟨rfl, hx9⟩
    rw [G.out]
    replace hX := hX.trans hx9
    clear b0 b1 b2 b3 bf bl
    go_wp2_with fail
    refine (alive12_any _).mono ?_
    rintro e w10 ⟨rfl, hx10⟩
    go_wp2_with fail
    go_ret
    exact ⟨rfl, hX.trans hx10⟩
  · subst g3
    rcases K4.out with k1 | ⟨k1, k2⟩
    · have G := Lib.hid k1
      clear k1
      go_wp2_with fail
      refine (HH.out.2.2.2.2.2.2.1 AY cY A2 c2 _ hAY hA2).mono ?_
      rintro e w9 ⟨rfl, hx9⟩
      rw [G.out]
      replace hX := hX.trans hx9
      clear b0 b1 b2 b3 bf bl
      go_wp2_with fail
      refine (alive12_any _).mono ?_
      rintro e w10 ⟨rfl, hx10⟩
      go_wp2_with fail
      go_ret
      exact ⟨rfl, hX.trans hx10⟩
    · have G := Lib.hid (And.intro k1 k2)
      clear k1 k2
      go_wp2_with fail
      refine (HH.out.2.2.2.2.2.2.1 AY cY A2 c2 _ hAY hA2).mono ?_
      rintro e w9 ⟨rfl, hx9⟩
      rw [G.out.1]
      replace hX := hX.trans hx9
      replace hAY := hAY.ext hx9
      replace hAV := hAV.ext hx9
      clear b0 b1 b2 b3 bf bl hx9
      go_wp2_with fail
      refine (HH.out.2.2.2.2.2.1 AY cY AV cV _ hAY hAV).mono ?_
      rintro e w10 ⟨rfl, hx10⟩
      rw [G.out.2]
      replace hX := hX.trans hx10
      go_wp2_with fail
      refine (alive12_any _).mono ?_
      rintro e w11 ⟨rfl, hx11⟩
      go_wp2_with fail
      go_ret
      exact ⟨rfl, hX.trans hx11⟩
  · subst g3
    have G := Lib.hid g4
    clear g4
    go_wp2_with fail
    refine (HH.out.2.2.2.2.2.1 AY cY AV cV _ hAY hAV).mono ?_
    rintro e w9 ⟨rfl, hx9⟩
    rw [G.out]
    replace hX := hX.trans hx9
    clear b0 b1 b2 b3 bf bl
    go_wp2_with fail
    refine (alive12_any _).mono ?_
    rintro e w10 ⟨rfl, hx10⟩
    go_wp2_with fail
    go_ret
    exact ⟨rfl, hX.trans hx10⟩
set_option maxRecDepth 100000 in
set_option maxHeartbeats 6400000 in
theorem atomicAll_any (m : List Int) (l : List (Int × Int)) (left mask : Int) (A : Option Addr) (c : Nat) (B : Option Addr) (d : Nat) (w : World) (hA : Sl w A m.length c (fU m)) (hB : Sl w B l.length d (fE l)) (wm : WfU m) (wf : WfE l) (hmk : InU mask) :
    Calls Try.prog 15 #[.slice A m.length c, .slice B l.length d, .int .i64 left, .int .u64 mask] w fun e w' => e = .returned (.bool true) ∧ Ext w w' := by
  have hBm := hB.max
  have hBl := hB.le
  have hAm := hA.max
  have hAl := hA.le
  unfold maxLen at hBm hAm
  by_cases hs : sizeB (m.length : Int) = true
  rotate_left
  · have hi : imgE (m.length : Int) = 8 := by simp [imgE, hs]
    clear hs
    go_enter Try.func15, Try.ntmps15
    go_wp2_with fail
    refine (refCheck2_any _ _ _ _).mono ?_
    rintro e w1 ⟨rfl, rfl⟩
    go_wp2_with fail
    refine (alive12_any _).mono ?_
    rintro e w9 ⟨rfl, hx9⟩
    go_wp2_with fail
    go_ret
    exact ⟨rfl, hx9⟩
  have hi : imgE (m.length : Int) = 0 := by simp [imgE, hs]
  by_cases hk : chkE l m.length = 0
  rotate_left
  · have hb2 : (chkE l m.length != 0) = true := by simpa using hk
    clear hk hs
    go_enter Try.func15, Try.ntmps15
    go_wp2_with fail
    refine (refCheck2_any _ _ _ _).mono ?_
    rintro e w1 ⟨rfl, rfl⟩
    go_wp2_with fail
    refine (refCheck8_any l m.length B d w hB).mono ?_
    rintro e w1 ⟨rfl, hd1⟩
    go_wp2_with fail
    refine (alive12_any _).mono ?_
    rintro e w9 ⟨rfl, hx9⟩
    go_wp2_with fail
    go_ret
    exact ⟨rfl, hd1.ext.trans hx9⟩
  by_cases hr : -1 ≤ left
  rotate_left
  · have hn : decide (left < -1) = true := decide_eq_true (by omega)
    have HK := Lib.hid hk
    clear hr hk hs
    go_enter Try.func15, Try.ntmps15
    go_wp2_with fail
    refine (refCheck2_any _ _ _ _).mono ?_
    rintro e w1 ⟨rfl, rfl⟩
    go_wp2_with fail
    refine (refCheck8_any l m.length B d w hB).mono ?_
    rintro e w1 ⟨rfl, hd1⟩
    rw [HK.out]
    go_wp2_with fail
    refine (alive12_any _).mono ?_
    rintro e w9 ⟨rfl, hx9⟩
    go_wp2_with fail
    go_ret
    exact ⟨rfl, hd1.ext.trans hx9⟩
  have i0 := hr
  clear hr
  by_cases hr : left ≤ 1000
  rotate_left
  · have hn : decide (1000 < left) = true := decide_eq_true (by omega)
    have HK := Lib.hid hk
    clear hr hk hs
    go_enter Try.func15, Try.ntmps15
    go_wp2_with fail
    refine (refCheck2_any _ _ _ _).mono ?_
    rintro e w1 ⟨rfl, rfl⟩
    go_wp2_with fail
    refine (refCheck8_any l m.length B d w hB).mono ?_
    rintro e w1 ⟨rfl, hd1⟩
    rw [HK.out]
    go_wp2_with fail
    refine (alive12_any _).mono ?_
    rintro e w9 ⟨rfl, hx9⟩
    go_wp2_with fail
    go_ret
    exact ⟨rfl, hd1.ext.trans hx9⟩
  have i1 := hr
  clear hr
  exact atomicAll_main m l left mask A c B d w hA hB wm wf hmk hs hk i0 i1
set_option maxRecDepth 100000 in
theorem atomicAll_lifted (os : Os) (started : os.Started) (H : Type) (enc : TypeId × Value → H) :
    ReturnsInHanded {} Try.checked os 15 .any (Rows.atomicAllSpec.pre6 enc Try.prog Try.f15 Rows.atomicAllRow.domain false) (Rows.atomicAllSpec.post enc Try.prog Try.f15 false true false false) := by
  refine returnsInHanded_of_change (C := Try.checked) own_knob started (by kernel_rfl) Try.func15
    (ChangeSpec.witness6 (enc := enc) (C := Try.checked) false ⟨#[], #[.slice none 0 0, .slice none 0 0, .int .i64 0, .int .u64 0], []⟩ 8 (by kernel_rfl) (by kernel_rfl) (by kernel_rfl) (by kernel_rfl)) ?_
  intro W base args ds gs before hval0 hW hcnd _
  have hval : ∀ (j : Nat) t v, Try.f15.params[j]? = some t → args[j]? = some v → Value.okWide Try.prog W .any base t v := hval0
  have hW' := hW
  obtain ⟨p, q, hA0, hV, rfl, hfz, hnd⟩ := hW
  have hA : DataW.TrodAll enc Try.prog W 0 (fun _ => true) true Try.f15.params.toList args.toList ds p := hA0
  rw [Try.params15] at hA hval
  obtain ⟨v0, vs0, d0, ds0, p0, q0, hargs, rfl, rfl, h0, r0⟩ := trodAll_cons hA
  obtain ⟨v1, vs1, d1, ds1, p1, q1, rfl, rfl, rfl, h1, r1⟩ := trodAll_cons r0
  obtain ⟨v2, vs2, d2, ds2, p2, q2, rfl, rfl, rfl, h2, r2⟩ := trodAll_cons r1
  obtain ⟨v3, vs3, d3, ds3, p3, q3, rfl, rfl, rfl, h3, r3⟩ := trodAll_cons r2
  obtain ⟨rfl, rfl, rfl⟩ := trodAll_nil r3
  obtain rfl : args = #[v0, v1, v2, v3] := by cases args; simp_all
  obtain ⟨rfl, rfl⟩ := trodVars_none hV
  obtain ⟨A0, c0, m0, rfl, hS0, wA0⟩ := op_U (hval 0 29 v0 rfl rfl) h0
  obtain ⟨A1, c1, l1, rfl, hS1, wA1⟩ := op_E (hval 1 34 v1 rfl rfl) h1
  obtain ⟨x2, rfl, wx2⟩ := op_i (hval 2 3 v2 rfl rfl) h2
  obtain ⟨x3, rfl, wx3⟩ := op_u (hval 3 24 v3 rfl rfl) h3
  clear hA0 hval0 hval hA
  refine (atomicAll_any m0 l1 x2 x3 A0 c0 A1 c1 W hS0 hS1 wA0 wA1 wx3).mono fun e W' ⟨he, hx⟩ => ?_
  subst he
  exact ⟨_, rfl, post_law laid_out (by kernel_rfl) hW' rfl rfl rfl Try.underlying4 hx⟩
theorem atomicAll_holds : Rows.AtomicAllSaid :=
  OpenClaim.holds_of_wide 15 Try.f15 rfl rfl rfl rfl rfl rfl rfl ⟨rfl, rfl, rfl, rfl, rfl⟩ rfl rfl rfl rfl rfl (by kernel_rfl) Try.func15 (by kernel_rfl)
    (of_decide_eq_true (by kernel_rfl)) (by unfold Func.isWrapper; first | (rw [if_pos (by decide +kernel)]; kernel_rfl) | (rw [if_neg (by decide +kernel)]; exact ⟨rfl, rfl⟩))
    (fun os started H enc _ => atomicAll_lifted os started H enc)
end Go.Proofs.Ytmkcpnklaijkfaa
