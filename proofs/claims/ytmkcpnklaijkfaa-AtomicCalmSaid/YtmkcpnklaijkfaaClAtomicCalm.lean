/-
  AtomicCalm, for every image and every list of entries: the law returns true. No condition.
-/
import Derived.Test.YtmkcpnklaijkfaaAtG
import Derived.Test.YtmkcpnklaijkfaaGA
namespace Go.Proofs.Ytmkcpnklaijkfaa
open Go.ChangeShapes Go.WideShapes Go.ChangeAt Go.RowKit
set_option maxRecDepth 100000 in
set_option maxHeartbeats 6400000 in
theorem atomicCalm_main (m : List Int) (l : List (Int × Int)) (A : Option Addr) (c : Nat) (B : Option Addr) (d : Nat) (w : World) (hA : Sl w A m.length c (fU m)) (hB : Sl w B l.length d (fE l)) (_ : WfU m) (wf : WfE l) (hs : sizeB m.length = true) (hk : chkE l m.length = 0) :
    Calls Try.prog 17 #[.slice A m.length c, .slice B l.length d] w fun e w' => e = .returned (.bool true) ∧ Ext w w' := by
  have hsz := sizeB_bd hs
  have hi : imgE (m.length : Int) = 0 := by simp [imgE, hs]
  have h24 := cl_24 hs
  have hk2 := cl_chk hk
  have hxl := cl_len m
  obtain ⟨x, hx⟩ : ∃ x, m.set 24 0 = x := ⟨_, rfl⟩
  rw [hx] at h24 hk2 hxl
  have h1 : ∀ W, Sl W A m.length c (fU m) → Calls Try.prog 62 #[.slice A m.length c] W (RetOwn W 24 1 x.length (fU x)) := fun W ha => by
    rw [hxl, ← hx]; exact clean_any m A c W ha hs
  have h2 := fun A c W (ha : Sl W A x.length c (fU x)) (hb : Sl W B l.length d (fE l)) => apply_ok hk2 wf A c B d W ha hb
  obtain ⟨V, hV⟩ : ∃ V, applied x l = V := ⟨_, rfl⟩
  have hVl : V.length = x.length := by rw [← hV, applied_length]
  have hV24 : V[24]? = some 0 := by rw [← hV, applied24 hk]; exact h24
  have hN := chN_le hk
  have hd : devB x [] ((1000 : Nat) : Int) false = true := at_dev (chk_iff.1 hk2).1 (by omega) (by omega)
  have h3 : ∀ A c W, Sl W A x.length c (fU x) → Sl W B l.length d (fE l) → Calls Try.prog 50 #[.agg #[.slice A x.length c, .slice none 0 0, .int .i64 1000, .bool false], .slice B l.length d] W (RetV W (chX x l, [], (1000 : Int) - chN l, false) 0) := fun A c W ha hb => by
    have := aChange_yes hd hk2 (show (wrd x [])[24]? = some 0 from h24) wf A c none 0 B d W ha (Sl.nil_ W) hb
    rw [at_left 1000 hk2 wf (by omega)] at this
    exact this
  have h4 := fun W (hb : Sl W B l.length d (fE l)) => aOps_any l m.length B d W hb wf
  rw [show aoN l m.length = (chN l : Int) from by unfold aoN; rw [if_pos hk], hk] at h4
  have hXo := chX_out hk2 h24
  have hXl : (chX x l).length = x.length := hXo.1.trans (applied_length ..)
  have hd2 : devB (chX x l) [] (((1000 : Nat) : Int) - chN l) false = true := at_dev (by rw [hXl]; exact (chk_iff.1 hk2).1) (by omega) (by omega)
  have h5 := fun A c B d W (ha : Sl W A (chX x l).length c (fU (chX x l))) (hb : Sl W B ([] : List Dw).length d (fD [])) => dView_ok hd2 A c B d W ha hb
  rw [show wrd (chX x l) [] = chX x l from rfl] at h5
  rw [hV] at h2 hXo
  have h6 := fun A c B d W (ha : Sl W A (chX x l).length c (fU (chX x l))) (hb : Sl W B V.length d (fU V)) => outside_at (hVl.trans hXl.symm) (by rw [hXl, hxl]; omega) hXo.2.1 hV24 A c B d W ha hb
  rw [hXo.b] at h6
  obtain ⟨X, hX0⟩ : ∃ X, chX x l = X := ⟨_, rfl⟩
  rw [hX0] at h3 h5 h6
  obtain ⟨N, hNN⟩ : ∃ N : Int, (chN l : Int) = N := ⟨_, rfl⟩
  rw [hNN] at h3 h4 h5
  obtain ⟨L, hL⟩ : ∃ L : Int, 1000 - N = L := ⟨_, rfl⟩
  have hw : IntKind.i64.wrap (1000 - N) = L := by rw [IntKind.wrap_i64]; omega
  have hL' : ((1000 : Nat) : Int) - N = L := hL
  rw [hL] at h3
  rw [hL'] at h5
  obtain ⟨q0, hq0⟩ : ∃ q : List Dw, [] = q := ⟨_, rfl⟩
  have hq0l : ((q0.length : Int) == 0) = true := by rw [← hq0]; rfl
  rw [hq0] at h3 h5
  have hK8 := fun W (hb : Sl W B l.length d (fE l)) => refCheck8_any l m.length B d W hb
  rw [hk] at hK8
  have HK8 := Lib.hid hK8
  clear hL
  have HH := Lib.hid (And.intro h1 (And.intro h2 (And.intro h3 (And.intro h4 (And.intro h5 h6)))))
  clear h1 h2 h3 h4 h5 h6 hK8 hq0 hL' hNN hX0 hd2 hXl hXo hd hN hV hVl hV24 hxl hk2 h24 hx hsz wf hs hk
  go_enter Try.func17, Try.ntmps17
  go_wp2_with fail
  refine (refCheck2_any _ _ _ _).mono ?_
  rintro e w1 ⟨rfl, rfl⟩
  go_wp2_with fail
  refine (HK8.out w hB).mono ?_
  rintro e w1 ⟨rfl, hd1⟩
  have hX : Ext w w1 := hd1.ext
  clear hd1
  go_wp2_with fail
  refine (HH.out.1 w1 (hA.ext hX)).mono ?_
  rintro e w2 ⟨A2, c2, rfl, -, hA2, hx2⟩
  replace hX := hX.trans hx2
  have hBl := hB.ext hX
  clear hx2 hA hB
  go_wp2_with fail
  refine (HH.out.2.1 A2 c2 w2 hA2 hBl).mono ?_
  rintro e w3 ⟨AV, cV, rfl, hAV, hxx⟩
  replace hX := hX.trans hxx
  replace hA2 := hA2.ext hxx
  replace hBl := hBl.ext hxx
  clear hxx
  go_wp2_with fail
  refine (HH.out.2.2.1 A2 c2 w3 hA2 hBl).mono ?_
  rintro e W101 ⟨AZ, cZ, BZ, dZ, rfl, sZ, tZ, hxx⟩
  go_upto_region 6 with fail
  have hZ := DV.new W101 X q0 L false AZ cZ BZ dZ 46 sZ tZ
  have loZ := Nat.le_trans hX.size hxx.size
  replace hxx := Ext.trans hxx ((Ext.refl W101).alloc (Obj.cells #[.slice AZ X.length cZ, .slice BZ q0.length dZ, .int .i64 L, .bool false] 46))
  obtain ⟨W102, hW⟩ : ∃ W, W = W101.alloc (Obj.cells #[.slice AZ X.length cZ, .slice BZ q0.length dZ, .int .i64 L, .bool false] 46) := ⟨_, rfl⟩
  obtain ⟨gZ, hg⟩ : ∃ g, W101.heap.size = g := ⟨_, rfl⟩
  rw [← hW] at hZ hxx ⊢
  rw [hg] at hZ loZ  ⊢
  clear hW hg sZ tZ
  replace hA2 := hA2.ext hxx
  replace hBl := hBl.ext hxx
  replace hAV := hAV.ext hxx
  replace hX := hX.trans hxx
  clear hxx
  obtain ⟨AZ, cZ, BZ, dZ, bZ, sZ, tZ⟩ := hZ
  obtain ⟨b0, b1, b2, b3, bf, bl⟩ := bZ
  go_wp2_with fail
  refine (HH.out.2.2.2.1 W102 hBl).mono ?_
  rintro e W103 ⟨rfl, hxx⟩
  have hZ := DV.mk (Box4.mk b0 b1 b2 b3 bf bl) sZ tZ
  clear b0 b1 b2 b3 bf bl
  replace hZ := hZ.ext hxx
  replace hA2 := hA2.ext hxx
  replace hBl := hBl.ext hxx
  replace hAV := hAV.ext hxx
  replace hX := hX.trans hxx
  clear hxx
  obtain ⟨AZ, cZ, BZ, dZ, bZ, sZ, tZ⟩ := hZ
  obtain ⟨b0, b1, b2, b3, bf, bl⟩ := bZ
  go_wp2_with fail
  refine (HH.out.2.2.2.2.1 AZ cZ BZ dZ W103 sZ tZ).mono ?_
  rintro e W104 ⟨AY, cY, rfl, -, hAY, hxx⟩
  have hZ := DV.mk (Box4.mk b0 b1 b2 b3 bf bl) sZ tZ
  clear b0 b1 b2 b3 bf bl
  replace hZ := hZ.ext hxx
  replace hA2 := hA2.ext hxx
  replace hBl := hBl.ext hxx
  replace hAV := hAV.ext hxx
  replace hX := hX.trans hxx
  clear hxx
  obtain ⟨AZ, cZ, BZ, dZ, bZ, sZ, tZ⟩ := hZ
  obtain ⟨b0, b1, b2, b3, bf, bl⟩ := bZ
  go_wp2_with fail
  refine (HH.out.2.2.2.2.2 AY cY AV cV _ hAY hAV).mono ?_
  rintro e w9 ⟨rfl, hx9⟩
  replace hX := hX.trans hx9
  clear b0 b1 b2 b3 bf bl
  go_wp2_with fail
  refine (alive12_any _).mono ?_
  rintro e w10 ⟨rfl, hx10⟩
  go_wp2_with fail
  go_ret
  exact ⟨rfl, hX.trans hx10⟩
set_option maxRecDepth 100000 in
set_option maxHeartbeats 6400000 in
theorem atomicCalm_any (m : List Int) (l : List (Int × Int)) (A : Option Addr) (c : Nat) (B : Option Addr) (d : Nat) (w : World) (hA : Sl w A m.length c (fU m)) (hB : Sl w B l.length d (fE l)) (wm : WfU m) (wf : WfE l) :
    Calls Try.prog 17 #[.slice A m.length c, .slice B l.length d] w fun e w' => e = .returned (.bool true) ∧ Ext w w' := by
  have hBm := hB.max
  have hBl := hB.le
  have hAm := hA.max
  have hAl := hA.le
  unfold maxLen at hBm hAm
  by_cases hs : sizeB (m.length : Int) = true
  rotate_left
  · have hi : imgE (m.length : Int) = 8 := by simp [imgE, hs]
    clear hs
    go_enter Try.func17, Try.ntmps17
    go_wp2_with fail
    refine (refCheck2_any _ _ _ _).mono ?_
    rintro e w1 ⟨rfl, rfl⟩
    go_wp2_with fail
    refine (alive12_any _).mono ?_
    rintro e w9 ⟨rfl, hx9⟩
    go_wp2_with fail
    go_ret
    exact ⟨rfl, hx9⟩
  have hi : imgE (m.length : Int) = 0 := by simp [imgE, hs]
  by_cases hk : chkE l m.length = 0
  rotate_left
  · have hb2 : (chkE l m.length != 0) = true := by simpa using hk
    clear hk hs
    go_enter Try.func17, Try.ntmps17
    go_wp2_with fail
    refine (refCheck2_any _ _ _ _).mono ?_
    rintro e w1 ⟨rfl, rfl⟩
    go_wp2_with fail
    refine (refCheck8_any l m.length B d w hB).mono ?_
    rintro e w1 ⟨rfl, hd1⟩
    go_wp2_with fail
    refine (alive12_any _).mono ?_
    rintro e w9 ⟨rfl, hx9⟩
    go_wp2_with fail
    go_ret
    exact ⟨rfl, hd1.ext.trans hx9⟩
  exact atomicCalm_main m l A c B d w hA hB wm wf hs hk
set_option maxRecDepth 100000 in
theorem atomicCalm_lifted (os : Os) (started : os.Started) (H : Type) (enc : TypeId × Value → H) :
    ReturnsInHanded {} Try.checked os 17 .any (Rows.atomicCalmSpec.pre6 enc Try.prog Try.f17 Rows.atomicCalmRow.domain false) (Rows.atomicCalmSpec.post enc Try.prog Try.f17 false true false false) := by
  refine returnsInHanded_of_change (C := Try.checked) own_knob started (by kernel_rfl) Try.func17
    (ChangeSpec.witness6 (enc := enc) (C := Try.checked) false ⟨#[], #[.slice none 0 0, .slice none 0 0], []⟩ 8 (by kernel_rfl) (by kernel_rfl) (by kernel_rfl) (by kernel_rfl)) ?_
  intro W base args ds gs before hval0 hW hcnd _
  have hval : ∀ (j : Nat) t v, Try.f17.params[j]? = some t → args[j]? = some v → Value.okWide Try.prog W .any base t v := hval0
  have hW' := hW
  obtain ⟨p, q, hA0, hV, rfl, hfz, hnd⟩ := hW
  have hA : DataW.TrodAll enc Try.prog W 0 (fun _ => true) true Try.f17.params.toList args.toList ds p := hA0
  rw [Try.params17] at hA hval
  obtain ⟨v0, vs0, d0, ds0, p0, q0, hargs, rfl, rfl, h0, r0⟩ := trodAll_cons hA
  obtain ⟨v1, vs1, d1, ds1, p1, q1, rfl, rfl, rfl, h1, r1⟩ := trodAll_cons r0
  obtain ⟨rfl, rfl, rfl⟩ := trodAll_nil r1
  obtain rfl : args = #[v0, v1] := by cases args; simp_all
  obtain ⟨rfl, rfl⟩ := trodVars_none hV
  obtain ⟨A0, c0, m0, rfl, hS0, wA0⟩ := op_U (hval 0 29 v0 rfl rfl) h0
  obtain ⟨A1, c1, l1, rfl, hS1, wA1⟩ := op_E (hval 1 34 v1 rfl rfl) h1
  clear hA0 hval0 hval hA
  refine (atomicCalm_any m0 l1 A0 c0 A1 c1 W hS0 hS1 wA0 wA1).mono fun e W' ⟨he, hx⟩ => ?_
  subst he
  exact ⟨_, rfl, post_law laid_out (by kernel_rfl) hW' rfl rfl rfl Try.underlying4 hx⟩
theorem atomicCalm_holds : Rows.AtomicCalmSaid :=
  OpenClaim.holds_of_wide 17 Try.f17 rfl rfl rfl rfl rfl rfl rfl ⟨rfl, rfl, rfl, rfl, rfl⟩ rfl rfl rfl rfl rfl (by kernel_rfl) Try.func17 (by kernel_rfl)
    (of_decide_eq_true (by kernel_rfl)) (by unfold Func.isWrapper; first | (rw [if_pos (by decide +kernel)]; kernel_rfl) | (rw [if_neg (by decide +kernel)]; exact ⟨rfl, rfl⟩))
    (fun os started H enc _ => atomicCalm_lifted os started H enc)
end Go.Proofs.Ytmkcpnklaijkfaa
