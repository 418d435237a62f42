/-
  ReplayCrash, for every image, every list of entries, every number and every mask: the law returns true. No condition.
-/
import Derived.Test.YtmkcpnklaijkfaaAlive10
import Derived.Test.YtmkcpnklaijkfaaLawR
import Derived.Test.YtmkcpnklaijkfaaGA
namespace Go.Proofs.Ytmkcpnklaijkfaa
open Go.ChangeShapes Go.WideShapes Go.ChangeAt Go.RowKit
theorem dCrash_ok {m : List Int} {q : List Dw} {left : Int} {down : Bool} {mask : Int} (hd : devB m q left down = true) (hm : InU mask) (A : Option Addr) (c : Nat) (B : Option Addr) (d : Nat) (w : World) (hA : Sl w A m.length c (fU m)) (hB : Sl w B q.length d (fD q)) :
    Calls Try.prog 31 #[.agg #[.slice A m.length c, .slice B q.length d, .int .i64 left, .bool down], .int .u64 mask] w (RetV w (crM mask 0 m q, [], -1, false) 0) := by
  have := dCrash_any m q left down mask A c B d w hA hB hm
  rw [devE_yes hd, crashV_ok hd] at this
  exact this
set_option maxRecDepth 100000 in
set_option maxHeartbeats 6400000 in
theorem replayCrash_main (m : List Int) (l : List (Int × Int)) (left mask : Int) (A : Option Addr) (c : Nat) (B : Option Addr) (d : Nat) (w : World) (hA : Sl w A m.length c (fU m)) (hB : Sl w B l.length d (fE l)) (wm : WfU m) (wf : WfE l) (hmk : InU mask) (hn : l.length ≠ 0) (hk : chkE l m.length = 0) (i0 : 0 ≤ left) (i1 : left ≤ 200) :
    Calls Try.prog 12 #[.slice A m.length c, .slice B l.length d, .int .i64 left, .int .u64 mask] w fun e w' => e = .returned (.bool true) ∧ Ext w w' := by
  obtain ⟨hs, hl, hmb, _⟩ := chk_iff.1 hk
  have hsz := sizeB_bd hs
  have hi : imgE (m.length : Int) = 0 := by simp [imgE, hs]
  have hwl := withL_length hk
  have hk2 : chkE l (withL m l).length = 0 := by rw [hwl]; exact hk
  have hjh := withL_has hk
  obtain ⟨_, _, hcl⟩ := cr_has hk2 hn hjh
  obtain ⟨e1, e2⟩ := img_has hk2 hn hjh
  have wfw := withL_wf hk wm wf
  obtain ⟨r1, r2, r3, r4⟩ := rep_crash left.toNat mask hk2 hn wf hjh
  rw [Int.toNat_of_nonneg i0] at r1 r2 r3 r4
  have hdv : devB (withL m l) [] left false = true := devB_mk (by rw [hwl]; exact hs) (by omega) (by omega) (by intro h; cases h) rfl
  obtain ⟨_, hr⟩ := rep_wf hk2
  have ho : ∀ o ∈ repOps l, OpIn (withL m l).length o := by
    intro o ho
    unfold repOps at ho
    have h8 : ((withL m l).length : Int) % 8 = 0 := by rw [hwl]; exact hsz.2.2
    rcases List.mem_append.1 ho with h | h
    · exact putOps_in hr h8 wf 256 o h
    · exact putOps_in (fun e he => by simp at he; subst he; simp only; omega) h8 wf24 256 o h
  have hv := devB_run (left := left) (down := false) hdv ho
  have wx := runD_W (n := ((withL m l).length : Int)) (by rw [hwl]; exact hsz.2.1) (D := (withL m l, [], left, false)) (os := repOps l) ⟨wfw, fun x hx => by cases hx⟩ ho
  obtain ⟨hoe, -⟩ := opN_chk hk hn
  have h1 := fun A c B d W (ha : Sl W A m.length c (fU m)) (hb : Sl W B l.length d (fE l)) => with10_any m l A c B d W ha hb hk wf
  have h2 := fun A c W (ha : Sl W A (withL m l).length c (fU (withL m l))) => image10_any (withL m l) A c W ha wfw
  have h3 : ∀ A c W, Sl W A (withL m l).length c (fU (withL m l)) → Calls Try.prog 30 #[.agg #[.slice A (withL m l).length c, .slice none 0 0, .int .i64 left, .bool false]] W (RetV W (runD (withL m l, [], left, false) (repOps l)) 0) := fun A c W ha => by
    have := dev10_yes (withL m l) [] left false A c none 0 W ha (Sl.nil_ W) wfw (fun x hx => by cases hx) hdv e1 (by show (crL (withL m l)).length ≠ 0; rw [hcl]; exact hn)
    rw [show wrd (withL m l) [] = withL m l from rfl, hcl] at this
    exact this
  rw [e1, e2] at h2
  obtain ⟨x, hx⟩ : ∃ V, withL m l = V := ⟨_, rfl⟩
  rw [hx] at h1 h2 h3 r1 r2 r3 r4 hv hwl wfw wx
  obtain ⟨Y, hY⟩ : ∃ V, (applied x l).set 24 0 = V := ⟨_, rfl⟩
  have hYl : Y.length = x.length := by rw [← hY, List.length_set, applied_length]
  rw [hY] at h2 r3
  obtain ⟨⟨m1, q1, l1, n1⟩, eD⟩ : ∃ D, runD (x, [], left, false) (repOps l) = D := ⟨_, rfl⟩
  rw [eD] at h3 r1 r2 r3 r4 hv wx
  simp only at r1 r2 r3 r4 hv wx
  have h4 := fun A c B d W (ha : Sl W A m1.length c (fU m1)) (hb : Sl W B q1.length d (fD q1)) => dCrash_ok (mask := mask) hv.1 hmk A c B d W ha hb
  have wz : WfU (crM mask 0 m1 q1) := wfU_cr wx.2 wx.1
  obtain ⟨z, hz⟩ : ∃ z, crM mask 0 m1 q1 = z := ⟨_, rfl⟩
  rw [hz] at h4 r1 r2 r3 wz
  obtain ⟨q5, hq5⟩ : ∃ x : List Dw, [] = x := ⟨_, rfl⟩
  rw [hq5] at h4
  have h5 := fun A c W (ha : Sl W A z.length c (fU z)) => image10_any z A c W ha wz
  rw [r2, r3] at h5
  have h6 := fun B d W (hb : Sl W B l.length d (fE l)) => ops10_any l B d W hb
  rw [hoe] at h6
  obtain ⟨N, hN⟩ : ∃ N, opN l = N := ⟨_, rfl⟩
  rw [hN] at h6 r4
  have h7 := fun W (hb : Sl W B l.length d (fE l)) => refCheck8_any l m.length B d W hb
  rw [hk] at h7
  have hne0 : ((l.length : Int) == 0) = false := by simpa using hn
  have hBm := hB.max
  have hBle := hB.le
  have hAm := hA.max
  have hAl := hA.le
  unfold maxLen at hBm hAm
  rw [hwl] at h2 h3
  have HH := Lib.hid (And.intro h1 (And.intro h2 (And.intro h3 (And.intro h4 (And.intro h5 (And.intro h6 h7))))))
  have hnb := r4.symm
  clear r4 h1 h2 h3 h4 h5 h6 h7 r1 r2 r3 hv hwl wfw hx hY hYl eD wx wz hz hq5 hN hoe ho hr hdv e1 e2 hcl hjh hk2 hk hn hs hmb hl hsz wm wf hmk
  go_enter Try.func12, Try.ntmps12
  go_wp2_with fail
  refine (refCheck2_any _ _ _ _).mono ?_
  rintro e w1 ⟨rfl, rfl⟩
  go_wp2_with fail
  refine (HH.out.2.2.2.2.2.2 w hB).mono ?_
  rintro e w1 ⟨rfl, hd1⟩
  have hX : Ext w w1 := hd1.ext
  go_wp2_with fail
  refine (HH.out.1 A c B d w1 (hA.ext hX) (hB.ext hX)).mono ?_
  rintro e w2 ⟨A2, c2, rfl, _, hA2, hx2⟩
  go_wp2_with fail
  refine (HH.out.2.1 A2 c2 w2 hA2).mono ?_
  rintro e w3 ⟨A3, c3, rfl, hA3, hx3⟩
  replace hA2 := hA2.ext hx3
  have hBl := (hB.ext hX).ext (hx2.trans hx3)
  replace hX := hX.trans (hx2.trans hx3)
  clear hx2 hx3 hd1
  go_wp2_with fail
  refine (HH.out.2.2.1 A2 c2 w3 hA2).mono ?_
  rintro e W101 ⟨AD, cD, BD, dD, rfl, sD, tD, hxx⟩
  go_upto_region 6 with fail
  have hD := DV.new W101 m1 q1 l1 n1 AD cD BD dD 46 sD tD
  have loD := Nat.le_trans hX.size hxx.size
  replace hxx := Ext.trans hxx ((Ext.refl W101).alloc (Obj.cells #[.slice AD m1.length cD, .slice BD q1.length dD, .int .i64 l1, .bool n1] 46))
  obtain ⟨W102, hW⟩ : ∃ W, W = W101.alloc (Obj.cells #[.slice AD m1.length cD, .slice BD q1.length dD, .int .i64 l1, .bool n1] 46) := ⟨_, rfl⟩
  obtain ⟨gD, hg⟩ : ∃ g, W101.heap.size = g := ⟨_, rfl⟩
  rw [← hW] at hD hxx ⊢
  rw [hg] at hD loD  ⊢
  clear hW hg sD tD
  replace hA3 := hA3.ext hxx
  replace hBl := hBl.ext hxx
  replace hX := hX.trans hxx
  clear hxx
  clear hA2
  obtain ⟨AD, cD, BD, dD, bD, sD, tD⟩ := hD
  obtain ⟨b0, b1, b2, b3, bf, bl⟩ := bD
  go_wp2_with fail
  refine (HH.out.2.2.2.1 AD cD BD dD W102 sD tD).mono ?_
  rintro e W103 ⟨AZ, cZ, BZ, dZ, rfl, sZ, tZ, hxx⟩
  have hD := DV.mk (Box4.mk b0 b1 b2 b3 bf bl) sD tD
  clear b0 b1 b2 b3 bf bl
  go_upto_region 7 with fail
  have hZ := DV.new W103 z q5 ((-1)) false AZ cZ BZ dZ 46 sZ tZ
  have neDZ : gD ≠ W103.heap.size := Nat.ne_of_lt (Nat.lt_of_lt_of_le hD.lt hxx.size)
  have loZ := Nat.le_trans hX.size hxx.size
  replace hxx := Ext.trans hxx ((Ext.refl W103).alloc (Obj.cells #[.slice AZ z.length cZ, .slice BZ q5.length dZ, .int .i64 (-1), .bool false] 46))
  obtain ⟨W104, hW⟩ : ∃ W, W = W103.alloc (Obj.cells #[.slice AZ z.length cZ, .slice BZ q5.length dZ, .int .i64 (-1), .bool false] 46) := ⟨_, rfl⟩
  obtain ⟨gZ, hg⟩ : ∃ g, W103.heap.size = g := ⟨_, rfl⟩
  rw [← hW] at hZ hxx ⊢
  rw [hg] at hZ loZ neDZ ⊢
  clear hW hg sZ tZ
  replace hD := hD.ext hxx
  replace hA3 := hA3.ext hxx
  replace hBl := hBl.ext hxx
  replace hX := hX.trans hxx
  clear hxx
  obtain ⟨AZ, cZ, BZ, dZ, bZ, sZ, tZ⟩ := hZ
  obtain ⟨b0, b1, b2, b3, bf, bl⟩ := bZ
  go_wp2_with fail
  refine (HH.out.2.2.2.2.1 AZ cZ W104 sZ).mono ?_
  rintro e W105 ⟨A6, c6, rfl, hA6, hxx⟩
  have hZ := DV.mk (Box4.mk b0 b1 b2 b3 bf bl) sZ tZ
  clear b0 b1 b2 b3 bf bl
  replace hD := hD.ext hxx
  replace hZ := hZ.ext hxx
  replace hA3 := hA3.ext hxx
  replace hBl := hBl.ext hxx
  replace hX := hX.trans hxx
  clear hxx
  obtain ⟨AZ, cZ, BZ, dZ, bZ, sZ, tZ⟩ := hZ
  obtain ⟨b0, b1, b2, b3, bf, bl⟩ := bZ
  go_wp2_with fail
  refine (HH.out.2.2.2.2.2.1 B d W105 hBl).mono ?_
  rintro e W106 ⟨rfl, hxx⟩
  have hZ := DV.mk (Box4.mk b0 b1 b2 b3 bf bl) sZ tZ
  clear b0 b1 b2 b3 bf bl
  replace hD := hD.ext hxx
  replace hZ := hZ.ext hxx
  replace hA3 := hA3.ext hxx
  replace hBl := hBl.ext hxx
  replace hA6 := hA6.ext hxx
  replace hX := hX.trans hxx
  clear hxx
  obtain ⟨AD, cD, BD, dD, bD, sD, tD⟩ := hD
  obtain ⟨b0, b1, b2, b3, bf, bl⟩ := bD
  go_wp2_with fail
  refine (same2_yes Y Y rfl A6 A3 c6 c3 _ hA6 hA3).mono ?_
  rintro e w8 ⟨rfl, hdn⟩
  have hD := DV.mk (Box4.mk b0 b1 b2 b3 bf bl) sD tD
  clear b0 b1 b2 b3 bf bl
  have hxx := hdn.ext
  replace hD := hD.ext hxx
  replace hZ := hZ.ext hxx
  replace hA3 := hA3.ext hxx
  replace hBl := hBl.ext hxx
  replace hA6 := hA6.ext hxx
  replace hX := hX.trans hxx
  obtain ⟨AD, cD, BD, dD, bD, sD, tD⟩ := hD
  obtain ⟨b0, b1, b2, b3, bf, bl⟩ := bD
  go_wp2_with fail
  refine (alive10_any _).mono ?_
  rintro e w9 ⟨rfl, hx9⟩
  go_wp2_with fail
  go_ret
  exact ⟨rfl, hX.trans hx9⟩
set_option maxRecDepth 100000 in
set_option maxHeartbeats 6400000 in
theorem replayCrash_any (m : List Int) (l : List (Int × Int)) (left mask : Int) (A : Option Addr) (c : Nat) (B : Option Addr) (d : Nat) (w : World) (hA : Sl w A m.length c (fU m)) (hB : Sl w B l.length d (fE l)) (wm : WfU m) (wf : WfE l) (hmk : InU mask) :
    Calls Try.prog 12 #[.slice A m.length c, .slice B l.length d, .int .i64 left, .int .u64 mask] w fun e w' => e = .returned (.bool true) ∧ Ext w w' := by
  have hBm := hB.max
  have hBl := hB.le
  have hAm := hA.max
  have hAl := hA.le
  unfold maxLen at hBm hAm
  cases hs : sizeB (m.length : Int) with
  | false =>
    have hi : imgE (m.length : Int) = 8 := by simp [imgE, hs]
    go_enter Try.func12, Try.ntmps12
    go_wp2_with fail
    refine (refCheck2_any _ _ _ _).mono ?_
    rintro e w1 ⟨rfl, rfl⟩
    go_wp2_with fail
    refine (alive10_any _).mono ?_
    rintro e w9 ⟨rfl, hx9⟩
    go_wp2_with fail
    go_ret
    exact ⟨rfl, hx9⟩
  | true =>
    have hi : imgE (m.length : Int) = 0 := by simp [imgE, hs]
    by_cases hn : l.length = 0
    · have hb : ((l.length : Int) == 0) = true := by rw [hn]; rfl
      clear hn
      go_enter Try.func12, Try.ntmps12
      go_wp2_with fail
      refine (refCheck2_any _ _ _ _).mono ?_
      rintro e w1 ⟨rfl, rfl⟩
      go_wp2_with fail
      refine (alive10_any _).mono ?_
      rintro e w9 ⟨rfl, hx9⟩
      go_wp2_with fail
      go_ret
      exact ⟨rfl, hx9⟩
    · by_cases hk : chkE l m.length = 0
      · by_cases h0 : 0 ≤ left
        · by_cases h1 : left ≤ 200
          · exact replayCrash_main m l left mask A c B d w hA hB wm wf hmk hn hk h0 h1
          · have hb : ((l.length : Int) == 0) = false := by simpa using hn
            have hl2 : 200 < left := by omega
            have HK := Lib.hid hk
            clear hn hk h1
            go_enter Try.func12, Try.ntmps12
            go_wp2_with fail
            refine (refCheck2_any _ _ _ _).mono ?_
            rintro e w1 ⟨rfl, rfl⟩
            go_wp2_with fail
            refine (refCheck8_any l m.length B d w hB).mono ?_
            rintro e w1 ⟨rfl, hd1⟩
            rw [HK.out]
            go_wp2_with fail
            refine (alive10_any _).mono ?_
            rintro e w9 ⟨rfl, hx9⟩
            go_wp2_with fail
            go_ret
            exact ⟨rfl, hd1.ext.trans hx9⟩
        · have hb : ((l.length : Int) == 0) = false := by simpa using hn
          have hl2 : left < 0 := by omega
          have HK := Lib.hid hk
          clear hn hk h0
          go_enter Try.func12, Try.ntmps12
          go_wp2_with fail
          refine (refCheck2_any _ _ _ _).mono ?_
          rintro e w1 ⟨rfl, rfl⟩
          go_wp2_with fail
          refine (refCheck8_any l m.length B d w hB).mono ?_
          rintro e w1 ⟨rfl, hd1⟩
          rw [HK.out]
          go_wp2_with fail
          refine (alive10_any _).mono ?_
          rintro e w9 ⟨rfl, hx9⟩
          go_wp2_with fail
          go_ret
          exact ⟨rfl, hd1.ext.trans hx9⟩
      · have hb : ((l.length : Int) == 0) = false := by simpa using hn
        have hb2 : (chkE l m.length != 0) = true := by simpa using hk
        clear hn
        go_enter Try.func12, Try.ntmps12
        go_wp2_with fail
        refine (refCheck2_any _ _ _ _).mono ?_
        rintro e w1 ⟨rfl, rfl⟩
        go_wp2_with fail
        refine (refCheck8_any l m.length B d w hB).mono ?_
        rintro e w1 ⟨rfl, hd1⟩
        go_wp2_with fail
        refine (alive10_any _).mono ?_
        rintro e w9 ⟨rfl, hx9⟩
        go_wp2_with fail
        go_ret
        exact ⟨rfl, hd1.ext.trans hx9⟩
set_option maxRecDepth 100000 in
theorem replayCrash_lifted (os : Os) (started : os.Started) (H : Type) (enc : TypeId × Value → H) :
    ReturnsInHanded {} Try.checked os 12 .any (Rows.replayCrashSpec.pre6 enc Try.prog Try.f12 Rows.replayCrashRow.domain false) (Rows.replayCrashSpec.post enc Try.prog Try.f12 false true false false) := by
  refine returnsInHanded_of_change (C := Try.checked) own_knob started (by kernel_rfl) Try.func12
    (ChangeSpec.witness6 (enc := enc) (C := Try.checked) false ⟨#[], #[.slice none 0 0, .slice none 0 0, .int .i64 0, .int .u64 0], []⟩ 8 (by kernel_rfl) (by kernel_rfl) (by kernel_rfl) (by kernel_rfl)) ?_
  intro W base args ds gs before hval0 hW hcnd _
  have hval : ∀ (j : Nat) t v, Try.f12.params[j]? = some t → args[j]? = some v → Value.okWide Try.prog W .any base t v := hval0
  have hW' := hW
  obtain ⟨p, q, hA0, hV, rfl, hfz, hnd⟩ := hW
  have hA : DataW.TrodAll enc Try.prog W 0 (fun _ => true) true Try.f12.params.toList args.toList ds p := hA0
  rw [Try.params12] at hA hval
  obtain ⟨v0, vs0, d0, ds0, p0, q0, hargs, rfl, rfl, h0, r0⟩ := trodAll_cons hA
  obtain ⟨v1, vs1, d1, ds1, p1, q1, rfl, rfl, rfl, h1, r1⟩ := trodAll_cons r0
  obtain ⟨v2, vs2, d2, ds2, p2, q2, rfl, rfl, rfl, h2, r2⟩ := trodAll_cons r1
  obtain ⟨v3, vs3, d3, ds3, p3, q3, rfl, rfl, rfl, h3, r3⟩ := trodAll_cons r2
  obtain ⟨rfl, rfl, rfl⟩ := trodAll_nil r3
  obtain rfl : args = #[v0, v1, v2, v3] := by cases args; simp_all
  obtain ⟨rfl, rfl⟩ := trodVars_none hV
  obtain ⟨A0, c0, m0, rfl, hS0, wA0⟩ := op_U (hval 0 29 v0 rfl rfl) h0
  obtain ⟨A1, c1, l1, rfl, hS1, wA1⟩ := op_E (hval 1 34 v1 rfl rfl) h1
  obtain ⟨x2, rfl, wx2⟩ := op_i (hval 2 3 v2 rfl rfl) h2
  obtain ⟨x3, rfl, wx3⟩ := op_u (hval 3 24 v3 rfl rfl) h3
  clear hA0 hval0 hval hA
  refine (replayCrash_any m0 l1 x2 x3 A0 c0 A1 c1 W hS0 hS1 wA0 wA1 wx3).mono fun e W' ⟨he, hx⟩ => ?_
  subst he
  exact ⟨_, rfl, post_law laid_out (by kernel_rfl) hW' rfl rfl rfl Try.underlying4 hx⟩
theorem replayCrash_holds : Rows.ReplayCrashSaid :=
  OpenClaim.holds_of_wide 12 Try.f12 rfl rfl rfl rfl rfl rfl rfl ⟨rfl, rfl, rfl, rfl, rfl⟩ rfl rfl rfl rfl rfl (by kernel_rfl) Try.func12 (by kernel_rfl)
    (of_decide_eq_true (by kernel_rfl)) (by unfold Func.isWrapper; first | (rw [if_pos (by decide +kernel)]; kernel_rfl) | (rw [if_neg (by decide +kernel)]; exact ⟨rfl, rfl⟩))
    (fun os started H enc _ => replayCrash_lifted os started H enc)
end Go.Proofs.Ytmkcpnklaijkfaa
