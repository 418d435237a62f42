/-
  ReplayWords, for every image and every list of entries: the law returns true. No condition.
-/
import Derived.Test.YtmkcpnklaijkfaaAlive10
import Derived.Test.YtmkcpnklaijkfaaGA
import Derived.RegionTactic
namespace Go.Proofs.Ytmkcpnklaijkfaa
open Go.ChangeShapes Go.WideShapes Go.ChangeAt Go.RowKit
theorem Sl.blk {w : World} {A : Option Addr} {n c : Nat} {xs : List Value} (h : Sl w A n c xs) (hx : 0 < xs.length) : ∀ ad, A = some ad → ad.block < w.heap.size := by
  rintro ad rfl
  obtain ⟨ad', e, hc⟩ := h.cells (by intro h0; rw [h0] at hx; simp at hx)
  injection e with e
  subst e
  have := block_lt_of_cell (hc 0 _ (List.getElem?_eq_getElem hx))
  rwa [block_of_add] at this
set_option maxRecDepth 100000 in
set_option maxHeartbeats 6400000 in
theorem replayWords_main (m : List Int) (l : List (Int × Int)) (A : Option Addr) (c : Nat) (B : Option Addr) (d : Nat) (w : World) (hA : Sl w A m.length c (fU m)) (hB : Sl w B l.length d (fE l)) (wm : WfU m) (wf : WfE l) (hn : l.length ≠ 0) (hk : chkE l m.length = 0) :
    Calls Try.prog 6 #[.slice A m.length c, .slice B l.length d] w fun e w' => e = .returned (.bool true) ∧ Ext w w' := by
  obtain ⟨hs, hl, _, _⟩ := chk_iff.1 hk
  have hsz := sizeB_bd hs
  have hi : imgE (m.length : Int) = 0 := by simp [imgE, hs]
  have hwl := withL_length hk
  have hk2 : chkE l (withL m l).length = 0 := by rw [hwl]; exact hk
  obtain ⟨e1, e2⟩ := img_has hk2 hn (withL_has hk)
  have hr := chk_range hk
  have wfw := withL_wf hk wm wf
  have h1 := fun A c B d W (ha : Sl W A m.length c (fU m)) (hb : Sl W B l.length d (fE l)) => with10_any m l A c B d W ha hb hk wf
  have h2 := fun A c W (ha : Sl W A (withL m l).length c (fU (withL m l))) => image10_any (withL m l) A c W ha wfw
  rw [e1, e2, ← applied_set (chk_not24 hk)] at h2
  have hxl : (applied ((withL m l).set 24 0) l).length = m.length := by rw [applied_length, List.length_set, hwl]
  obtain ⟨V, hV⟩ : ∃ V, withL m l = V := ⟨_, rfl⟩
  rw [hV] at h1 h2 hwl hxl
  rw [hwl] at h2
  obtain ⟨U0, hU⟩ : ∃ V', V.set 24 0 = V' := ⟨_, rfl⟩
  have hul : U0.length = m.length := by rw [← hU, List.length_set]; exact hwl
  rw [hU] at h2 hxl
  have h3 := fun W (hb : Sl W B l.length d (fE l)) => refCheck8_any l m.length B d W hb
  rw [hk] at h3
  have hne0 : ((l.length : Int) == 0) = false := by simpa using hn
  have hBm := hB.max
  have hBl := hB.le
  have hAm := hA.max
  have hAl := hA.le
  unfold maxLen at hBm hAm
  have HH := Lib.hid (And.intro h1 (And.intro h2 (And.intro h3 (And.intro hr (And.intro hxl (And.intro hul (And.intro hU hwl)))))))
  clear h1 h2 h3 hr hxl hul hU hwl hV e1 e2 hk2 hk hn hs wfw
  go_enter Try.func6, Try.ntmps6
  go_wp2_with fail
  refine (refCheck2_any _ _ _ _).mono ?_
  rintro e w1 ⟨rfl, rfl⟩
  go_wp2_with fail
  refine (HH.out.2.2.1 w hB).mono ?_
  rintro e w1 ⟨rfl, hd1⟩
  have hx1 : Ext w w1 := hd1.ext
  go_wp2_with fail
  refine (HH.out.1 A c B d w1 (hA.ext hx1) (hB.ext hx1)).mono ?_
  rintro e w2 ⟨A2, c2, rfl, _, hA2, hx2⟩
  go_wp2_with fail
  refine (HH.out.2.1 A2 c2 w2 hA2).mono ?_
  rintro e w3 ⟨A3, c3, rfl, hA3, hx3⟩
  rw [HH.out.2.2.2.2.1] at hA3 ⊢
  have htw := fun W (ha : Sl W A2 V.length c2 (fU V)) => twin2_any V A2 c2 W ha (by rw [HH.out.2.2.2.2.2.2.2]; omega)
  rw [HH.out.2.2.2.2.2.2.2] at htw
  have HTW := Lib.hid htw
  clear htw
  go_wp2_with fail
  refine (HTW.out w3 (hA2.ext hx3)).mono ?_
  rintro e w4 ⟨A4, c4, rfl, hown, _, hx4⟩
  obtain ⟨g, rfl, hg⟩ := own_head hown (by omega)
  obtain ⟨z, hz, c0, cf⟩ := own_at_U hown (i := 24) (by rw [HH.out.2.2.2.2.2.2.2]; omega)
  have hgl := block_lt_of_cell c0
  have hg0 : w.heap.size ≤ g := Nat.le_trans (Nat.le_trans (Nat.le_trans hx1.size hx2.size) hx3.size) hg
  have hX4 : Ext w w4 := hx1.trans (hx2.trans (hx3.trans hx4))
  have hne3 : ∀ ad, A3 = some ad → ad.block ≠ g := fun ad h => by have := hA3.blk (by rw [fU_length, HH.out.2.2.2.2.1]; omega) ad h; omega
  have HO := Lib.hid (And.intro hown (And.intro (hA3.ext hx4) hX4))
  have hw03 : w.heap.size ≤ w3.heap.size := Nat.le_trans (Nat.le_trans hx1.size hx2.size) hx3.size
  clear hz hown hA3 hX4 hx4 hx3 hx2 hx1 hA2 hd1
  go_upto_region 9 with fail
  obtain ⟨W5, hW5⟩ : ∃ W, W = w4.setCell ⟨g, 24, none⟩ (.int .u64 0) := ⟨_, rfl⟩
  have hown5 := own_set_U HO.out.1 24 0
  rw [HH.out.2.2.2.2.2.2.1] at hown5
  have hX5 : Ext w (w4.setCell ⟨g, 24, none⟩ (.int .u64 0)) := HO.out.2.2.setCell (p := ⟨g, 24, none⟩) hg0 _
  have hA5 := HO.out.2.1.setCell (p := ⟨g, 24, none⟩) hne3 (.int .u64 0)
  rw [← hW5] at hown5 hX5 hA5 ⊢
  clear c0 cf hW5
  have HO5 := Lib.hid (And.intro hown5 (And.intro hX5 hA5))
  clear hown5 hX5 hA5 HO
  go_wp2_with fail
  go_loopw [9] (fun i wr => ∃ k : Nat, k ≤ l.length ∧ i = .int .i64 k ∧ wr.ownsRow w.heap.size 24 1 (.slice (some ⟨g, 0, none⟩) m.length c4) m.length (fU (applied U0 (l.take k))) ∧ Ext w wr ∧ Sl wr A3 m.length c3 (fU (applied U0 l))) (fun i _ => l.length - (intOf i).toNat)
  case atStart => exact ⟨0, Nat.zero_le _, rfl, own_base HO5.out.1 (by omega), HO5.out.2.1, HO5.out.2.2⟩
  case round =>
    clear HO5
    obtain ⟨k, hk, rfl, hown, hx, hX⟩ := hrel
    by_cases hlt : k < l.length
    · obtain ⟨ad, x, rfl, hat, g0, g1⟩ := (hB.ext hx).e_at (k := k) hlt
      obtain ⟨r0, r1⟩ := HH.out.2.2.2.1 x (List.mem_of_getElem? hat)
      obtain ⟨z, hz, c0, cf⟩ := own_at_U hown (i := x.1.toNat) (by rw [applied_length, HH.out.2.2.2.2.2.1]; omega)
      have hgl := block_lt_of_cell c0
      have HA := Lib.hid (applied_take (m := U0) hat)
      have HO := Lib.hid (And.intro hown (And.intro hx hX))
      clear hz hat hown hx hX
      go_wp2_with fail
      go_region
      all_goals
        go_wp2_with fail
        go_roundw
        case rel =>
          refine ⟨k + 1, by omega, by go_num, ?_, ?_, ?_⟩
          · rw [HA.out]
            first | exact own_ext (own_set_U HO.out.1 x.1.toNat x.2) (ext_drewN _ 1) | exact own_set_U (own_ext HO.out.1 (ext_drewN _ 1)) x.1.toNat x.2
          · first | exact (HO.out.2.1.setCell (p := ⟨g, x.1.toNat, none⟩) hg0 _).drewN 1 | exact (HO.out.2.1.drewN 1).setCell (p := ⟨g, x.1.toNat, none⟩) hg0 _
          · first | exact (HO.out.2.2.setCell (p := ⟨g, x.1.toNat, none⟩) hne3 _).drewN 1 | exact (HO.out.2.2.drewN 1).setCell (p := ⟨g, x.1.toNat, none⟩) hne3 _
        case measure => simp [intOf]; omega
    · obtain rfl : k = l.length := by omega
      rw [List.take_length] at hown
      have hsl := own_sl4 hown
      have hsm := same2_yes (applied U0 l) (applied U0 l) rfl A3 (some ⟨g, 0, none⟩) c3 c4 wr
      rw [HH.out.2.2.2.2.1] at hsm
      have HS := Lib.hid (hsm hX hsl)
      clear hsm hown hX hsl
      go_wp2_with fail
      refine HS.out.mono ?_
      rintro e w7 ⟨rfl, hdn⟩
      go_wp2_with fail
      refine (alive10_any _).mono ?_
      rintro e w8 ⟨rfl, hx8⟩
      go_wp2_with fail
      go_ret
      exact ⟨rfl, hx.trans (hdn.ext.trans hx8)⟩
set_option maxRecDepth 100000 in
set_option maxHeartbeats 6400000 in
theorem replayWords_any (m : List Int) (l : List (Int × Int)) (A : Option Addr) (c : Nat) (B : Option Addr) (d : Nat) (w : World) (hA : Sl w A m.length c (fU m)) (hB : Sl w B l.length d (fE l)) (wm : WfU m) (wf : WfE l) :
    Calls Try.prog 6 #[.slice A m.length c, .slice B l.length d] w fun e w' => e = .returned (.bool true) ∧ Ext w w' := by
  have hBm := hB.max
  have hBl := hB.le
  have hAm := hA.max
  have hAl := hA.le
  unfold maxLen at hBm hAm
  cases hs : sizeB (m.length : Int) with
  | false =>
    have hi : imgE (m.length : Int) = 8 := by simp [imgE, hs]
    go_enter Try.func6, Try.ntmps6
    go_wp2_with fail
    refine (refCheck2_any _ _ _ _).mono ?_
    rintro e w1 ⟨rfl, rfl⟩
    go_wp2_with fail
    refine (alive10_any _).mono ?_
    rintro e w1 ⟨rfl, hx⟩
    go_wp2_with fail
    go_ret
    exact ⟨rfl, hx⟩
  | true =>
    have hi : imgE (m.length : Int) = 0 := by simp [imgE, hs]
    by_cases hn : l.length = 0
    · have hb : ((l.length : Int) == 0) = true := by rw [hn]; rfl
      clear hn
      go_enter Try.func6, Try.ntmps6
      go_wp2_with fail
      refine (refCheck2_any _ _ _ _).mono ?_
      rintro e w1 ⟨rfl, rfl⟩
      go_wp2_with fail
      refine (alive10_any _).mono ?_
      rintro e w1 ⟨rfl, hx⟩
      go_wp2_with fail
      go_ret
      exact ⟨rfl, hx⟩
    · by_cases hk : chkE l m.length = 0
      · exact replayWords_main m l A c B d w hA hB wm wf hn hk
      · have hb : ((l.length : Int) == 0) = false := by simpa using hn
        have hb2 : (chkE l m.length != 0) = true := by simpa using hk
        clear hn
        go_enter Try.func6, Try.ntmps6
        go_wp2_with fail
        refine (refCheck2_any _ _ _ _).mono ?_
        rintro e w1 ⟨rfl, rfl⟩
        go_wp2_with fail
        refine (refCheck8_any l m.length B d w hB).mono ?_
        rintro e w1 ⟨rfl, hd1⟩
        go_wp2_with fail
        refine (alive10_any _).mono ?_
        rintro e w2 ⟨rfl, hx⟩
        go_wp2_with fail
        go_ret
        exact ⟨rfl, hd1.ext.trans hx⟩
set_option maxRecDepth 100000 in
theorem replayWords_lifted (os : Os) (started : os.Started) (H : Type) (enc : TypeId × Value → H) :
    ReturnsInHanded {} Try.checked os 6 .any (Rows.replayWordsSpec.pre6 enc Try.prog Try.f6 Rows.replayWordsRow.domain false) (Rows.replayWordsSpec.post enc Try.prog Try.f6 false true false false) := by
  refine returnsInHanded_of_change (C := Try.checked) own_knob started (by kernel_rfl) Try.func6
    (ChangeSpec.witness6 (enc := enc) (C := Try.checked) false ⟨#[], #[.slice none 0 0, .slice none 0 0], []⟩ 8 (by kernel_rfl) (by kernel_rfl) (by kernel_rfl) (by kernel_rfl)) ?_
  intro W base args ds gs before hval0 hW hcnd _
  have hval : ∀ (j : Nat) t v, Try.f6.params[j]? = some t → args[j]? = some v → Value.okWide Try.prog W .any base t v := hval0
  have hW' := hW
  obtain ⟨p, q, hA0, hV, rfl, hfz, hnd⟩ := hW
  have hA : DataW.TrodAll enc Try.prog W 0 (fun _ => true) true Try.f6.params.toList args.toList ds p := hA0
  rw [Try.params6] at hA hval
  obtain ⟨v0, vs0, d0, ds0, p0, q0, hargs, rfl, rfl, h0, r0⟩ := trodAll_cons hA
  obtain ⟨v1, vs1, d1, ds1, p1, q1, rfl, rfl, rfl, h1, r1⟩ := trodAll_cons r0
  obtain ⟨rfl, rfl, rfl⟩ := trodAll_nil r1
  obtain rfl : args = #[v0, v1] := by cases args; simp_all
  obtain ⟨rfl, rfl⟩ := trodVars_none hV
  obtain ⟨A0, c0, m0, rfl, hS0, wA0⟩ := op_U (hval 0 29 v0 rfl rfl) h0
  obtain ⟨A1, c1, l1, rfl, hS1, wA1⟩ := op_E (hval 1 34 v1 rfl rfl) h1
  clear hA0 hval0 hval hA
  refine (replayWords_any m0 l1 A0 c0 A1 c1 W hS0 hS1 wA0 wA1).mono fun e W' ⟨he, hx⟩ => ?_
  subst he
  exact ⟨_, rfl, post_law laid_out (by kernel_rfl) hW' rfl rfl rfl Try.underlying4 hx⟩
theorem replayWords_holds : Rows.ReplayWordsSaid :=
  OpenClaim.holds_of_wide 6 Try.f6 rfl rfl rfl rfl rfl rfl rfl ⟨rfl, rfl, rfl, rfl, rfl⟩ rfl rfl rfl rfl rfl (by kernel_rfl) Try.func6 (by kernel_rfl)
    (of_decide_eq_true (by kernel_rfl)) (by unfold Func.isWrapper; first | (rw [if_pos (by decide +kernel)]; kernel_rfl) | (rw [if_neg (by decide +kernel)]; exact ⟨rfl, rfl⟩))
    (fun os started H enc _ => replayWords_lifted os started H enc)
end Go.Proofs.Ytmkcpnklaijkfaa
