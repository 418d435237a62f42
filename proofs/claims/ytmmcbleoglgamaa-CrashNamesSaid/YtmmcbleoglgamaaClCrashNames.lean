/-
  CrashNames: the law returns true.
-/
import Derived.Test.YtmmcbleoglgamaaCrName
import Derived.Test.YtmmcbleoglgamaaOpen
import Derived.Deep.RegionHeld3
namespace Go.Proofs.Ytmmcbleoglgamaa
open Go.ChangeShapes Go.WideShapes Go.ChangeAt Go.RowKit

theorem Box4.below {base : Nat} {w w' : World} {g : Nat} {v0 v1 v2 v3 : Value} (h : Box4 w g v0 v1 v2 v3) (x : Below base w w') (hg : g < base) : Box4 w' g v0 v1 v2 v3 :=
  ⟨by rw [Below.cell x hg]; exact h.c0, by rw [Below.cell x hg]; exact h.c1, by rw [Below.cell x hg]; exact h.c2, by rw [Below.cell x hg]; exact h.c3, fun o => by rw [Below.frozen x hg]; exact h.fz o, Nat.lt_of_lt_of_le h.lt (Below.size x)⟩
theorem Sl.below {base : Nat} {w w' : World} {ad : Addr} {n c : Nat} {xs : List Value} (h : Sl w (some ad) n c xs) (x : Below base w w') (hg : ad.block < base) : Sl w' (some ad) n c xs :=
  ⟨h.le, h.max, h.nil, fun hx => by
    obtain ⟨ad', hA, hc⟩ := h.cells hx
    injection hA with e
    subst e
    exact ⟨ad, rfl, fun j u hu => by rw [Below.cell x (by rw [block_of_add]; exact hg)]; exact hc j u hu⟩⟩
set_option maxRecDepth 100000 in
set_option maxHeartbeats 6400000 in
theorem crashNames_any (w : World) :
    Calls Try.prog 4 #[] w fun e w' => e = .returned (.bool true) ∧ Ext w w' := by
  have h1 := fun W => dArm_any [] [] (-1) false (-2) none 0 none 0 W (Sl.nil_ _) (Sl.nil_ _)
  have h2 := fun W => dCrash_any [] [] (-1) false 0 none 0 none 0 W (Sl.nil_ _) (Sl.nil_ _) (by unfold InU; decide)
  have h3 := fun W => dChosen_any [] [] (-1) false 0 none 0 none 0 W (Sl.nil_ _) (by unfold InU; decide)
  have h4 := fun A c B d W (ha : Sl W A (zerosU 256).length c (fU (zerosU 256))) (hb : Sl W B exQ.length d (fD exQ)) => dArm_any (zerosU 256) exQ (-1) false (-2) A c B d W ha hb
  have h5 := fun A c B d W (ha : Sl W A (zerosU 256).length c (fU (zerosU 256))) (hb : Sl W B exQ.length d (fD exQ)) => dArm_any (zerosU 256) exQ (-1) false 1000001 A c B d W ha hb
  have h6 := fun A c B d W (ha : Sl W A (zerosU 256).length c (fU (zerosU 256))) (hb : Sl W B exQ.length d (fD exQ)) => dArm_any (zerosU 256) exQ 0 true 1000000 A c B d W ha hb
  have h7 := fun A c B d W (ha : Sl W A (zerosU 256).length c (fU (zerosU 256))) (hb : Sl W B exQ.length d (fD exQ)) => dArm_any (zerosU 256) exQ 0 true 0 A c B d W ha hb
  have h8 := fun A c B d W (hb : Sl W B (qN 130).length d (fD (qN 130))) => dChosen_any (zerosU 256) (qN 130) 0 false 9223372036854775809 A c B d W hb (by unfold InU; decide)
  have h9 := fun A c B d W (ha : Sl W A (zerosU 256).length c (fU (zerosU 256))) (hb : Sl W B (qN 130).length d (fD (qN 130))) => dCrash_any (zerosU 256) (qN 130) 0 false 9223372036854775809 A c B d W ha hb (by unfold InU; decide)
  rw [cn_armV.1, cn1.2] at h1
  rw [cn_cr.1, cn1.1] at h2
  rw [cn_cr.2.1, cn1.1] at h3
  rw [cn_armV.2.1, cn_arm.1] at h4
  rw [cn_armV.2.2.1, cn_arm.2.1] at h5
  rw [cn_armV.2.2.2.1, cn_arm.2.2.1] at h6
  rw [cn_armV.2.2.2.2, cn_arm.2.2.2] at h7
  rw [cn_cr.2.2.1, cn3] at h8
  rw [cn_cr.2.2.2, cn3] at h9
  simp only [zerosU_length, qN_length] at h8 h9
  have HH := Lib.hid (And.intro h1 (And.intro h2 (And.intro h3 (And.intro h4 (And.intro h5 (And.intro h6 (And.intro h7 (And.intro h8 h9))))))))
  clear h1 h2 h3 h4 h5 h6 h7 h8 h9
  have H0 := Box4.new w (.slice none 0 0) (.slice none 0 0) (.int .i64 (-1)) (.bool false) 25
  go_enter Try.func4, Try.ntmps4
  go_wp2_with fail
  refine (HH.out.1 _).mono ?_
  rintro e w1 ⟨A1, c1, B1, d1, rfl, -, -, hx1⟩
  obtain ⟨b0, b1, b2, b3, bf, bl⟩ := H0.ext (w' := w1) (by repeat (first | assumption | exact Ext.refl _ | refine Ext.drewN ?_ _ | refine Ext.drew ?_ | refine Ext.alloc ?_ _ | refine Ext.trans ?_ (by assumption)))
  go_wp2_with fail
  refine (HH.out.2.1 _).mono ?_
  rintro e w2 ⟨A2, c2, B2, d2, rfl, -, -, hx2⟩
  clear b0 b1 b2 b3 bf bl
  obtain ⟨b0, b1, b2, b3, bf, bl⟩ := H0.ext (w' := w2) (by repeat (first | assumption | exact Ext.refl _ | refine Ext.drewN ?_ _ | refine Ext.drew ?_ | refine Ext.alloc ?_ _ | refine Ext.trans ?_ (by assumption)))
  go_wp2_with fail
  refine (HH.out.2.2.1 _).mono ?_
  rintro e w3 ⟨A3, c3, rfl, -, hx3⟩
  clear b0 b1 b2 b3 bf bl
  go_wp2_with fail
  refine (example4_any _).mono ?_
  rintro e w4 ⟨A4, c4, B4, d4, rfl, hA4, hB4, _, _, hx4⟩
  go_wp2_with fail
  refine (HH.out.2.2.2.1 A4 c4 B4 d4 w4 hA4 hB4).mono ?_
  rintro e w5 ⟨A5, c5, B5, d5, rfl, -, -, hx5⟩
  go_wp2_with fail
  refine (example4_any _).mono ?_
  rintro e w6 ⟨A6, c6, B6, d6, rfl, hA6, hB6, _, _, hx6⟩
  go_wp2_with fail
  refine (HH.out.2.2.2.2.1 A6 c6 B6 d6 w6 hA6 hB6).mono ?_
  rintro e w7 ⟨A7, c7, B7, d7, rfl, -, -, hx7⟩
  go_wp2_with fail
  refine (example4_any _).mono ?_
  rintro e w8 ⟨A8, c8, B8, d8, rfl, hA8, hB8, _, _, hx8⟩
  have hX8 : Ext w w8 := (by repeat (first | assumption | exact Ext.refl _ | refine Ext.drewN ?_ _ | refine Ext.drew ?_ | refine Ext.alloc ?_ _ | refine Ext.trans ?_ (by assumption)))
  clear hx1 hx2 hx3 hx4 hx5 hx6 hx7 hx8 hA4 hB4 hA6 hB6 H0
  have H8 := Box4.new w8 (.slice A8 (zerosU 256).length c8) (.slice B8 exQ.length d8) (.int .i64 0) (.bool true) 25
  obtain ⟨b0, b1, b2, b3, bf, bl⟩ := H8.ext (Ext.refl _)
  go_wp2_with fail
  refine (HH.out.2.2.2.2.2.1 A8 c8 B8 d8 _ (hA8.alloc _) (hB8.alloc _)).mono ?_
  rintro e w9 ⟨A9, c9, B9, d9, rfl, -, -, hx9⟩
  have H9 := Box4.new w9 (.slice A9 (zerosU 256).length c9) (.slice B9 exQ.length d9) (.int .i64 1000000) (.bool false) 25
  clear b0 b1 b2 b3 bf bl
  obtain ⟨b0, b1, b2, b3, bf, bl⟩ := H8.ext (w' := w9) (by repeat (first | assumption | exact Ext.refl _ | refine Ext.drewN ?_ _ | refine Ext.drew ?_ | refine Ext.alloc ?_ _ | refine Ext.trans ?_ (by assumption)))
  go_wp2_with fail
  refine (HH.out.2.2.2.2.2.2.1 A8 c8 B8 d8 _ (hA8.ext (by repeat (first | assumption | exact Ext.refl _ | refine Ext.drewN ?_ _ | refine Ext.drew ?_ | refine Ext.alloc ?_ _ | refine Ext.trans ?_ (by assumption)))) (hB8.ext (by repeat (first | assumption | exact Ext.refl _ | refine Ext.drewN ?_ _ | refine Ext.drew ?_ | refine Ext.alloc ?_ _ | refine Ext.trans ?_ (by assumption))))).mono ?_
  rintro e w10 ⟨A10, c10, B10, d10, rfl, -, -, hx10⟩
  have hX10 : Ext w w10 := hX8.trans (Ext.trans ((Ext.refl w8).alloc _) (hx9.trans (Ext.trans ((Ext.refl w9).alloc _) hx10)))
  have H9' := (H9.ext hx10).alloc (Obj.cells #[.slice A10 (zerosU 256).length c10, .slice B10 exQ.length d10, .int .i64 0, .bool false] 25)
  have H10 := Box4.new w10 (.slice A10 (zerosU 256).length c10) (.slice B10 exQ.length d10) (.int .i64 0) (.bool false) 25
  have HB := Lib.hid (And.intro H9' H10)
  clear b0 b1 b2 b3 bf bl H8 H9 H9' H10 hx9 hx10 hX8 hA8 hB8
  have hrx : Box4 ((w10.alloc (Obj.cells #[.slice A10 (zerosU 256).length c10, .slice B10 exQ.length d10, .int .i64 0, .bool false] 25)).alloc (Obj.cells #[.slice none 0 0, .slice none 0 0, .int .i64 0, .bool false] 25)) (w10.heap.size + 1) (.slice none 0 0) (.slice none 0 0) (.int .i64 0) (.bool false) := Box4.new' _ _ (by simp) _ _ _ _ _
  go_wp2_with (at_make; refine wpList_zeros rfl _ _ rfl 256 (by decide) _ _ _ _ rfl rfl rfl rfl ?_; intro w11 hown hx11 hz11; obtain ⟨r0, r1, r2, r3, rf, rl⟩ := hrx.ext hx11)
  have hs : ((w10.alloc (Obj.cells #[.slice A10 (zerosU 256).length c10, .slice B10 exQ.length d10, .int .i64 0, .bool false] 25)).alloc (Obj.cells #[.slice none 0 0, .slice none 0 0, .int .i64 0, .bool false] 25)).heap.size = w10.heap.size + 1 + 1 := by simp
  rw [hs] at hown hz11
  have hA11 := (own_sl4 hown).setCell (p := ⟨w10.heap.size + 1, 0, none⟩) (fun ad h => by injection h with h; subst h; simp) (.slice (some ⟨w10.heap.size + 1 + 1, 0, none⟩) 256 256)
  have hWx : Ext (w10.alloc (Obj.cells #[.slice A10 (zerosU 256).length c10, .slice B10 exQ.length d10, .int .i64 0, .bool false] 25)) (w11.setCell ⟨w10.heap.size + 1, 0, none⟩ (.slice (some ⟨w10.heap.size + 1 + 1, 0, none⟩) 256 256)) := Ext.setCell (Ext.trans ((Ext.refl _).alloc _) hx11) (by simp) _
  have H17 := (Box4.mk r0 r1 r2 r3 rf rl).set0 (.slice (some ⟨w10.heap.size + 1 + 1, 0, none⟩) 256 256)
  obtain ⟨W12, hW12⟩ : ∃ W, W = w11.setCell ⟨w10.heap.size + 1, 0, none⟩ (.slice (some ⟨w10.heap.size + 1 + 1, 0, none⟩) 256 256) := ⟨_, rfl⟩
  rw [← hW12] at hA11 hWx H17 ⊢
  have hs12 : W12.heap.size = w10.heap.size + 1 + 1 + 1 := by rw [hW12]; simpa using hz11
  clear hs hown hz11 hx11 hrx r0 r1 r2 r3 rf rl hW12
  go_loopw [18] (fun i wr => ∃ k : Nat, k ≤ 130 ∧ i = .int .i64 k ∧ Ext (w10.alloc (Obj.cells #[.slice A10 (zerosU 256).length c10, .slice B10 exQ.length d10, .int .i64 0, .bool false] 25)) wr ∧ ∃ B d, Box4 wr (w10.heap.size + 1) (.slice (some ⟨w10.heap.size + 1 + 1, 0, none⟩) 256 256) (.slice B k d) (.int .i64 0) (.bool false) ∧ wr.ownsRow (w10.heap.size + 1 + 1 + 1) 44 3 (.slice B k d) k (fD (qN k)) ∧ Sl wr (some ⟨w10.heap.size + 1 + 1, 0, none⟩) 256 256 (fU (zerosU 256)) ∧ w10.heap.size + 1 + 1 + 1 ≤ wr.heap.size) (fun i _ => 130 - (intOf i).toNat)
  case atStart => exact ⟨0, by omega, rfl, hWx, none, 0, H17, own_nil _ _ _ _, hA11, by omega⟩
  case round =>
    obtain ⟨k, hk, rfl, hxr, B, d, hbox, hownr, hSl, hsz⟩ := hrel
    have HP := Lib.hid (And.intro hbox (And.intro hownr (And.intro hSl hxr)))
    obtain ⟨b0, b1, b2, b3, bf, bl⟩ := hbox
    clear hownr hSl hxr hWx H17 hA11 hs12
    by_cases hlt : k < 130
    · go_wp2_with (at_builtin; refine wpList_app ED rfl (.tmp 71) (.tmp 74) rfl rfl (HP.out.2.1.alloc _) rfl (Sl.lit' _ _ _ _ (by simp) (by decide)) rfl (fD_one [((k : Int), 1, false)]) (by omega) (by simp <;> omega) ?_; intro v' w' hown' hbel hat hgr; have hown3 : w'.ownsRow (w10.heap.size + 1 + 1 + 1) 44 3 v' (k + 1) (fD (qN (k + 1))) := (by rw [qN_succ, fD_append]; exact hown'); obtain ⟨B', d', hv, hB'⟩ := Sl.of_own hown3; subst hv; clear hown' hat hgr b0 b1 b2 b3 bf bl; have hbx := (HP.out.1.alloc _).below hbel (by omega); obtain ⟨b0, b1, b2, b3, bf, bl⟩ := hbx)
      go_roundw
      case rel =>
        have hxw : Ext (w10.alloc (Obj.cells #[.slice A10 (zerosU 256).length c10, .slice B10 exQ.length d10, .int .i64 0, .bool false] 25)) w' := Below.trans (Ext.alloc HP.out.2.2.2 _) (Below.mono hbel (by simp <;> omega))
        have hsw := Below.size hbel
        exact ⟨k + 1, by omega, by go_num, hxw.setCell (by simp) _, B', d', (Box4.mk b0 b1 b2 b3 bf bl).set1 _, own_cell hown3 (by omega) 1 _, ((HP.out.2.2.1.alloc _).below hbel (by simp)).setCell (fun ad h => by injection h with h; subst h; simp) _, by simp at hsw ⊢ <;> omega⟩
      case measure => simp [intOf]; omega
    · obtain rfl : k = 130 := by omega
      clear hk hlt
      have hq := own_sl4 HP.out.2.1
      go_wp2_with fail
      refine (HH.out.2.2.2.2.2.2.2.1 (some ⟨w10.heap.size + 1 + 1, 0, none⟩) 256 B d wr hq).mono ?_
      rintro e w13 ⟨A13, c13, rfl, hA13, hx13⟩
      clear b0 b1 b2 b3 bf bl
      obtain ⟨b0, b1, b2, b3, bf, bl⟩ := HP.out.1.ext hx13
      go_wp2_with fail
      refine (HH.out.2.2.2.2.2.2.2.2 (some ⟨w10.heap.size + 1 + 1, 0, none⟩) 256 B d w13 (HP.out.2.2.1.ext hx13) (hq.ext hx13)).mono ?_
      rintro e w14 ⟨A14, c14, B14, d14, rfl, hA14, -, hx14⟩
      simp only [mN_length, List.length_nil] at hA14 ⊢
      have H21 := Box4.new w14 (.slice A14 256 c14) (.slice B14 0 d14) (.int .i64 (-1)) (.bool false) 25
      clear b0 b1 b2 b3 bf bl
      obtain ⟨b0, b1, b2, b3, bf, bl⟩ := H21.ext (Ext.refl _)
      go_wp2_with fail
      have hA15 := hA14.alloc (Obj.cells #[.slice A14 256 c14, .slice B14 0 d14, .int .i64 (-1), .bool false] 25)
      have hX15 : Ext w10 (w14.alloc (Obj.cells #[.slice A14 256 c14, .slice B14 0 d14, .int .i64 (-1), .bool false] 25)) := Ext.trans ((Ext.refl w10).alloc _) ((HP.out.2.2.2.trans (hx13.trans hx14)).alloc _)
      have HZ := Lib.hid (And.intro (HB.out.1.ext ((HP.out.2.2.2.trans (hx13.trans hx14)).alloc (Obj.cells #[.slice A14 256 c14, .slice B14 0 d14, .int .i64 (-1), .bool false] 25))) (And.intro (HB.out.2.ext ((HP.out.2.2.2.trans (hx13.trans hx14)).alloc (Obj.cells #[.slice A14 256 c14, .slice B14 0 d14, .int .i64 (-1), .bool false] 25))) (And.intro ((hA13.ext hx14).alloc (Obj.cells #[.slice A14 256 c14, .slice B14 0 d14, .int .i64 (-1), .bool false] 25)) (hX10.trans hX15))))
      clear HB HP hA13 hA14 hx13 hx14 hX10 hX15 hq H21 HH
      go_loopw [23, 24] (fun v i wr => ∃ k : Nat, k ≤ 256 ∧ i = .int .i64 k ∧ ∃ S, v = .int .u64 S ∧ (mN.take k).sum = S ∧ wr = w14.alloc (Obj.cells #[.slice A14 256 c14, .slice B14 0 d14, .int .i64 (-1), .bool false] 25)) (fun _ i _ => 256 - (intOf i).toNat)
      case atStart => exact ⟨0, by omega, rfl, 0, rfl, rfl, rfl⟩
      case round =>
        obtain ⟨k, hk, rfl, S, rfl, hS, rfl⟩ := hrel
        by_cases hlt2 : k < 256
        · obtain ⟨ad, x, rfl, hx, g1⟩ := hA15.u_at (k := k) (by rw [mN_length]; exact hlt2)
          have hs1 := sum_take hx
          rw [hS] at hs1
          have hbd := cn6 ⟨k + 1, by omega⟩
          simp only at hbd
          rw [hs1] at hbd
          have hwr : IntKind.u64.wrap (S + x) = S + x := by
            simp only [IntKind.wrap, IntKind.bits, IntKind.signed]
            generalize S + x = z at hbd ⊢
            first | (simp; omega) | omega
          have HQ := Lib.hid hs1
          clear hs1 hbd hS hx hA15
          go_wp2_with fail
          go_roundw
          case rel => exact ⟨k + 1, by omega, by go_num, S + x, rfl, HQ.out, by trivial⟩
          case measure => simp [intOf]; omega
        · obtain rfl : k = 256 := by omega
          have h5 : S = 5 := by rw [← hS, ← mN_length, List.take_length, cn7]
          subst h5
          clear hS hA15 hk hlt2
          obtain ⟨b0', b1', b2', b3', bf', bl'⟩ := HZ.out.1
          obtain ⟨o0, o1, o2, o3, of, ol⟩ := HZ.out.2.1
          have hq2 : exQ.length = 2 := rfl
          rw [hq2] at b1' o1
          simp only [hq2]
          clear hq2
          go_wp2_with fail
          refine (sameI_yes nK [0, 63, 64, 127, 128] rfl A13 _ c13 5 _ (HZ.out.2.2.1.alloc _) (Sl.lit' _ _ _ _ (by simp) (by decide))).mono ?_
          rintro e w16 ⟨rfl, hd16⟩
          have hx16 := hd16.ext
          go_wp2_with fail
          refine (alive04_any _).mono ?_
          rintro e w17 ⟨rfl, hx17⟩
          go_wp2_with fail
          go_ret
          exact ⟨rfl, HZ.out.2.2.2.trans (Ext.trans ((Ext.refl _).alloc _) (hx16.trans hx17))⟩
set_option maxRecDepth 100000 in
theorem crashNames_lifted (os : Os) (started : os.Started) (H : Type) (enc : TypeId × Value → H) :
    ReturnsInHanded {} Try.checked os 4 .any (Rows.crashNamesSpec.pre6 enc Try.prog Try.f4 Rows.crashNamesRow.domain false) (Rows.crashNamesSpec.post enc Try.prog Try.f4 false true false false) := by
  refine returnsInHanded_of_change (C := Try.checked) own_knob started (by kernel_rfl) Try.func4
    (ChangeSpec.witness6 (enc := enc) (C := Try.checked) false ⟨#[], #[], []⟩ 8 (by kernel_rfl) (by kernel_rfl) (by kernel_rfl) (by kernel_rfl)) ?_
  intro W base args ds gs before hval0 hW hcnd _
  have hval : ∀ (j : Nat) t v, Try.f4.params[j]? = some t → args[j]? = some v → Value.okWide Try.prog W .any base t v := hval0
  have hW' := hW
  obtain ⟨p, q, hA0, hV, rfl, hfz, hnd⟩ := hW
  have hA : DataW.TrodAll enc Try.prog W 0 (fun _ => true) true Try.f4.params.toList args.toList ds p := hA0
  rw [Try.params4] at hA hval
  obtain ⟨rfl, rfl, rfl⟩ := trodAll_none hA
  obtain ⟨rfl, rfl⟩ := trodVars_none hV
  clear hA0 hval0 hval hA
  refine (crashNames_any W).mono fun e W' ⟨he, hx⟩ => ?_
  subst he
  exact ⟨_, rfl, post_law laid_out (by kernel_rfl) hW' rfl rfl rfl Try.underlying4 hx⟩
theorem crashNames_holds : Rows.CrashNamesSaid :=
  OpenClaim.holds_of_wide 4 Try.f4 rfl rfl rfl rfl rfl rfl rfl ⟨rfl, rfl, rfl, rfl, rfl⟩ rfl rfl rfl rfl rfl (by kernel_rfl) Try.func4 (by kernel_rfl)
    (of_decide_eq_true (by kernel_rfl)) (by unfold Func.isWrapper; first | (rw [if_pos (by decide +kernel)]; kernel_rfl) | (rw [if_neg (by decide +kernel)]; exact ⟨rfl, rfl⟩))
    (fun os started H enc _ => crashNames_lifted os started H enc)
end Go.Proofs.Ytmmcbleoglgamaa
