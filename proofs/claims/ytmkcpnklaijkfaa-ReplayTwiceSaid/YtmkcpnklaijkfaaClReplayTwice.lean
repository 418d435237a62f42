/-
  ReplayTwice, for every image: the law returns true. No condition.
-/
import Derived.Test.YtmkcpnklaijkfaaAlive10
import Derived.Test.YtmkcpnklaijkfaaGA
import Derived.BigQuiet
import Derived.Deep.QuietTactic
namespace Go.Proofs.Ytmkcpnklaijkfaa
open Go.ChangeShapes Go.WideShapes Go.ChangeAt Go.RowKit
set_option maxRecDepth 100000 in
set_option maxHeartbeats 6400000 in
theorem replayTwice_main (m : List Int) (A : Option Addr) (c : Nat) (w : World) (hA : Sl w A m.length c (fU m)) (wm : WfU m) (h0 : crE m = 0) :
    Calls Try.prog 5 #[.slice A m.length c] w fun e w' => e = .returned (.bool true) ∧ Ext w w' := by
  obtain ⟨hs, hk⟩ := cr_ok h0
  have hsz := sizeB_bd hs
  have hd : decide (2100 < m.length) = false := decide_eq_false (by omega)
  have hwl := crL_wf wm h0
  have hil : imgL m = (applied m (crL m)).set 24 0 := by simp [imgL, h0, imgX]
  have hal := applied_length (crL m) m
  have h1 := fun A c W (ha : Sl W A m.length c (fU m)) => commitRead_any m A c W ha wm
  have h2 := fun A c W (ha : Sl W A m.length c (fU m)) => image10_any m A c W ha wm
  have h3 : ∀ A c B d W, Sl W A m.length c (fU m) → Sl W B (crL m).length d (fE (crL m)) → Calls Try.prog 45 #[.slice A m.length c, .slice B (crL m).length d] W (RetU W (applied m (crL m)) 0) := fun A c B d W ha hb => by
    have := (entryApply_any m (crL m) A c B d W ha hb hwl).mono fun _ _ h => h.toU (applied_length ..)
    rw [if_pos hs, hk, selL_ok rfl] at this
    exact this
  have hwx := imgX_wf wm h0
  rw [h0] at h1 h2
  rw [hil] at h2
  obtain ⟨a, ha⟩ : ∃ a, applied m (crL m) = a := ⟨_, rfl⟩
  have hxx : imgX m = a.set 24 0 := by rw [← ha]; rfl
  rw [hxx] at hwx
  rw [ha] at h2 h3 hal
  obtain ⟨x, hx⟩ : ∃ x, a.set 24 0 = x := ⟨_, rfl⟩
  have hxl : x.length = m.length := by rw [← hx, List.length_set]; exact hal
  have hx24 : x[24]? = some 0 := by rw [← hx, List.getElem?_set_self (by omega)]
  rw [hx] at h2 hwx
  have hsx : sizeB (x.length : Int) = true := by rw [hxl]; exact hs
  obtain ⟨_, z1, z2⟩ := cr_zero hsx (jw_at hx24)
  have z3 := (img_zero hsx (jw_at hx24)).2
  have h4 := fun A c W (ha : Sl W A x.length c (fU x)) => image10_any x A c W ha hwx
  have h5 := fun A c W (ha : Sl W A x.length c (fU x)) => commitRead_any x A c W ha hwx
  rw [z1, z3] at h4
  rw [z1, z2] at h5
  obtain ⟨l, hl⟩ : ∃ l, crL m = l := ⟨_, rfl⟩
  rw [hl] at h1 h3
  rw [hxl] at h4 h5
  have h2' : ∀ A c W, Sl W A m.length c (fU m) → Calls Try.prog 33 #[.slice A m.length c] W fun e w' => ∃ A' c', e = .returned (.tuple #[.slice A' m.length c', .int .i64 0]) ∧ Sl w' A' m.length c' (fU x) ∧ Ext W w' := fun A c W ha => (h2 A c W ha).mono fun _ _ ⟨A', c', e, s, x'⟩ => ⟨A', c', by rw [← hxl]; exact e, by rw [← hxl]; exact s, x'⟩
  have h4' : ∀ A c W, Sl W A m.length c (fU x) → Calls Try.prog 33 #[.slice A m.length c] W fun e w' => ∃ A' c', e = .returned (.tuple #[.slice A' m.length c', .int .i64 0]) ∧ Sl w' A' m.length c' (fU x) ∧ Ext W w' := fun A c W ha => (h4 A c W ha).mono fun _ _ ⟨A', c', e, s, x'⟩ => ⟨A', c', by rw [← hxl]; exact e, by rw [← hxl]; exact s, x'⟩
  have h5' : ∀ A c W, Sl W A m.length c (fU x) → Calls Try.prog 28 #[.slice A m.length c] W fun e w' => ∃ A' c', e = .returned (.tuple #[.slice A' 0 c', .int .i64 0]) ∧ Ext W w' := fun A c W ha => (h5 A c W ha).mono fun _ _ ⟨A', c', e, s, x'⟩ => ⟨A', c', e, x'⟩
  have h3' : ∀ A c B d W, Sl W A m.length c (fU m) → Sl W B l.length d (fE l) → Calls Try.prog 45 #[.slice A m.length c, .slice B l.length d] W fun e w' => ∃ A' c', e = .returned (.tuple #[.slice A' m.length c', .int .i64 0]) ∧ Sl w' A' m.length c' (fU a) ∧ Ext W w' := fun A c B d W ha hb => (h3 A c B d W ha hb).mono fun _ _ ⟨A', c', e, s, x'⟩ => ⟨A', c', by rw [← hal]; exact e, by rw [← hal]; exact s, x'⟩
  have HH := Lib.hid (And.intro h1 (And.intro h2' (And.intro h4' (And.intro h5' h3'))))
  have HF := Lib.hid (And.intro hx24 (And.intro hxl (And.intro hal hx)))
  have hsame := fun A3 A5 c3 c5 W => same2_yes x x rfl A3 A5 c3 c5 W
  rw [hxl] at hsame
  have HS := Lib.hid hsame
  clear h1 h2 h3 h4 h5 h2' h3' h4' h5' hx24 hxl hal hx hsx z1 z2 z3 hl ha hxx hwx hil hwl hk hs h0 hsame
  go_enter Try.func5, Try.ntmps5
  go_wp2_with fail
  refine (great2_any _ _ _ _).mono ?_
  rintro e w1 ⟨rfl, rfl⟩
  go_wp2_with fail
  refine (HH.out.1 A c w hA).mono ?_
  rintro e w2 ⟨B2, d2, rfl, hB2, hx2⟩
  go_wp2_with fail
  refine (HH.out.2.1 A c w2 (hA.ext hx2)).mono ?_
  rintro e w3 ⟨A3, c3, rfl, hA3, hx3⟩
  go_wp2_with fail
  refine (HH.out.2.2.1 A3 c3 w3 hA3).mono ?_
  rintro e w4 ⟨A4, c4, rfl, hA4, hx4⟩
  go_wp2_with fail
  refine (HH.out.2.2.2.1 A3 c3 w4 (hA3.ext hx4)).mono ?_
  rintro e w5 ⟨A5, c5, rfl, hx5⟩
  go_wp2_with fail
  refine (HH.out.2.2.2.2 A c B2 d2 w5 (hA.ext (by repeat (first | assumption | exact Ext.refl _ | refine Ext.drewN ?_ _ | refine Ext.drew ?_ | refine Ext.alloc ?_ _ | refine Ext.trans ?_ (by assumption)))) (hB2.ext (by repeat (first | assumption | exact Ext.refl _ | refine Ext.drewN ?_ _ | refine Ext.drew ?_ | refine Ext.alloc ?_ _ | refine Ext.trans ?_ (by assumption))))).mono ?_
  rintro e w6 ⟨A6, c6, rfl, hA6, hx6⟩
  have hX6 : Ext w w6 := (by repeat (first | assumption | exact Ext.refl _ | refine Ext.drewN ?_ _ | refine Ext.drew ?_ | refine Ext.alloc ?_ _ | refine Ext.trans ?_ (by assumption)))
  have HA3 := Lib.hid (hA3.ext (hx4.trans (hx5.trans hx6)))
  have HA4 := Lib.hid (hA4.ext (hx5.trans hx6))
  have HA6 := Lib.hid hA6
  clear hA3 hA4 hA6 hB2 hx2 hx3 hx4 hx5 hx6 hA
  go_wp2_with fail
  go_loopw [13] (fun i wr => ∃ k : Nat, k ≤ m.length ∧ i = .int .i64 k ∧ Drew w6 wr) (fun i _ => m.length - (intOf i).toNat)
  case atStart => exact ⟨0, Nat.zero_le _, rfl, Drew.refl _⟩
  case round =>
    obtain ⟨k, hk, rfl, hdr⟩ := hrel
    by_cases hlt : k < m.length
    · obtain ⟨ad, y, rfl, hy, g1⟩ := (HA3.out.ext hdr.ext).u_at (k := k) (by rw [HF.out.2.1]; exact hlt)
      obtain ⟨ad2, z, rfl, hz, g2⟩ := (HA6.out.ext hdr.ext).u_at (k := k) (by rw [HF.out.2.2.1]; exact hlt)
      by_cases h24 : k = 24
      · have hb24 : ((k : Int) != 24) = false := by simp; omega
        by_cases hyz : y = z
        · have hb : (y != z) = false := by simpa using hyz
          clear hyz hy hz h24
          go_wp2_with fail
          go_quiet (fail)
          all_goals
            go_wp2_with fail
            go_roundw
            case rel => exact ⟨k + 1, by omega, by go_num, hdr.trans (by first | exact drew_N _ _ | exact drew_1 _ | exact Drew.refl _)⟩
            case measure => simp [intOf]; omega
        · have hb : (y != z) = true := by simpa using hyz
          clear hyz hy hz h24
          go_wp2_with fail
          go_quiet (fail)
          all_goals
            go_wp2_with fail
            go_roundw
            case rel => exact ⟨k + 1, by omega, by go_num, hdr.trans (by first | exact drew_N _ _ | exact drew_1 _ | exact Drew.refl _)⟩
            case measure => simp [intOf]; omega
      · have hyz : y = z := by
          rw [← HF.out.2.2.2, List.getElem?_set_ne (by omega), hz] at hy
          injection hy with hy
          exact hy.symm
        subst hyz
        clear hy hz h24
        go_wp2_with fail
        go_quiet (fail)
        all_goals
          go_wp2_with fail
          go_roundw
          case rel => exact ⟨k + 1, by omega, by go_num, hdr.trans (by first | exact drew_N _ _ | exact drew_1 _ | exact Drew.refl _)⟩
          case measure => simp [intOf]; omega
    · obtain rfl : k = m.length := by omega
      have hsm := HS.out A3 A4 c3 c4 wr (HA3.out.ext hdr.ext) (HA4.out.ext hdr.ext)
      have HSM := Lib.hid hsm
      clear hsm
      go_wp2_with fail
      refine HSM.out.mono ?_
      rintro e w7 ⟨rfl, hdn⟩
      obtain ⟨ad, y, rfl, hy, g1⟩ := (HA3.out.ext (hdr.trans hdn).ext).u_at (k := 24) (by rw [HF.out.2.1]; omega)
      rw [HF.out.1] at hy
      injection hy with hy
      subst hy
      rw [add_lit_ ad 23] at g1
      go_wp2_with fail
      refine (alive10_any _).mono ?_
      rintro e w8 ⟨rfl, hx8⟩
      go_wp2_with fail
      go_ret
      exact ⟨rfl, hX6.trans ((hdr.trans hdn).ext.trans hx8)⟩
set_option maxRecDepth 100000 in
set_option maxHeartbeats 6400000 in
theorem replayTwice_any (m : List Int) (A : Option Addr) (c : Nat) (w : World) (hA : Sl w A m.length c (fU m)) (wm : WfU m) :
    Calls Try.prog 5 #[.slice A m.length c] w fun e w' => e = .returned (.bool true) ∧ Ext w w' := by
  by_cases hg : 2100 < m.length
  · have hd : decide (2100 < m.length) = true := decide_eq_true hg
    go_enter Try.func5, Try.ntmps5
    go_wp2_with fail
    refine (great2_any _ _ _ _).mono ?_
    rintro e w' ⟨rfl, rfl⟩
    go_wp2_with fail
    refine (alive10_any _).mono ?_
    rintro e w1 ⟨rfl, hx⟩
    go_wp2_with fail
    go_ret
    exact ⟨rfl, hx⟩
  · have hd : decide (2100 < m.length) = false := decide_eq_false hg
    by_cases h0 : crE m = 0
    · exact replayTwice_main m A c w hA wm h0
    · have h1 := fun A c W (ha : Sl W A m.length c (fU m)) => commitRead_any m A c W ha wm
      have h2 := fun A c W (ha : Sl W A m.length c (fU m)) => image10_any m A c W ha wm
      have hil : imgL m = [] := by simp [imgL, h0]
      rw [hil] at h2
      obtain ⟨er, he⟩ : ∃ er, crE m = er := ⟨_, rfl⟩
      obtain ⟨l, hl⟩ : ∃ l, crL m = l := ⟨_, rfl⟩
      rw [he] at h0 h1 h2
      rw [hl] at h1
      have hb : (er != 0) = true := by simpa using h0
      have h2' : ∀ A c W, Sl W A m.length c (fU m) → Calls Try.prog 33 #[.slice A m.length c] W fun e w' => ∃ A' c', e = .returned (.tuple #[.slice A' 0 c', .int .i64 er]) ∧ Ext W w' := fun A c W ha => (h2 A c W ha).mono fun _ _ ⟨A', c', e, s, x'⟩ => ⟨A', c', e, x'⟩
      have HH := Lib.hid (And.intro h1 h2')
      clear h0 h1 h2 h2' hil he hl
      go_enter Try.func5, Try.ntmps5
      go_wp2_with fail
      refine (great2_any _ _ _ _).mono ?_
      rintro e w1 ⟨rfl, rfl⟩
      go_wp2_with fail
      refine (HH.out.1 A c w hA).mono ?_
      rintro e w2 ⟨B2, d2, rfl, _, hx2⟩
      go_wp2_with fail
      refine (HH.out.2 A c w2 (hA.ext hx2)).mono ?_
      rintro e w3 ⟨A3, c3, rfl, hx3⟩
      go_wp2_with fail
      refine (alive10_any _).mono ?_
      rintro e w4 ⟨rfl, hx4⟩
      go_wp2_with fail
      go_ret
      exact ⟨rfl, hx2.trans (hx3.trans hx4)⟩
set_option maxRecDepth 100000 in
theorem replayTwice_lifted (os : Os) (started : os.Started) (H : Type) (enc : TypeId × Value → H) :
    ReturnsInHanded {} Try.checked os 5 .any (Rows.replayTwiceSpec.pre6 enc Try.prog Try.f5 Rows.replayTwiceRow.domain false) (Rows.replayTwiceSpec.post enc Try.prog Try.f5 false true false false) := by
  refine returnsInHanded_of_change (C := Try.checked) own_knob started (by kernel_rfl) Try.func5
    (ChangeSpec.witness6 (enc := enc) (C := Try.checked) false ⟨#[], #[.slice none 0 0], []⟩ 8 (by kernel_rfl) (by kernel_rfl) (by kernel_rfl) (by kernel_rfl)) ?_
  intro W base args ds gs before hval0 hW hcnd _
  have hval : ∀ (j : Nat) t v, Try.f5.params[j]? = some t → args[j]? = some v → Value.okWide Try.prog W .any base t v := hval0
  have hW' := hW
  obtain ⟨p, q, hA0, hV, rfl, hfz, hnd⟩ := hW
  have hA : DataW.TrodAll enc Try.prog W 0 (fun _ => true) true Try.f5.params.toList args.toList ds p := hA0
  rw [Try.params5] at hA hval
  obtain ⟨v0, vs0, d0, ds0, p0, q0, hargs, rfl, rfl, h0, r0⟩ := trodAll_cons hA
  obtain ⟨rfl, rfl, rfl⟩ := trodAll_nil r0
  obtain rfl : args = #[v0] := by cases args; simp_all
  obtain ⟨rfl, rfl⟩ := trodVars_none hV
  obtain ⟨A0, c0, m0, rfl, hS0, wA0⟩ := op_U (hval 0 29 v0 rfl rfl) h0
  clear hA0 hval0 hval hA
  refine (replayTwice_any m0 A0 c0 W hS0 wA0).mono fun e W' ⟨he, hx⟩ => ?_
  subst he
  exact ⟨_, rfl, post_law laid_out (by kernel_rfl) hW' rfl rfl rfl Try.underlying4 hx⟩
theorem replayTwice_holds : Rows.ReplayTwiceSaid :=
  OpenClaim.holds_of_wide 5 Try.f5 rfl rfl rfl rfl rfl rfl rfl ⟨rfl, rfl, rfl, rfl, rfl⟩ rfl rfl rfl rfl rfl (by kernel_rfl) Try.func5 (by kernel_rfl)
    (of_decide_eq_true (by kernel_rfl)) (by unfold Func.isWrapper; first | (rw [if_pos (by decide +kernel)]; kernel_rfl) | (rw [if_neg (by decide +kernel)]; exact ⟨rfl, rfl⟩))
    (fun os started H enc _ => replayTwice_lifted os started H enc)
end Go.Proofs.Ytmkcpnklaijkfaa
