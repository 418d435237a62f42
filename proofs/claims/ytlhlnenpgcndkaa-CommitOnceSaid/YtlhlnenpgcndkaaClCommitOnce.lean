/-
  CommitOnce, for every image: the law returns true. No condition.
-/
import Derived.Test.YtlhlnenpgcndkaaAlive09
import Derived.Test.YtlhlnenpgcndkaaAt
import Derived.Test.YtlhlnenpgcndkaaOpen
namespace Go.Proofs.Ytlhlnenpgcndkaa
open Go.ChangeShapes Go.WideShapes Go.ChangeAt Go.RowKit

theorem crB_out {m : List Int} (h : crB m = true) : cntB (jw m) = true ∧ chkE (jnl m (cn m)) m.length = 0 ∧ cword (jnl m (cn m)) = jw m := by
  simp only [crB, Bool.and_eq_true, decide_eq_true_eq] at h
  exact ⟨h.1.1, h.1.2, h.2⟩
set_option maxHeartbeats 3200000 in
theorem commitOnce_any (m : List Int) (A : Option Addr) (c : Nat) (w : World) (hA : Sl w A m.length c (fU m)) (wf : WfU m) :
    Calls Try.prog 6 #[.slice A m.length c] w fun e w' => e = .returned (.bool true) ∧ Ext w w' := by
  cases hs : sizeB (m.length : Int) with
  | false =>
    have hi : imgE (m.length : Int) = 8 := by simp [imgE, hs]
    go_enter Try.func6, Try.ntmps6
    go_wp2_with fail
    refine (refCheck2_any _ _ _ _).mono ?_
    rintro e w1 ⟨rfl, rfl⟩
    go_wp2_with fail
    refine (alive09_any _).mono ?_
    rintro e w1 ⟨rfl, hx⟩
    go_wp2_with fail
    go_ret
    exact ⟨rfl, hx⟩
  | true =>
    have hi : imgE (m.length : Int) = 0 := by simp [imgE, hs]
    have hsz := sizeB_bd hs
    obtain ⟨ad, x, rfl, hx, g⟩ := hA.u_at (k := 24) (by omega)
    have hj : jw m = x := jw_at hx
    rw [add_lit_ ad 23] at g
    have hin : InU x := wf x (List.mem_of_getElem? hx)
    have hrd := commitRead_any m (some ad) c w hA wf
    by_cases hz : x = 0
    · subst hz
      have hr : crE m = 0 := by simp only [crE, hs, if_true]; rw [if_pos (.inl hj)]
      have hl : crL m = [] := by
        have : crB m = false := by simp [crB, hj, cntB_zero]
        simp [crL, this]
      rw [hr, hl] at hrd
      have HR := Lib.hid hrd
      clear hr hl hj hx hrd
      go_enter Try.func6, Try.ntmps6
      go_wp2_with fail
      refine (refCheck2_any _ _ _ _).mono ?_
      rintro e w1 ⟨rfl, rfl⟩
      go_wp2_with fail
      refine HR.out.mono ?_
      rintro e w1 ⟨A1, c1, rfl, hA1, hx1⟩
      have g1 := hx1.cell g
      go_wp2_with fail
      refine (alive09_any _).mono ?_
      rintro e w2 ⟨rfl, hx2⟩
      go_wp2_with fail
      go_ret
      exact ⟨rfl, hx1.trans hx2⟩
    · cases hb : crB m with
      | false =>
        have hr : crE m = 50 := by simp [crE, hs, hb, hj, hz]
        have hl : crL m = [] := by simp [crL, hb]
        have hz' : (x != 0) = true := by simpa using hz
        rw [hr, hl] at hrd
        have HR := Lib.hid hrd
        clear hr hl hj hx hrd hb
        go_enter Try.func6, Try.ntmps6
        go_wp2_with fail
        refine (refCheck2_any _ _ _ _).mono ?_
        rintro e w1 ⟨rfl, rfl⟩
        go_wp2_with fail
        refine HR.out.mono ?_
        rintro e w1 ⟨A1, c1, rfl, hA1, hx1⟩
        have g1 := hx1.cell g
        go_wp2_with fail
        refine (alive09_any _).mono ?_
        rintro e w2 ⟨rfl, hx2⟩
        go_wp2_with fail
        go_ret
        exact ⟨rfl, hx1.trans hx2⟩
      | true =>
        obtain ⟨q1, q2, q3⟩ := crB_out hb
        have hr : crE m = 0 := by simp only [crE, hs, if_true]; rw [if_pos (.inr hb)]
        have hl : crL m = jnl m (cn m) := by simp [crL, hs, hb]
        rw [hj] at q1 q3
        obtain ⟨c1, c2⟩ := cntB_bd q1
        have hcE : cntE x = 0 := by simp [cntE, hz, q1]
        have hcN : cntN x = x % 64 := by simp [cntN, q1]
        obtain ⟨t, ht⟩ : ∃ t : Nat, x % 64 = (t : Int) := Int.eq_ofNat_of_zero_le (by omega)
        have htn : cn m = t := by unfold cn; rw [hj, ht]; rfl
        rw [htn] at q2 q3 hl
        have hjl := jnl_length m t
        have hjw := jnl_wf wf (by omega) t
        have hrd0 : rdE m t = 0 := by simp only [rdE, hs, if_true, Int.toNat_natCast]; rw [if_neg (by omega), if_pos q2]
        have hcw0 : cwE (jnl m t) m.length = 0 := by unfold cwE; rw [if_pos q2, if_neg (by omega)]
        have h2 := fun A1 c1 W (h : Sl W A1 (jnl m t).length c1 (fE (jnl m t))) => commitWord_any (jnl m t) m.length A1 c1 W h hjw
        have h3 := fun W (h : Sl W (some ad) m.length c (fU m)) => entryRead_any m t (some ad) c W h wf
        have h4 := fun W => count_any x W hin
        rw [hr, hl] at hrd
        rw [hcw0, if_pos rfl, q3] at h2
        rw [hrd0] at h3
        rw [hcE, hcN, ht] at h4
        rw [ht] at c1 c2
        simp only [Int.toNat_natCast] at h3
        obtain ⟨L, hL⟩ : ∃ L, jnl m t = L := ⟨_, rfl⟩
        rw [hL] at hrd h2 h3 hjl
        subst hjl
        have hb' : ((L.length : Int) == 0) = false := beq_eq_false_iff_ne.2 (by omega)
        have HH := Lib.hid (And.intro hrd (And.intro h2 (And.intro h3 h4)))
        clear hrd h2 h3 h4 hL hr hl hj hx hb q1 q2 q3 hcE hcN ht htn hjw hrd0 hcw0
        go_enter Try.func6, Try.ntmps6
        go_wp2_with fail
        refine (refCheck2_any _ _ _ _).mono ?_
        rintro e w1 ⟨rfl, rfl⟩
        go_wp2_with fail
        refine HH.out.1.mono ?_
        rintro e w1 ⟨A1, c1', rfl, hA1, hx1⟩
        have g1 := hx1.cell g
        go_wp2_with fail
        refine (HH.out.2.1 A1 c1' w1 hA1).mono ?_
        rintro e w2 ⟨rfl, hx2⟩
        go_wp2_with fail
        refine (HH.out.2.2.1 w2 (hA.ext (by repeat (first | assumption | exact Ext.refl _ | refine Ext.drewN ?_ _ | refine Ext.drew ?_ | refine Ext.alloc ?_ _ | refine Ext.trans ?_ (by assumption))))).mono ?_
        rintro e w3 (⟨_, A3, c3, rfl, _, hA3, hx3⟩ | ⟨hne, _⟩)
        case inr => exact absurd rfl hne
        have g3 := (hx2.trans hx3).cell g1
        go_wp2_with fail
        refine (HH.out.2.2.2 w3).mono ?_
        rintro e w3' ⟨rfl, rfl⟩
        go_wp2_with fail
        refine (same7_yes L L rfl A3 A1 c3 c1' w3 hA3 (hA1.ext (by repeat (first | assumption | exact Ext.refl _ | refine Ext.drewN ?_ _ | refine Ext.drew ?_ | refine Ext.alloc ?_ _ | refine Ext.trans ?_ (by assumption))))).mono ?_
        rintro e w4 ⟨rfl, hd4⟩
        have hx4 := hd4.ext
        go_wp2_with fail
        refine (alive09_any _).mono ?_
        rintro e w5 ⟨rfl, hx5⟩
        go_wp2_with fail
        go_ret
        exact ⟨rfl, (by repeat (first | assumption | exact Ext.refl _ | refine Ext.drewN ?_ _ | refine Ext.drew ?_ | refine Ext.alloc ?_ _ | refine Ext.trans ?_ (by assumption)))⟩
set_option maxRecDepth 100000 in
theorem commitOnce_lifted (os : Os) (started : os.Started) (H : Type) (enc : TypeId × Value → H) :
    ReturnsInHanded {} Try.checked os 6 .any (Rows.commitOnceSpec.pre6 enc Try.prog Try.f6 Rows.commitOnceRow.domain false) (Rows.commitOnceSpec.post enc Try.prog Try.f6 false true false false) := by
  refine returnsInHanded_of_change (C := Try.checked) own_knob started (by kernel_rfl) Try.func6
    (ChangeSpec.witness6 (enc := enc) (C := Try.checked) false ⟨#[], #[.slice none 0 0], []⟩ 8 (by kernel_rfl) (by kernel_rfl) (by kernel_rfl) (by kernel_rfl)) ?_
  intro W base args ds gs before hval0 hW hcnd _
  have hval : ∀ (j : Nat) t v, Try.f6.params[j]? = some t → args[j]? = some v → Value.okWide Try.prog W .any base t v := hval0
  have hW' := hW
  obtain ⟨p, q, hA0, hV, rfl, hfz, hnd⟩ := hW
  have hA : DataW.TrodAll enc Try.prog W 0 (fun _ => true) true Try.f6.params.toList args.toList ds p := hA0
  rw [Try.params6] at hA hval
  obtain ⟨v0, vs0, d0, ds0, p0, q0, hargs, rfl, rfl, h0, r0⟩ := trodAll_cons hA
  obtain ⟨rfl, rfl, rfl⟩ := trodAll_nil r0
  obtain rfl : args = #[v0] := by cases args; simp_all
  obtain ⟨rfl, rfl⟩ := trodVars_none hV
  obtain ⟨A0, c0, m0, rfl, hS0, wA0⟩ := op_U (hval 0 30 v0 rfl rfl) h0
  clear hA0 hval0 hval hA
  refine (commitOnce_any m0 A0 c0 W hS0 wA0).mono fun e W' ⟨he, hx⟩ => ?_
  subst he
  exact ⟨_, rfl, post_law laid_out (by kernel_rfl) hW' rfl rfl rfl Try.underlying4 hx⟩
theorem commitOnce_holds : Rows.CommitOnceSaid :=
  OpenClaim.holds_of_wide 6 Try.f6 rfl rfl rfl rfl rfl rfl rfl ⟨rfl, rfl, rfl, rfl, rfl⟩ rfl rfl rfl rfl rfl (by kernel_rfl) Try.func6 (by kernel_rfl)
    (of_decide_eq_true (by kernel_rfl)) (by unfold Func.isWrapper; first | (rw [if_pos (by decide +kernel)]; kernel_rfl) | (rw [if_neg (by decide +kernel)]; exact ⟨rfl, rfl⟩))
    (fun os started H enc _ => commitOnce_lifted os started H enc)
end Go.Proofs.Ytlhlnenpgcndkaa
