/-
  EntryOnce, for every image and every number: the law returns true. No condition.
-/
import Derived.Test.YthnonfmaamchkaaLawEB
import Derived.Test.YthnonfmaamchkaaSel
import Derived.Test.YthnonfmaamchkaaAlive08
import Derived.Test.YthnonfmaamchkaaOpen
namespace Go.Proofs.Ythnonfmaamchkaa
open Go.ChangeShapes Go.WideShapes Go.ChangeAt Go.RowKit

set_option maxHeartbeats 3200000 in
theorem entryOnce_any (m : List Int) (n : Int) (A : Option Addr) (c : Nat) (w : World) (hA : Sl w A m.length c (fU m)) (wf : WfU m) :
    Calls Try.prog 11 #[.slice A m.length c, .int .i64 n] w fun e w' => e = .returned (.bool true) ∧ Ext w w' := by
  cases hs : sizeB (m.length : Int) with
  | false =>
    have hi : imgE (m.length : Int) = 8 := by simp [imgE, hs]
    go_enter Try.func11, Try.ntmps11
    go_wp2_with fail
    refine (refCheck2_any _ _ _ _).mono ?_
    rintro e w1 ⟨rfl, rfl⟩
    go_wp2_with fail
    refine (alive08_any _).mono ?_
    rintro e w1 ⟨rfl, hx⟩
    go_wp2_with fail
    go_ret
    exact ⟨rfl, hx⟩
  | true =>
    have hi : imgE (m.length : Int) = 0 := by simp [imgE, hs]
    have hsz := sizeB_bd hs
    by_cases h1 : n < 0
    · go_enter Try.func11, Try.ntmps11
      go_wp2_with fail
      refine (refCheck2_any _ _ _ _).mono ?_
      rintro e w1 ⟨rfl, rfl⟩
      go_wp2_with fail
      refine (alive08_any _).mono ?_
      rintro e w1 ⟨rfl, hx⟩
      go_wp2_with fail
      go_ret
      exact ⟨rfl, hx⟩
    · by_cases h2 : 32 < n
      · go_enter Try.func11, Try.ntmps11
        go_wp2_with fail
        refine (refCheck2_any _ _ _ _).mono ?_
        rintro e w1 ⟨rfl, rfl⟩
        go_wp2_with fail
        refine (alive08_any _).mono ?_
        rintro e w1 ⟨rfl, hx⟩
        go_wp2_with fail
        go_ret
        exact ⟨rfl, hx⟩
      · obtain ⟨k, rfl⟩ := Int.eq_ofNat_of_zero_le (show 0 ≤ n by omega)
        have hrd := entryRead_any m k A c w hA wf
        have hrd0 : rdE m k = if chkE (jnl m k) m.length = 0 then 0 else 50 := by
          simp only [rdE, hs, if_true, Int.toNat_natCast]; rw [if_neg (by omega)]
        rw [hrd0, Int.toNat_natCast] at hrd
        clear hrd0
        by_cases h0 : chkE (jnl m k) m.length = 0
        · rw [if_pos h0] at hrd
          have hjw := jnl_words h0
          have hwd := jnl_wf wf (by omega) k
          have hrg : rngE m.length 32 (2 * (k : Int)) = 0 := rngE_in hs (by decide) (by omega) (by omega)
          have H0 := Lib.hid (And.intro h0 (And.intro hjw (And.intro hwd hrg)))
          clear hjw hwd hrg h0
          have HR := Lib.hid hrd
          clear hrd
          obtain ⟨L, hL, hLl⟩ : ∃ L, jnl m k = L ∧ L.length = k := ⟨_, rfl, jnl_length m k⟩
          rw [hL] at H0 HR
          clear hL
          go_enter Try.func11, Try.ntmps11
          go_wp2_with fail
          refine (refCheck2_any _ _ _ _).mono ?_
          rintro e w1 ⟨rfl, rfl⟩
          go_wp2_with fail
          refine HR.out.mono ?_
          rintro e w1 (⟨_, A1, c1, rfl, _, hA1, hx1⟩ | ⟨hne, _⟩)
          case inr => exact absurd rfl hne
          subst hLl
          go_wp2_with fail
          refine (entryWords_any L m.length A1 c1 w1 hA1 H0.out.2.2.1).mono ?_
          rintro e w2 (⟨_, A2, c2, rfl, _, hA2, hx2⟩ | ⟨hne, _⟩)
          case inr => exact absurd H0.out.1 hne
          rw [H0.out.2.1] at hA2
          have hz := H0.out.1
          have hw2 : IntKind.i64.wrap (2 * (L.length : Int)) = 2 * (L.length : Int) := i64_small (by omega) (by omega)
          go_wp2_with fail
          refine (imageGet_any m A c 32 (2 * (L.length : Int)) w2 (hA.ext (hx1.trans hx2))).mono ?_
          rintro e w3 (⟨_, A3, c3, rfl, _, hA3, hx3⟩ | ⟨hne, _⟩)
          case inr => exact absurd H0.out.2.2.2 hne
          have hz2 := H0.out.2.2.2
          have ht : (2 * (L.length : Int)).toNat = 2 * L.length := by omega
          rw [ht] at hA3
          rw [ht]
          clear ht
          go_wp2_with fail
          refine (same2_at_yes ((m.drop 32).take (2 * L.length)) ((m.drop 32).take (2 * L.length)) rfl _ _ (by simp; omega) (by simp; omega) _ _ _ _ w3 (hA2.ext hx3) hA3).mono ?_
          rintro e w4 ⟨rfl, hd4⟩
          go_wp2_with fail
          refine (alive08_any _).mono ?_
          rintro e w5 ⟨rfl, hx5⟩
          go_wp2_with fail
          go_ret
          exact ⟨rfl, hx1.trans (hx2.trans (hx3.trans (hd4.ext.trans hx5)))⟩
        · rw [if_neg h0] at hrd
          have hk : (0 : Int) < k := by
            refine Classical.byContradiction fun hk => h0 ?_
            have : k = 0 := by omega
            subst this
            exact chk_iff.2 ⟨hs, by simp [jnl], by simp [jnl], by simp [jnl]⟩
          clear h0
          go_enter Try.func11, Try.ntmps11
          go_wp2_with fail
          refine (refCheck2_any _ _ _ _).mono ?_
          rintro e w1 ⟨rfl, rfl⟩
          go_wp2_with fail
          refine hrd.mono ?_
          rintro e w1 (⟨hne, _⟩ | ⟨_, rfl, hx1⟩)
          · exact absurd hne (by decide)
          go_wp2_with fail
          refine (alive08_any _).mono ?_
          rintro e w5 ⟨rfl, hx5⟩
          go_wp2_with fail
          go_ret
          exact ⟨rfl, hx1.trans hx5⟩
set_option maxRecDepth 100000 in
theorem entryOnce_lifted (os : Os) (started : os.Started) (H : Type) (enc : TypeId × Value → H) :
    ReturnsInHanded {} Try.checked os 11 .any (Rows.entryOnceSpec.pre6 enc Try.prog Try.f11 Rows.entryOnceRow.domain false) (Rows.entryOnceSpec.post enc Try.prog Try.f11 false true false false) := by
  refine returnsInHanded_of_change (C := Try.checked) own_knob started (by kernel_rfl) Try.func11
    (ChangeSpec.witness6 (enc := enc) (C := Try.checked) false ⟨#[], #[.slice none 0 0, .int .i64 0], []⟩ 8 (by kernel_rfl) (by kernel_rfl) (by kernel_rfl) (by kernel_rfl)) ?_
  intro W base args ds gs before hval0 hW hcnd _
  have hval : ∀ (j : Nat) t v, Try.f11.params[j]? = some t → args[j]? = some v → Value.okWide Try.prog W .any base t v := hval0
  have hW' := hW
  obtain ⟨p, q, hA0, hV, rfl, hfz, hnd⟩ := hW
  have hA : DataW.TrodAll enc Try.prog W 0 (fun _ => true) true Try.f11.params.toList args.toList ds p := hA0
  rw [Try.params11] at hA hval
  obtain ⟨v0, vs0, d0, ds0, p0, q0, hargs, rfl, rfl, h0, r0⟩ := trodAll_cons hA
  obtain ⟨v1, vs1, d1, ds1, p1, q1, rfl, rfl, rfl, h1, r1⟩ := trodAll_cons r0
  obtain ⟨rfl, rfl, rfl⟩ := trodAll_nil r1
  obtain rfl : args = #[v0, v1] := by cases args; simp_all
  obtain ⟨rfl, rfl⟩ := trodVars_none hV
  obtain ⟨A0, c0, m0, rfl, hS0, wA0⟩ := op_U (hval 0 41 v0 rfl rfl) h0
  obtain ⟨x1, rfl, wx1⟩ := op_i (hval 1 3 v1 rfl rfl) h1
  clear hA0 hval0 hval hA
  refine (entryOnce_any m0 x1 A0 c0 W hS0 wA0).mono fun e W' ⟨he, hx⟩ => ?_
  subst he
  exact ⟨_, rfl, post_law laid_out (by kernel_rfl) hW' rfl rfl rfl Try.underlying4 hx⟩
theorem entryOnce_holds : Rows.EntryOnceSaid :=
  OpenClaim.holds_of_wide 11 Try.f11 rfl rfl rfl rfl rfl rfl rfl ⟨rfl, rfl, rfl, rfl, rfl⟩ rfl rfl rfl rfl rfl (by kernel_rfl) Try.func11 (by kernel_rfl)
    (of_decide_eq_true (by kernel_rfl)) (by unfold Func.isWrapper; first | (rw [if_pos (by decide +kernel)]; kernel_rfl) | (rw [if_neg (by decide +kernel)]; exact ⟨rfl, rfl⟩))
    (fun os started H enc _ => entryOnce_lifted os started H enc)
end Go.Proofs.Ythnonfmaamchkaa
