/-
  EntryBack, for every image and every two lists of entries: the law returns true. No condition.
-/
import Derived.Test.YthnonfmaamchkaaLawEB
import Derived.Test.YthnonfmaamchkaaSel
import Derived.Test.YthnonfmaamchkaaAlive08
import Derived.Test.YthnonfmaamchkaaOpen
namespace Go.Proofs.Ythnonfmaamchkaa
open Go.ChangeShapes Go.WideShapes Go.ChangeAt Go.RowKit

set_option maxHeartbeats 3200000 in
theorem entryBack_any (m : List Int) (l o : List (Int × Int)) (A : Option Addr) (c : Nat) (B : Option Addr) (d : Nat) (C : Option Addr) (f : Nat) (w : World) (hA : Sl w A m.length c (fU m)) (hB : Sl w B l.length d (fE l)) (hC : Sl w C o.length f (fE o)) (wm : WfU m) (wl : WfE l) (wo : WfE o) :
    Calls Try.prog 13 #[.slice A m.length c, .slice B l.length d, .slice C o.length f] w fun e w' => e = .returned (.bool true) ∧ Ext w w' := by
  cases hs : sizeB (m.length : Int) with
  | false =>
    have hi : imgE (m.length : Int) = 8 := by simp [imgE, hs]
    go_enter Try.func13, Try.ntmps13
    go_wp2_with fail
    refine (refCheck2_any _ _ _ _).mono ?_
    rintro e w1 ⟨rfl, rfl⟩
    go_wp2_with fail
    refine (alive08_any _).mono ?_
    rintro e w1 ⟨rfl, hx⟩
    go_wp2_with fail
    go_ret
    exact ⟨rfl, hx⟩
  | true =>
    have hi : imgE (m.length : Int) = 0 := by simp [imgE, hs]
    have hsz := sizeB_bd hs
    by_cases h0 : chkE l m.length = 0
    · by_cases h1 : chkE o m.length = 0
      · have hl32 := (chk_iff.1 h0).2.1
        have hll := listed_length l
        have hlo := listed_length o
        have hrg : rngE m.length 32 (2 * (l.length : Int)) = 0 := rngE_in hs (by decide) (by omega) (by omega)
        obtain ⟨X, hX, hXl, hXj, hXr, hXw⟩ : ∃ X, splice m 32 (listed l) = X ∧ X.length = m.length ∧ jnl X l.length = l ∧ rdE X l.length = 0 ∧ WfU X := ⟨_, rfl, splice_len (by omega), jnl_back h0, rdE_back h0, wf_splice wm wl h0⟩
        have H0 := Lib.hid (And.intro h0 (And.intro h1 (And.intro hrg (And.intro hX (And.intro hXl (And.intro hXj (And.intro hXr hXw)))))))
        obtain ⟨L, hL, hLl⟩ : ∃ L, listed l = L ∧ L.length = 2 * l.length := ⟨_, rfl, hll⟩
        obtain ⟨O, hO, hOl⟩ : ∃ O, listed o = O ∧ O.length = 2 * o.length := ⟨_, rfl, hlo⟩
        have hLO : decide (L = O) = decide (l = o) := by rw [← hL, ← hO, listed_iff]
        have HL := Lib.hid (And.intro hL (And.intro hO (And.intro hLl (And.intro hOl hLO))))
        have hput : ∀ (D : Option Addr) (q : Nat) (w' : World), Sl w' A m.length c (fU m) → Sl w' D (2 * l.length) q (fU L) → Calls Try.prog 44 #[.slice A m.length c, .int .i64 32, .slice D (2 * l.length) q] w' (RetS' w' 31 1 m.length (fU X) 0) := by
          intro D q w' a1 a2
          have := imagePut_any m L A c 32 D q w' a1 (by rw [hLl]; exact a2)
          rw [hLl, show ((2 * l.length : Nat) : Int) = 2 * (l.length : Int) from by omega, hrg] at this
          rw [← hX, hL]
          exact this
        have HP := Lib.hid hput
        clear hput hX hXl hXj hXr hXw hL hLl hO hOl hLO hll hlo hrg h0 h1
        go_enter Try.func13, Try.ntmps13
        go_wp2_with fail
        refine (refCheck2_any _ _ _ _).mono ?_
        rintro e w1 ⟨rfl, rfl⟩
        go_wp2_with fail
        refine (refCheck8_any l _ B d w hB).mono ?_
        rintro e w1 ⟨rfl, hd1⟩
        have h0' := H0.out.1
        go_wp2_with fail
        refine (refCheck8_any o _ C f w1 (hC.ext hd1.ext)).mono ?_
        rintro e w2 ⟨rfl, hd2⟩
        have h1' := H0.out.2.1
        have hx2 := hd1.ext.trans hd2.ext
        go_wp2_with fail
        clear h0' h1'
        refine (entryWords_any l m.length B d w2 (hB.ext hx2) wl).mono ?_
        rintro e w3 (⟨_, A3, c3, rfl, _, hA3, hx3⟩ | ⟨hne, _⟩)
        case inr => exact absurd H0.out.1 hne
        have hX3 := hx2.trans hx3
        rw [HL.out.1] at hA3
        have h0' := H0.out.1
        go_wp2_with fail
        clear h0'
        refine (entryWords_any o m.length C f w3 (hC.ext hX3) wo).mono ?_
        rintro e w4 (⟨_, A4, c4, rfl, _, hA4, hx4⟩ | ⟨hne, _⟩)
        case inr => exact absurd H0.out.2.1 hne
        have hX4 := hX3.trans hx4
        rw [HL.out.2.1] at hA4
        have h1' := H0.out.2.1
        go_wp2_with fail
        clear h1'
        refine (HP.out A3 c3 w4 (hA.ext hX4) (hA3.ext hx4)).mono ?_
        rintro e w5 (⟨_, A5, c5, rfl, _, hA5, hx5⟩ | ⟨hne, _⟩)
        case inr => exact absurd rfl hne
        have hX5 := hX4.trans hx5
        have hrd := entryRead_any X l.length A5 c5 w5 (by rw [H0.out.2.2.2.2.1]; exact hA5) H0.out.2.2.2.2.2.2.2
        rw [H0.out.2.2.2.2.2.2.1, H0.out.2.2.2.2.1, Int.toNat_natCast, H0.out.2.2.2.2.2.1] at hrd
        have HR := Lib.hid hrd
        clear hrd
        go_wp2_with fail
        refine HR.out.mono ?_
        rintro e w6 (⟨_, A6, c6, rfl, _, hA6, hx6⟩ | ⟨hne, _⟩)
        case inr => exact absurd rfl hne
        have hX6 := hX5.trans hx6
        have hA36 := hA3.ext (hx4.trans (hx5.trans hx6))
        have hA46 := hA4.ext (hx5.trans hx6)
        have hw2 : IntKind.i64.wrap (2 * (l.length : Int)) = 2 * (l.length : Int) := i64_small (by omega) (by omega)
        clear hA3 hA4 hA5 hx3 hx4 hx5 hx6 hX3 hX4 hX5
        go_wp2_with fail
        refine (same7_yes l l rfl _ _ _ _ w6 hA6 (hB.ext hX6)).mono ?_
        rintro e w7 ⟨rfl, hd7⟩
        go_wp2_with fail
        refine (same2_at L O _ _ HL.out.2.2.1 HL.out.2.2.2.1 _ _ _ _ w7 (hA36.ext hd7.ext) (hA46.ext hd7.ext)).mono ?_
        rintro e w8 ⟨rfl, hd8⟩
        rw [HL.out.2.2.2.2]
        go_wp2_with fail
        refine (same7_any l o _ _ _ _ w8 (hB.ext (hX6.trans (hd7.ext.trans hd8.ext))) (hC.ext (hX6.trans (hd7.ext.trans hd8.ext)))).mono ?_
        rintro e w9 ⟨rfl, hd9⟩
        go_wp2_with fail
        refine (alive08_any _).mono ?_
        rintro e w10 ⟨rfl, hx10⟩
        go_wp2_with fail
        go_ret
        exact ⟨rfl, hX6.trans (hd7.ext.trans (hd8.ext.trans (hd9.ext.trans hx10)))⟩
      · have hb : (chkE o m.length != 0) = true := by simpa using h1
        go_enter Try.func13, Try.ntmps13
        go_wp2_with fail
        refine (refCheck2_any _ _ _ _).mono ?_
        rintro e w1 ⟨rfl, rfl⟩
        go_wp2_with fail
        refine (refCheck8_any l _ B d w hB).mono ?_
        rintro e w1 ⟨rfl, hd1⟩
        go_wp2_with fail
        refine (refCheck8_any o _ C f w1 (hC.ext hd1.ext)).mono ?_
        rintro e w2 ⟨rfl, hd2⟩
        go_wp2_with fail
        refine (alive08_any _).mono ?_
        rintro e w3 ⟨rfl, hx⟩
        go_wp2_with fail
        go_ret
        exact ⟨rfl, hd1.ext.trans (hd2.ext.trans hx)⟩
    · have hb : (chkE l m.length != 0) = true := by simpa using h0
      go_enter Try.func13, Try.ntmps13
      go_wp2_with fail
      refine (refCheck2_any _ _ _ _).mono ?_
      rintro e w1 ⟨rfl, rfl⟩
      go_wp2_with fail
      refine (refCheck8_any l _ B d w hB).mono ?_
      rintro e w1 ⟨rfl, hd1⟩
      go_wp2_with fail
      refine (alive08_any _).mono ?_
      rintro e w2 ⟨rfl, hx⟩
      go_wp2_with fail
      go_ret
      exact ⟨rfl, hd1.ext.trans hx⟩
set_option maxRecDepth 100000 in
theorem entryBack_lifted (os : Os) (started : os.Started) (H : Type) (enc : TypeId × Value → H) :
    ReturnsInHanded {} Try.checked os 13 .any (Rows.entryBackSpec.pre6 enc Try.prog Try.f13 Rows.entryBackRow.domain false) (Rows.entryBackSpec.post enc Try.prog Try.f13 false true false false) := by
  refine returnsInHanded_of_change (C := Try.checked) own_knob started (by kernel_rfl) Try.func13
    (ChangeSpec.witness6 (enc := enc) (C := Try.checked) false ⟨#[], #[.slice none 0 0, .slice none 0 0, .slice none 0 0], []⟩ 8 (by kernel_rfl) (by kernel_rfl) (by kernel_rfl) (by kernel_rfl)) ?_
  intro W base args ds gs before hval0 hW hcnd _
  have hval : ∀ (j : Nat) t v, Try.f13.params[j]? = some t → args[j]? = some v → Value.okWide Try.prog W .any base t v := hval0
  have hW' := hW
  obtain ⟨p, q, hA0, hV, rfl, hfz, hnd⟩ := hW
  have hA : DataW.TrodAll enc Try.prog W 0 (fun _ => true) true Try.f13.params.toList args.toList ds p := hA0
  rw [Try.params13] at hA hval
  obtain ⟨v0, vs0, d0, ds0, p0, q0, hargs, rfl, rfl, h0, r0⟩ := trodAll_cons hA
  obtain ⟨v1, vs1, d1, ds1, p1, q1, rfl, rfl, rfl, h1, r1⟩ := trodAll_cons r0
  obtain ⟨v2, vs2, d2, ds2, p2, q2, rfl, rfl, rfl, h2, r2⟩ := trodAll_cons r1
  obtain ⟨rfl, rfl, rfl⟩ := trodAll_nil r2
  obtain rfl : args = #[v0, v1, v2] := by cases args; simp_all
  obtain ⟨rfl, rfl⟩ := trodVars_none hV
  obtain ⟨A0, c0, m0, rfl, hS0, wA0⟩ := op_U (hval 0 41 v0 rfl rfl) h0
  obtain ⟨A1, c1, l1, rfl, hS1, wA1⟩ := op_E (hval 1 24 v1 rfl rfl) h1
  obtain ⟨A2, c2, l2, rfl, hS2, wA2⟩ := op_E (hval 2 24 v2 rfl rfl) h2
  clear hA0 hval0 hval hA
  refine (entryBack_any m0 l1 l2 A0 c0 A1 c1 A2 c2 W hS0 hS1 hS2 wA0 wA1 wA2).mono fun e W' ⟨he, hx⟩ => ?_
  subst he
  exact ⟨_, rfl, post_law laid_out (by kernel_rfl) hW' rfl rfl rfl Try.underlying4 hx⟩
theorem entryBack_holds : Rows.EntryBackSaid :=
  OpenClaim.holds_of_wide 13 Try.f13 rfl rfl rfl rfl rfl rfl rfl ⟨rfl, rfl, rfl, rfl, rfl⟩ rfl rfl rfl rfl rfl (by kernel_rfl) Try.func13 (by kernel_rfl)
    (of_decide_eq_true (by kernel_rfl)) (by unfold Func.isWrapper; first | (rw [if_pos (by decide +kernel)]; kernel_rfl) | (rw [if_neg (by decide +kernel)]; exact ⟨rfl, rfl⟩))
    (fun os started H enc _ => entryBack_lifted os started H enc)
end Go.Proofs.Ythnonfmaamchkaa
