/-
  CommitTold, for every image and every list of entries: the law returns true. No condition.
-/
import Derived.Test.YtlhlnenpgcndkaaAlive09
import Derived.Test.YtlhlnenpgcndkaaLawC
import Derived.Test.YtlhlnenpgcndkaaAt
import Derived.Test.YtlhlnenpgcndkaaOpen
namespace Go.Proofs.Ytlhlnenpgcndkaa
open Go.ChangeShapes Go.WideShapes Go.ChangeAt Go.RowKit

theorem imagePut_at (m l : List Int) (n k : Nat) (hm : m.length = n) (hl : l.length = k) (A : Option Addr) (c : Nat) (a : Int) (B : Option Addr) (d : Nat) (w : World) (hA : Sl w A n c (fU m)) (hB : Sl w B k d (fU l)) (hr : rngE n a k = 0) :
    Calls Try.prog 35 #[.slice A n c, .int .i64 a, .slice B k d] w (RetU w (splice m a.toNat l) 0) := by
  subst hm hl
  refine (imagePut_any m l A c a B d w hA hB).mono ?_
  rintro e w' (⟨_, A1, c1, rfl, _, hA1, hx1⟩ | ⟨hne, _⟩)
  case inr => exact absurd hr hne
  obtain ⟨_, h1, _, h3, h4⟩ := rngE_ok hr
  exact retU_at (splice_len (by omega)) hA1 hx1
set_option maxRecDepth 100000 in
set_option maxHeartbeats 6400000 in
theorem commitTold_any (m : List Int) (l : List (Int × Int)) (A : Option Addr) (c : Nat) (B : Option Addr) (d : Nat) (w : World) (hA : Sl w A m.length c (fU m)) (wm : WfU m) (hB : Sl w B l.length d (fE l)) (wf : WfE l) :
    Calls Try.prog 9 #[.slice A m.length c, .slice B l.length d] w fun e w' => e = .returned (.bool true) ∧ Ext w w' := by
  cases hs : sizeB (m.length : Int) with
  | false =>
    have hi : imgE (m.length : Int) = 8 := by simp [imgE, hs]
    go_enter Try.func9, Try.ntmps9
    go_wp2_with fail
    refine (refCheck2_any _ _ _ _).mono ?_
    rintro e w1 ⟨rfl, rfl⟩
    go_wp2_with fail
    refine (alive09_any _).mono ?_
    rintro e w1 ⟨rfl, hx⟩
    go_wp2_with fail
    go_ret
    exact ⟨rfl, hx⟩
  | true =>
    have hi : imgE (m.length : Int) = 0 := by simp [imgE, hs]
    have hsz := sizeB_bd hs
    by_cases hn : l.length = 0
    · have hb : ((l.length : Int) == 0) = true := by simpa using hn
      clear hn
      go_enter Try.func9, Try.ntmps9
      go_wp2_with fail
      refine (refCheck2_any _ _ _ _).mono ?_
      rintro e w1 ⟨rfl, rfl⟩
      go_wp2_with fail
      refine (alive09_any _).mono ?_
      rintro e w1 ⟨rfl, hx⟩
      go_wp2_with fail
      go_ret
      exact ⟨rfl, hx⟩
    · have hb : ((l.length : Int) == 0) = false := by simpa using hn
      by_cases h0 : chkE l m.length = 0
      · have hl32 := (chk_iff.1 h0).2.1
        obtain ⟨p0, p1, p2, p3, p4⟩ := cw_facts h0 hn
        obtain ⟨q1, q2⟩ := put_has h0
        have wj := wf_jwords h0 hn wf
        have wx := wf_splice' (off := 24) wm wj
        have h0x : chkE l (splice m 24 (jwords l)).length = 0 := by rw [q1]; exact h0
        obtain ⟨r1, r2, r3⟩ := cr_has h0x hn q2
        have hy : (splice (splice m 24 (jwords l)) 24 [0]).length = m.length := by rw [splice_len (by simp; omega), q1]
        have hyj : jw (splice (splice m 24 (jwords l)) 24 [0]) = 0 := splice_in (m := splice m 24 (jwords l)) (off := 24) (cs := [0]) (j := 0) (by simp; omega) rfl
        obtain ⟨s1, s2, s3⟩ := cr_zero (by rw [hy]; exact hs) hyj
        have wy := wf_splice' (off := 24) wx (show WfU [0] from fun z hz => by simp at hz; subst hz; unfold InU; decide)
        have g1 := rngE_in (n := m.length) (a := 24) (k := ((8 + 2 * l.length : Nat) : Int)) hs (by decide) (by omega) (by omega)
        have g2 := rngE_in (n := m.length) (a := 24) (k := ((1 : Nat) : Int)) hs (by decide) (by decide) (by omega)
        have hjl := jwords_length l
        have h1 := fun W (h : Sl W B l.length d (fE l)) => journal_any l m.length B d W h wf
        have hr1 : jrL l m.length = jwords l := by simp [jrL, p3]
        rw [p3, hr1] at h1
        have h2 := fun A2 c2 W (ha : Sl W A m.length c (fU m)) (h : Sl W A2 (8 + 2 * l.length) c2 (fU (jwords l))) => imagePut_at m (jwords l) _ _ rfl hjl A c 24 A2 c2 W ha h g1
        have h3 := fun A2 c2 W (h : Sl W A2 m.length c2 (fU (splice m 24 (jwords l)))) => commitRead_at (splice m 24 (jwords l)) _ q1 A2 c2 W h wx
        rw [r2, r3] at h3
        have h4 := fun A2 c2 B2 d2 W (ha : Sl W A2 m.length c2 (fU (splice m 24 (jwords l)))) (h : Sl W B2 1 d2 (fU [0])) => imagePut_at (splice m 24 (jwords l)) [0] _ _ q1 rfl A2 c2 24 B2 d2 W ha h g2
        have h5 := fun A2 c2 W (h : Sl W A2 m.length c2 (fU (splice (splice m 24 (jwords l)) 24 [0]))) => commitRead_at (splice (splice m 24 (jwords l)) 24 [0]) _ hy A2 c2 W h wy
        rw [s2, s3] at h5
        simp only [show (24 : Int).toNat = 24 from rfl] at h2 h4
        obtain ⟨Y, hY⟩ : ∃ Y, splice (splice m 24 (jwords l)) 24 [0] = Y := ⟨_, rfl⟩
        obtain ⟨X, hX⟩ : ∃ X, splice m 24 (jwords l) = X := ⟨_, rfl⟩
        obtain ⟨J, hJ⟩ : ∃ J, jwords l = J := ⟨_, rfl⟩
        rw [hY] at h4 h5 hy
        rw [hX] at h2 h3 h4 q1
        rw [hJ] at h1 h2 hjl
        have w1 : IntKind.i64.wrap (2 * (l.length : Int)) = 2 * (l.length : Int) := i64_small (by omega) (by omega)
        have w2 : IntKind.i64.wrap (8 + 2 * (l.length : Int)) = 8 + 2 * (l.length : Int) := i64_small (by omega) (by omega)
        have HL := Lib.hid (And.intro hjl (And.intro q1 hy))
        have HH := Lib.hid (And.intro h1 (And.intro h2 (And.intro h3 (And.intro h4 (And.intro h5 h0)))))
        clear h1 h2 h3 h4 h5 h0 hjl q1 hy hY hX hJ q2 wj wx h0x r1 r2 r3 hyj s1 s2 s3 wy g1 g2 hr1 p0 p1 p2 p3 p4 hn
        go_enter Try.func9, Try.ntmps9
        go_wp2_with fail
        refine (refCheck2_any _ _ _ _).mono ?_
        rintro e w1 ⟨rfl, rfl⟩
        go_wp2_with fail
        refine (refCheck8_any l _ B d w hB).mono ?_
        rintro e w1 ⟨rfl, hd1⟩
        have hx1 := hd1.ext
        have h0 := HH.out.2.2.2.2.2
        go_wp2_with fail
        clear h0
        refine (HH.out.1 w1 (hB.ext (by repeat (first | assumption | exact Ext.refl _ | refine Ext.drewN ?_ _ | refine Ext.drew ?_ | refine Ext.alloc ?_ _ | refine Ext.trans ?_ (by assumption))))).mono ?_
        rintro e w2 ⟨A2, c2, rfl, hA2, hx2⟩
        rw [HL.out.1] at hA2 ⊢
        go_wp2_with fail
        refine (HH.out.2.1 A2 c2 w2 (hA.ext (by repeat (first | assumption | exact Ext.refl _ | refine Ext.drewN ?_ _ | refine Ext.drew ?_ | refine Ext.alloc ?_ _ | refine Ext.trans ?_ (by assumption)))) hA2).mono ?_
        rintro e w3 ⟨A3, c3, rfl, hA3, hx3⟩
        rw [HL.out.2.1] at hA3 ⊢
        go_wp2_with fail
        refine (HH.out.2.2.1 A3 c3 w3 hA3).mono ?_
        rintro e w4 ⟨A4, c4, rfl, hA4, hx4⟩
        go_wp2_with fail
        refine (same7_yes l l rfl A4 B c4 d w4 hA4 (hB.ext (by repeat (first | assumption | exact Ext.refl _ | refine Ext.drewN ?_ _ | refine Ext.drew ?_ | refine Ext.alloc ?_ _ | refine Ext.trans ?_ (by assumption))))).mono ?_
        rintro e w5 ⟨rfl, hd5⟩
        have hx5 := hd5.ext
        go_wp2_with fail
        refine (HH.out.2.2.2.1 A3 c3 _ _ _ (hA3.ext (by repeat (first | assumption | exact Ext.refl _ | refine Ext.drewN ?_ _ | refine Ext.drew ?_ | refine Ext.alloc ?_ _ | refine Ext.trans ?_ (by assumption)))) (Sl.lit' _ _ _ _ rfl (by decide))).mono ?_
        rintro e w6 ⟨A6, c6, rfl, hA6, hx6⟩
        rw [HL.out.2.2] at hA6 ⊢
        go_wp2_with fail
        refine (HH.out.2.2.2.2.1 A6 c6 _ hA6).mono ?_
        rintro e w7 ⟨A7, c7, rfl, hA7, hx7⟩
        go_wp2_with fail
        refine (alive09_any _).mono ?_
        rintro e w8 ⟨rfl, hx8⟩
        go_wp2_with fail
        go_ret
        exact ⟨rfl, (by repeat (first | assumption | exact Ext.refl _ | refine Ext.drewN ?_ _ | refine Ext.drew ?_ | refine Ext.alloc ?_ _ | refine Ext.trans ?_ (by assumption)))⟩
      · have hb2 : (chkE l m.length != 0) = true := by simpa using h0
        go_enter Try.func9, Try.ntmps9
        go_wp2_with fail
        refine (refCheck2_any _ _ _ _).mono ?_
        rintro e w1 ⟨rfl, rfl⟩
        go_wp2_with fail
        refine (refCheck8_any l _ B d w hB).mono ?_
        rintro e w1 ⟨rfl, hd1⟩
        have hx1 := hd1.ext
        go_wp2_with fail
        refine (alive09_any _).mono ?_
        rintro e w2 ⟨rfl, hx2⟩
        go_wp2_with fail
        go_ret
        exact ⟨rfl, hx1.trans hx2⟩
set_option maxRecDepth 100000 in
theorem commitTold_lifted (os : Os) (started : os.Started) (H : Type) (enc : TypeId × Value → H) :
    ReturnsInHanded {} Try.checked os 9 .any (Rows.commitToldSpec.pre6 enc Try.prog Try.f9 Rows.commitToldRow.domain false) (Rows.commitToldSpec.post enc Try.prog Try.f9 false true false false) := by
  refine returnsInHanded_of_change (C := Try.checked) own_knob started (by kernel_rfl) Try.func9
    (ChangeSpec.witness6 (enc := enc) (C := Try.checked) false ⟨#[], #[.slice none 0 0, .slice none 0 0], []⟩ 8 (by kernel_rfl) (by kernel_rfl) (by kernel_rfl) (by kernel_rfl)) ?_
  intro W base args ds gs before hval0 hW hcnd _
  have hval : ∀ (j : Nat) t v, Try.f9.params[j]? = some t → args[j]? = some v → Value.okWide Try.prog W .any base t v := hval0
  have hW' := hW
  obtain ⟨p, q, hA0, hV, rfl, hfz, hnd⟩ := hW
  have hA : DataW.TrodAll enc Try.prog W 0 (fun _ => true) true Try.f9.params.toList args.toList ds p := hA0
  rw [Try.params9] at hA hval
  obtain ⟨v0, vs0, d0, ds0, p0, q0, hargs, rfl, rfl, h0, r0⟩ := trodAll_cons hA
  obtain ⟨v1, vs1, d1, ds1, p1, q1, rfl, rfl, rfl, h1, r1⟩ := trodAll_cons r0
  obtain ⟨rfl, rfl, rfl⟩ := trodAll_nil r1
  obtain rfl : args = #[v0, v1] := by cases args; simp_all
  obtain ⟨rfl, rfl⟩ := trodVars_none hV
  obtain ⟨A0, c0, m0, rfl, hS0, wA0⟩ := op_U (hval 0 30 v0 rfl rfl) h0
  obtain ⟨A1, c1, l1, rfl, hS1, wA1⟩ := op_E (hval 1 22 v1 rfl rfl) h1
  clear hA0 hval0 hval hA
  refine (commitTold_any m0 l1 A0 c0 A1 c1 W hS0 wA0 hS1 wA1).mono fun e W' ⟨he, hx⟩ => ?_
  subst he
  exact ⟨_, rfl, post_law laid_out (by kernel_rfl) hW' rfl rfl rfl Try.underlying4 hx⟩
theorem commitTold_holds : Rows.CommitToldSaid :=
  OpenClaim.holds_of_wide 9 Try.f9 rfl rfl rfl rfl rfl rfl rfl ⟨rfl, rfl, rfl, rfl, rfl⟩ rfl rfl rfl rfl rfl (by kernel_rfl) Try.func9 (by kernel_rfl)
    (of_decide_eq_true (by kernel_rfl)) (by unfold Func.isWrapper; first | (rw [if_pos (by decide +kernel)]; kernel_rfl) | (rw [if_neg (by decide +kernel)]; exact ⟨rfl, rfl⟩))
    (fun os started H enc _ => commitTold_lifted os started H enc)
end Go.Proofs.Ytlhlnenpgcndkaa
