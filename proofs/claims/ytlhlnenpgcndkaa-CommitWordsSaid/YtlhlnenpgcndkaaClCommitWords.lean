/-
  CommitWords, for every list of entries, every number and every word: the law returns true. No condition.
-/
import Derived.Test.YtlhlnenpgcndkaaJour
import Derived.Test.YtlhlnenpgcndkaaAt
import Derived.Test.YtlhlnenpgcndkaaOpen
namespace Go.Proofs.Ytlhlnenpgcndkaa
open Go.ChangeShapes Go.WideShapes Go.ChangeAt Go.RowKit

set_option maxHeartbeats 3200000 in
theorem commitWords_any (l : List (Int × Int)) (words x : Int) (B : Option Addr) (d : Nat) (w : World) (hB : Sl w B l.length d (fE l)) (wf : WfE l) (hx : InU x) :
    Calls Try.prog 4 #[.slice B l.length d, .int .i64 words, .int .u64 x] w fun e w' => e = .returned (.bool true) ∧ Ext w w' := by
  by_cases hg2 : 50 < l.length
  · have hd2 : decide (50 < l.length) = true := decide_eq_true hg2
    clear hB wf
    go_enter Try.func4, Try.ntmps4
    go_wp2_with fail
    refine (great8_any _ _ _ _).mono ?_
    rintro e w' ⟨rfl, rfl⟩
    go_wp2_with fail
    go_ret
    exact ⟨rfl, Ext.refl w⟩
  · have hd2 : decide (50 < l.length) = false := decide_eq_false hg2
    have h1 := fun A c W (h : Sl W A l.length c (fE l)) => commitWord_any l words A c W h wf
    have h2 := fun A c W (h : Sl W A l.length c (fE l)) => refCWord_any l words A c W h wf
    have h3 := fun W => count_any x W hx
    have h4 := fun W => refCount_any x W hx
    have h5 := fun A c W (h : Sl W A l.length c (fE l)) => journal_any l words A c W h wf
    have h6 := fun A c W (h : Sl W A l.length c (fE l)) => refJournal9_any l words A c W h wf
    obtain ⟨a0, e0⟩ : ∃ y, (if cwE l words = 0 then cword l else 0) = y := ⟨_, rfl⟩
    obtain ⟨a1, e1⟩ : ∃ y, cwE l words = y := ⟨_, rfl⟩
    obtain ⟨a2, e2⟩ : ∃ y, cntN x = y := ⟨_, rfl⟩
    obtain ⟨a3, e3⟩ : ∃ y, cntL x = y := ⟨_, rfl⟩
    obtain ⟨a4, e4⟩ : ∃ y, cntE x = y := ⟨_, rfl⟩
    obtain ⟨a5, e5⟩ : ∃ y, jrL l words = y := ⟨_, rfl⟩
    rw [e0] at h1 h2
    rw [e1] at h1 h2 h5 h6
    rw [e5] at h5 h6
    rw [e2, e3, e4] at h3 h4
    have HH := Lib.hid (And.intro h1 (And.intro h2 (And.intro h3 (And.intro h4 (And.intro h5 h6)))))
    clear h1 h2 h3 h4 h5 h6 e0 e1 e2 e3 e4 e5
    go_enter Try.func4, Try.ntmps4
    go_wp2_with fail
    refine (great8_any _ _ _ _).mono ?_
    rintro e w' ⟨rfl, rfl⟩
    go_wp2_with fail
    refine (twin8_any l B d w hB (by omega)).mono ?_
    rintro e w1 ⟨A1, c1, rfl, _, hA1, hx1⟩
    go_wp2_with fail
    refine (HH.out.1 A1 c1 w1 hA1).mono ?_
    rintro e w2 ⟨rfl, hx2⟩
    go_wp2_with fail
    refine (HH.out.2.1 B d w2 (hB.ext (by repeat (first | assumption | exact Ext.refl _ | refine Ext.drewN ?_ _ | refine Ext.drew ?_ | refine Ext.alloc ?_ _ | refine Ext.trans ?_ (by assumption))))).mono ?_
    rintro e w3 ⟨rfl, hx3⟩
    go_wp2_with fail
    refine (HH.out.2.2.1 w3).mono ?_
    rintro e w3 ⟨rfl, rfl⟩
    go_wp2_with fail
    refine (HH.out.2.2.2.1 w3).mono ?_
    rintro e w3 ⟨rfl, rfl⟩
    go_wp2_with fail
    refine (HH.out.2.2.2.2.1 A1 c1 w3 (hA1.ext (by repeat (first | assumption | exact Ext.refl _ | refine Ext.drewN ?_ _ | refine Ext.drew ?_ | refine Ext.alloc ?_ _ | refine Ext.trans ?_ (by assumption))))).mono ?_
    rintro e w4 ⟨A4, c4, rfl, hA4, hx4⟩
    go_wp2_with fail
    refine (HH.out.2.2.2.2.2 B d w4 (hB.ext (by repeat (first | assumption | exact Ext.refl _ | refine Ext.drewN ?_ _ | refine Ext.drew ?_ | refine Ext.alloc ?_ _ | refine Ext.trans ?_ (by assumption))))).mono ?_
    rintro e w5 ⟨A5, c5, rfl, hA5, hx5⟩
    go_wp2_with fail
    refine (same2_yes _ _ rfl A4 A5 c4 c5 w5 (hA4.ext (by repeat (first | assumption | exact Ext.refl _ | refine Ext.drewN ?_ _ | refine Ext.drew ?_ | refine Ext.alloc ?_ _ | refine Ext.trans ?_ (by assumption)))) hA5).mono ?_
    rintro e w6 ⟨rfl, hd6⟩
    have hx6 := hd6.ext
    go_wp2_with fail
    refine (same7_yes _ _ rfl A1 B c1 d w6 (hA1.ext (by repeat (first | assumption | exact Ext.refl _ | refine Ext.drewN ?_ _ | refine Ext.drew ?_ | refine Ext.alloc ?_ _ | refine Ext.trans ?_ (by assumption)))) (hB.ext (by repeat (first | assumption | exact Ext.refl _ | refine Ext.drewN ?_ _ | refine Ext.drew ?_ | refine Ext.alloc ?_ _ | refine Ext.trans ?_ (by assumption))))).mono ?_
    rintro e w7 ⟨rfl, hd7⟩
    have hx7 := hd7.ext
    go_wp2_with fail
    go_ret
    exact ⟨rfl, (by repeat (first | assumption | exact Ext.refl _ | refine Ext.drewN ?_ _ | refine Ext.drew ?_ | refine Ext.alloc ?_ _ | refine Ext.trans ?_ (by assumption)))⟩
set_option maxRecDepth 100000 in
theorem commitWords_lifted (os : Os) (started : os.Started) (H : Type) (enc : TypeId × Value → H) :
    ReturnsInHanded {} Try.checked os 4 .any (Rows.commitWordsSpec.pre6 enc Try.prog Try.f4 Rows.commitWordsRow.domain false) (Rows.commitWordsSpec.post enc Try.prog Try.f4 false true false false) := by
  refine returnsInHanded_of_change (C := Try.checked) own_knob started (by kernel_rfl) Try.func4
    (ChangeSpec.witness6 (enc := enc) (C := Try.checked) false ⟨#[], #[.slice none 0 0, .int .i64 0, .int .u64 0], []⟩ 8 (by kernel_rfl) (by kernel_rfl) (by kernel_rfl) (by kernel_rfl)) ?_
  intro W base args ds gs before hval0 hW hcnd _
  have hval : ∀ (j : Nat) t v, Try.f4.params[j]? = some t → args[j]? = some v → Value.okWide Try.prog W .any base t v := hval0
  have hW' := hW
  obtain ⟨p, q, hA0, hV, rfl, hfz, hnd⟩ := hW
  have hA : DataW.TrodAll enc Try.prog W 0 (fun _ => true) true Try.f4.params.toList args.toList ds p := hA0
  rw [Try.params4] at hA hval
  obtain ⟨v0, vs0, d0, ds0, p0, q0, hargs, rfl, rfl, h0, r0⟩ := trodAll_cons hA
  obtain ⟨v1, vs1, d1, ds1, p1, q1, rfl, rfl, rfl, h1, r1⟩ := trodAll_cons r0
  obtain ⟨v2, vs2, d2, ds2, p2, q2, rfl, rfl, rfl, h2, r2⟩ := trodAll_cons r1
  obtain ⟨rfl, rfl, rfl⟩ := trodAll_nil r2
  obtain rfl : args = #[v0, v1, v2] := by cases args; simp_all
  obtain ⟨rfl, rfl⟩ := trodVars_none hV
  obtain ⟨A0, c0, l0, rfl, hS0, wA0⟩ := op_E (hval 0 22 v0 rfl rfl) h0
  obtain ⟨x1, rfl, wx1⟩ := op_i (hval 1 3 v1 rfl rfl) h1
  obtain ⟨x2, rfl, wx2⟩ := op_u (hval 2 23 v2 rfl rfl) h2
  clear hA0 hval0 hval hA
  refine (commitWords_any l0 x1 x2 A0 c0 W hS0 wA0 wx2).mono fun e W' ⟨he, hx⟩ => ?_
  subst he
  exact ⟨_, rfl, post_law laid_out (by kernel_rfl) hW' rfl rfl rfl Try.underlying4 hx⟩
theorem commitWords_holds : Rows.CommitWordsSaid :=
  OpenClaim.holds_of_wide 4 Try.f4 rfl rfl rfl rfl rfl rfl rfl ⟨rfl, rfl, rfl, rfl, rfl⟩ rfl rfl rfl rfl rfl (by kernel_rfl) Try.func4 (by kernel_rfl)
    (of_decide_eq_true (by kernel_rfl)) (by unfold Func.isWrapper; first | (rw [if_pos (by decide +kernel)]; kernel_rfl) | (rw [if_neg (by decide +kernel)]; exact ⟨rfl, rfl⟩))
    (fun os started H enc _ => commitWords_lifted os started H enc)
end Go.Proofs.Ytlhlnenpgcndkaa
