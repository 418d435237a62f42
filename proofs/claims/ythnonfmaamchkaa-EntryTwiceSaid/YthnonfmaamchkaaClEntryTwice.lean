/-
  EntryTwice, for every image and every list of entries: the law returns true. No condition.
-/
import Derived.Test.YthnonfmaamchkaaLawET
import Derived.Test.YthnonfmaamchkaaOpen
namespace Go.Proofs.Ythnonfmaamchkaa
open Go.ChangeShapes Go.WideShapes Go.ChangeAt Go.RowKit

set_option maxHeartbeats 3200000 in
theorem entryTwice_any (m : List Int) (l : List (Int × Int)) (A : Option Addr) (c : Nat) (B : Option Addr) (d : Nat) (w : World) (hA : Sl w A m.length c (fU m)) (hB : Sl w B l.length d (fE l)) (wf : WfE l) :
    Calls Try.prog 10 #[.slice A m.length c, .slice B l.length d] w fun e w' => e = .returned (.bool true) ∧ Ext w w' := by
  have hBle := hB.le
  have hBmax := hB.max
  unfold maxLen at hBmax
  cases hs : sizeB (m.length : Int) with
  | false =>
    have hi : imgE (m.length : Int) = 8 := by simp [imgE, hs]
    go_enter Try.func10, Try.ntmps10
    go_wp2_with fail
    refine (refCheck2_any _ _ _ _).mono ?_
    rintro e w1 ⟨rfl, rfl⟩
    go_wp2_with fail
    refine (alive08_any _).mono ?_
    rintro e w1 ⟨rfl, hx⟩
    go_wp2_with fail
    go_ret
    exact ⟨rfl, hx⟩
  | true =>
    have hi : imgE (m.length : Int) = 0 := by simp [imgE, hs]
    by_cases h0 : chkE l m.length = 0
    · exact entryTwice_main m l A c B d w hA hB wf hs h0
    · have hb : (chkE l m.length != 0) = true := by simpa using h0
      go_enter Try.func10, Try.ntmps10
      go_wp2_with fail
      refine (refCheck2_any _ _ _ _).mono ?_
      rintro e w1 ⟨rfl, rfl⟩
      go_wp2_with fail
      refine (refCheck8_any l _ B d w hB).mono ?_
      rintro e w1 ⟨rfl, hd1⟩
      go_wp2_with fail
      refine (alive08_any _).mono ?_
      rintro e w2 ⟨rfl, hx⟩
      go_wp2_with fail
      go_ret
      exact ⟨rfl, hd1.ext.trans hx⟩
set_option maxRecDepth 100000 in
theorem entryTwice_lifted (os : Os) (started : os.Started) (H : Type) (enc : TypeId × Value → H) :
    ReturnsInHanded {} Try.checked os 10 .any (Rows.entryTwiceSpec.pre6 enc Try.prog Try.f10 Rows.entryTwiceRow.domain false) (Rows.entryTwiceSpec.post enc Try.prog Try.f10 false true false false) := by
  refine returnsInHanded_of_change (C := Try.checked) own_knob started (by kernel_rfl) Try.func10
    (ChangeSpec.witness6 (enc := enc) (C := Try.checked) false ⟨#[], #[.slice none 0 0, .slice none 0 0], []⟩ 8 (by kernel_rfl) (by kernel_rfl) (by kernel_rfl) (by kernel_rfl)) ?_
  intro W base args ds gs before hval0 hW hcnd _
  have hval : ∀ (j : Nat) t v, Try.f10.params[j]? = some t → args[j]? = some v → Value.okWide Try.prog W .any base t v := hval0
  have hW' := hW
  obtain ⟨p, q, hA0, hV, rfl, hfz, hnd⟩ := hW
  have hA : DataW.TrodAll enc Try.prog W 0 (fun _ => true) true Try.f10.params.toList args.toList ds p := hA0
  rw [Try.params10] at hA hval
  obtain ⟨v0, vs0, d0, ds0, p0, q0, hargs, rfl, rfl, h0, r0⟩ := trodAll_cons hA
  obtain ⟨v1, vs1, d1, ds1, p1, q1, rfl, rfl, rfl, h1, r1⟩ := trodAll_cons r0
  obtain ⟨rfl, rfl, rfl⟩ := trodAll_nil r1
  obtain rfl : args = #[v0, v1] := by cases args; simp_all
  obtain ⟨rfl, rfl⟩ := trodVars_none hV
  obtain ⟨A0, c0, m0, rfl, hS0, wA0⟩ := op_U (hval 0 41 v0 rfl rfl) h0
  obtain ⟨A1, c1, l1, rfl, hS1, wA1⟩ := op_E (hval 1 24 v1 rfl rfl) h1
  clear hA0 hval0 hval hA
  refine (entryTwice_any m0 l1 A0 c0 A1 c1 W hS0 hS1 wA1).mono fun e W' ⟨he, hx⟩ => ?_
  subst he
  exact ⟨_, rfl, post_law laid_out (by kernel_rfl) hW' rfl rfl rfl Try.underlying4 hx⟩
theorem entryTwice_holds : Rows.EntryTwiceSaid :=
  OpenClaim.holds_of_wide 10 Try.f10 rfl rfl rfl rfl rfl rfl rfl ⟨rfl, rfl, rfl, rfl, rfl⟩ rfl rfl rfl rfl rfl (by kernel_rfl) Try.func10 (by kernel_rfl)
    (of_decide_eq_true (by kernel_rfl)) (by unfold Func.isWrapper; first | (rw [if_pos (by decide +kernel)]; kernel_rfl) | (rw [if_neg (by decide +kernel)]; exact ⟨rfl, rfl⟩))
    (fun os started H enc _ => entryTwice_lifted os started H enc)
end Go.Proofs.Ythnonfmaamchkaa
