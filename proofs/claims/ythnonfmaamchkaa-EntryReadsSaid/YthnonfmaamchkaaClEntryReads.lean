/-
  EntryReads, for every list of words, every number and every list of entries: the law returns true. No condition.
-/
import Derived.Test.YthnonfmaamchkaaSel
import Derived.Test.YthnonfmaamchkaaRefRead
import Derived.Test.YthnonfmaamchkaaApply
import Derived.Test.YthnonfmaamchkaaOpen
namespace Go.Proofs.Ythnonfmaamchkaa
open Go.ChangeShapes Go.WideShapes Go.ChangeAt Go.RowKit

set_option maxHeartbeats 3200000 in
theorem entryReads_any (m : List Int) (n : Int) (l : List (Int × Int)) (A : Option Addr) (c : Nat) (B : Option Addr) (d : Nat) (w : World) (hA : Sl w A m.length c (fU m)) (wm : WfU m) (hB : Sl w B l.length d (fE l)) (wf : WfE l) :
    Calls Try.prog 9 #[.slice A m.length c, .int .i64 n, .slice B l.length d] w fun e w' => e = .returned (.bool true) ∧ Ext w w' := by
  by_cases hg : 2100 < m.length
  · have hd : decide (2100 < m.length) = true := decide_eq_true hg
    clear hA hB wf
    go_enter Try.func9, Try.ntmps9
    go_wp2_with (go_at_call 34; refine (great2_any _ _ _ _).mono ?_; rintro e w' ⟨rfl, rfl⟩)
    go_ret
    exact ⟨rfl, Ext.refl w⟩
  · have hd : decide (2100 < m.length) = false := decide_eq_false hg
    by_cases hg2 : 50 < l.length
    · have hd2 : decide (50 < l.length) = true := decide_eq_true hg2
      clear hA hB wf
      go_enter Try.func9, Try.ntmps9
      go_wp2_with (first | (go_at_call 34; refine (great2_any _ _ _ _).mono ?_; rintro e w' ⟨rfl, rfl⟩) | (go_at_call 19; refine (great8_any _ _ _ _).mono ?_; rintro e w' ⟨rfl, rfl⟩))
      go_ret
      exact ⟨rfl, Ext.refl w⟩
    · have hd2 : decide (50 < l.length) = false := decide_eq_false hg2
      go_enter Try.func9, Try.ntmps9
      go_wp2_with (first | (go_at_call 34; refine (great2_any _ _ _ _).mono ?_; rintro e w' ⟨rfl, rfl⟩) | (go_at_call 19; refine (great8_any _ _ _ _).mono ?_; rintro e w' ⟨rfl, rfl⟩))
      refine (twin2_any m A c w hA (by omega)).mono ?_
      rintro e w1 ⟨A1, c1, rfl, _, hA1, hx1⟩
      go_wp2_with fail
      refine (entryRead_any m n A1 c1 w1 hA1 wm).mono ?_
      rintro e w2 h
      obtain ⟨A2, c2, rfl, hA2, hx2⟩ := h.genE (jnl_length _ _)
      clear h
      go_wp2_with fail
      refine (refRead_any m n A c w2 (hA.ext (hx1.trans hx2)) wm).mono ?_
      rintro e w3 h
      obtain ⟨A3, c3, rfl, hA3, hx3⟩ := h.genE (jnl_length _ _)
      clear h
      go_wp2_with fail
      refine (entryApply_any m l A1 c1 B d w3 (hA1.ext (hx2.trans hx3)) (hB.ext (hx1.trans (hx2.trans hx3))) wf).mono ?_
      rintro e w4 h
      obtain ⟨A4, c4, rfl, hA4, hx4⟩ := h.genU (applied_length _ _)
      clear h
      have hE : ∃ er, (if sizeB m.length then chkE l m.length else 8) = er := ⟨_, rfl⟩
      obtain ⟨er, hE⟩ := hE
      rw [hE] at hA4 ⊢
      go_wp2_with fail
      refine (refApply_any m l A c B d w4 (hA.ext (hx1.trans (hx2.trans (hx3.trans hx4)))) (hB.ext (hx1.trans (hx2.trans (hx3.trans hx4))))).mono ?_
      rintro e w5 h
      obtain ⟨A5, c5, rfl, hA5, hx5⟩ := h.genU (applied_length _ _)
      rw [hE] at hA5 ⊢
      clear h hE
      go_wp2_with fail
      refine (same7_yes _ _ rfl A2 A3 c2 c3 w5 (hA2.ext (hx3.trans (hx4.trans hx5))) (hA3.ext (hx4.trans hx5))).mono ?_
      rintro e w6 ⟨rfl, hd6⟩
      go_wp2_with fail
      refine (same2_yes _ _ rfl A4 A5 c4 c5 w6 (hA4.ext (hx5.trans hd6.ext)) (hA5.ext hd6.ext)).mono ?_
      rintro e w7 ⟨rfl, hd7⟩
      go_wp2_with fail
      refine (same2_yes _ _ rfl A1 A c1 c w7 (hA1.ext (hx2.trans (hx3.trans (hx4.trans (hx5.trans (hd6.ext.trans hd7.ext)))))) (hA.ext (hx1.trans (hx2.trans (hx3.trans (hx4.trans (hx5.trans (hd6.ext.trans hd7.ext)))))))).mono ?_
      rintro e w8 ⟨rfl, hd8⟩
      go_wp2_with fail
      go_ret
      exact ⟨rfl, hx1.trans (hx2.trans (hx3.trans (hx4.trans (hx5.trans (hd6.ext.trans (hd7.ext.trans hd8.ext))))))⟩
set_option maxRecDepth 100000 in
theorem entryReads_lifted (os : Os) (started : os.Started) (H : Type) (enc : TypeId × Value → H) :
    ReturnsInHanded {} Try.checked os 9 .any (Rows.entryReadsSpec.pre6 enc Try.prog Try.f9 Rows.entryReadsRow.domain false) (Rows.entryReadsSpec.post enc Try.prog Try.f9 false true false false) := by
  refine returnsInHanded_of_change (C := Try.checked) own_knob started (by kernel_rfl) Try.func9
    (ChangeSpec.witness6 (enc := enc) (C := Try.checked) false ⟨#[], #[.slice none 0 0, .int .i64 0, .slice none 0 0], []⟩ 8 (by kernel_rfl) (by kernel_rfl) (by kernel_rfl) (by kernel_rfl)) ?_
  intro W base args ds gs before hval0 hW hcnd _
  have hval : ∀ (j : Nat) t v, Try.f9.params[j]? = some t → args[j]? = some v → Value.okWide Try.prog W .any base t v := hval0
  have hW' := hW
  obtain ⟨p, q, hA0, hV, rfl, hfz, hnd⟩ := hW
  have hA : DataW.TrodAll enc Try.prog W 0 (fun _ => true) true Try.f9.params.toList args.toList ds p := hA0
  rw [Try.params9] at hA hval
  obtain ⟨v0, vs0, d0, ds0, p0, q0, hargs, rfl, rfl, h0, r0⟩ := trodAll_cons hA
  obtain ⟨v1, vs1, d1, ds1, p1, q1, rfl, rfl, rfl, h1, r1⟩ := trodAll_cons r0
  obtain ⟨v2, vs2, d2, ds2, p2, q2, rfl, rfl, rfl, h2, r2⟩ := trodAll_cons r1
  obtain ⟨rfl, rfl, rfl⟩ := trodAll_nil r2
  obtain rfl : args = #[v0, v1, v2] := by cases args; simp_all
  obtain ⟨rfl, rfl⟩ := trodVars_none hV
  obtain ⟨A0, c0, m0, rfl, hS0, wA0⟩ := op_U (hval 0 41 v0 rfl rfl) h0
  obtain ⟨x1, rfl, wx1⟩ := op_i (hval 1 3 v1 rfl rfl) h1
  obtain ⟨A2, c2, l2, rfl, hS2, wA2⟩ := op_E (hval 2 24 v2 rfl rfl) h2
  clear hA0 hval0 hval hA
  refine (entryReads_any m0 x1 l2 A0 c0 A2 c2 W hS0 wA0 hS2 wA2).mono fun e W' ⟨he, hx⟩ => ?_
  subst he
  exact ⟨_, rfl, post_law laid_out (by kernel_rfl) hW' rfl rfl rfl Try.underlying4 hx⟩
theorem entryReads_holds : Rows.EntryReadsSaid :=
  OpenClaim.holds_of_wide 9 Try.f9 rfl rfl rfl rfl rfl rfl rfl ⟨rfl, rfl, rfl, rfl, rfl⟩ rfl rfl rfl rfl rfl (by kernel_rfl) Try.func9 (by kernel_rfl)
    (of_decide_eq_true (by kernel_rfl)) (by unfold Func.isWrapper; first | (rw [if_pos (by decide +kernel)]; kernel_rfl) | (rw [if_neg (by decide +kernel)]; exact ⟨rfl, rfl⟩))
    (fun os started H enc _ => entryReads_lifted os started H enc)
end Go.Proofs.Ythnonfmaamchkaa
