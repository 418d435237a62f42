/-
  CommitSum, for every list of entries and every number: the law returns true. No condition.
-/
import Derived.Test.YtlhlnenpgcndkaaAlive09
import Derived.Test.YtlhlnenpgcndkaaOpen
namespace Go.Proofs.Ytlhlnenpgcndkaa
open Go.ChangeShapes Go.WideShapes Go.ChangeAt Go.RowKit

set_option maxHeartbeats 3200000 in
theorem commitSum_any (l : List (Int × Int)) (words : Int) (B : Option Addr) (d : Nat) (w : World) (hB : Sl w B l.length d (fE l)) (wf : WfE l) :
    Calls Try.prog 7 #[.slice B l.length d, .int .i64 words] w fun e w' => e = .returned (.bool true) ∧ Ext w w' := by
  by_cases h0 : chkE l words = 0
  · have hl32 := (chk_iff.1 h0).2.1
    by_cases hn : l.length = 0
    · have hb : ((l.length : Int) == 0) = true := by simpa using hn
      clear hn
      go_enter Try.func7, Try.ntmps7
      go_wp2_with fail
      refine (refCheck8_any l words B d w hB).mono ?_
      rintro e w1 ⟨rfl, hd1⟩
      have hx1 := hd1.ext
      go_wp2_with fail
      refine (alive09_any _).mono ?_
      rintro e w2 ⟨rfl, hx2⟩
      go_wp2_with fail
      go_ret
      exact ⟨rfl, hx1.trans hx2⟩
    · have hb : ((l.length : Int) == 0) = false := by simpa using hn
      have hcw0 : cwE l words = 0 := by simp [cwE, h0, hn]
      obtain ⟨p0, p1, p2⟩ := cword_pos (l := l) (by omega) hl32
      have hci := cword_in hl32
      have hcb : cntB (cword l) = true := by simp [cntB, p1]; omega
      have hcE : cntE (cword l) = 0 := by unfold cntE; rw [if_neg (by omega), if_pos hcb]
      have hcN : cntN (cword l) = l.length := by unfold cntN; rw [if_pos hcb, p1]
      have hcL : cntL (cword l) = sumOf (listed l) % 288230376151711744 := by unfold cntL; rw [if_pos hcb, p2]
      have hll := listed_length l
      have h1 := fun W (h : Sl W B l.length d (fE l)) => commitWord_any l words B d W h wf
      rw [hcw0, if_pos rfl] at h1
      have h2 := fun W => count_any (cword l) W (by unfold InU; omega)
      rw [hcE, hcN, hcL] at h2
      have h3 := fun A c W (h : Sl W A (2 * l.length) c (fU (listed l))) => low58_at (listed l) _ hll A c W h (by omega)
      obtain ⟨C, hC⟩ : ∃ C, cword l = C := ⟨_, rfl⟩
      obtain ⟨S, hS⟩ : ∃ S, sumOf (listed l) % 288230376151711744 = S := ⟨_, rfl⟩
      rw [hC] at h1 h2 p0
      rw [hS] at h2 h3
      have hCb : (C != 0) = true := by simp; omega
      have HH := Lib.hid (And.intro h1 (And.intro h2 (And.intro h3 h0)))
      clear h1 h2 h3 hC hS hcE hcN hcL hcw0 hcb p1 p2 hci hll hn h0
      go_enter Try.func7, Try.ntmps7
      go_wp2_with fail
      refine (refCheck8_any l words B d w hB).mono ?_
      rintro e w1 ⟨rfl, hd1⟩
      have hx1 := hd1.ext
      have h0 := HH.out.2.2.2
      go_wp2_with fail
      clear h0
      refine (HH.out.1 _ (hB.ext (by repeat (first | assumption | exact Ext.refl _ | refine Ext.drewN ?_ _ | refine Ext.drew ?_ | refine Ext.alloc ?_ _ | refine Ext.trans ?_ (by assumption))))).mono ?_
      rintro e w2 ⟨rfl, hx2⟩
      go_wp2_with fail
      refine (HH.out.2.1 _).mono ?_
      rintro e w2' ⟨rfl, rfl⟩
      go_wp2_with fail
      refine (entryWords_any l words B d _ (hB.ext (by repeat (first | assumption | exact Ext.refl _ | refine Ext.drewN ?_ _ | refine Ext.drew ?_ | refine Ext.alloc ?_ _ | refine Ext.trans ?_ (by assumption)))) wf).mono ?_
      rintro e w3 (⟨_, A3, c3, rfl, _, hA3, hx3⟩ | ⟨hne, _⟩)
      case inr => exact absurd HH.out.2.2.2 hne
      go_wp2_with fail
      refine (HH.out.2.2.1 A3 c3 _ hA3).mono ?_
      rintro e w4 ⟨rfl, hx4⟩
      go_wp2_with fail
      refine (alive09_any _).mono ?_
      rintro e w5 ⟨rfl, hx5⟩
      go_wp2_with fail
      go_ret
      exact ⟨rfl, (by repeat (first | assumption | exact Ext.refl _ | refine Ext.drewN ?_ _ | refine Ext.drew ?_ | refine Ext.alloc ?_ _ | refine Ext.trans ?_ (by assumption)))⟩
  · have hb : (chkE l words != 0) = true := by simpa using h0
    go_enter Try.func7, Try.ntmps7
    go_wp2_with fail
    refine (refCheck8_any l words B d w hB).mono ?_
    rintro e w1 ⟨rfl, hd1⟩
    have hx1 := hd1.ext
    go_wp2_with fail
    refine (alive09_any _).mono ?_
    rintro e w2 ⟨rfl, hx2⟩
    go_wp2_with fail
    go_ret
    exact ⟨rfl, hx1.trans hx2⟩
set_option maxRecDepth 100000 in
theorem commitSum_lifted (os : Os) (started : os.Started) (H : Type) (enc : TypeId × Value → H) :
    ReturnsInHanded {} Try.checked os 7 .any (Rows.commitSumSpec.pre6 enc Try.prog Try.f7 Rows.commitSumRow.domain false) (Rows.commitSumSpec.post enc Try.prog Try.f7 false true false false) := by
  refine returnsInHanded_of_change (C := Try.checked) own_knob started (by kernel_rfl) Try.func7
    (ChangeSpec.witness6 (enc := enc) (C := Try.checked) false ⟨#[], #[.slice none 0 0, .int .i64 0], []⟩ 8 (by kernel_rfl) (by kernel_rfl) (by kernel_rfl) (by kernel_rfl)) ?_
  intro W base args ds gs before hval0 hW hcnd _
  have hval : ∀ (j : Nat) t v, Try.f7.params[j]? = some t → args[j]? = some v → Value.okWide Try.prog W .any base t v := hval0
  have hW' := hW
  obtain ⟨p, q, hA0, hV, rfl, hfz, hnd⟩ := hW
  have hA : DataW.TrodAll enc Try.prog W 0 (fun _ => true) true Try.f7.params.toList args.toList ds p := hA0
  rw [Try.params7] at hA hval
  obtain ⟨v0, vs0, d0, ds0, p0, q0, hargs, rfl, rfl, h0, r0⟩ := trodAll_cons hA
  obtain ⟨v1, vs1, d1, ds1, p1, q1, rfl, rfl, rfl, h1, r1⟩ := trodAll_cons r0
  obtain ⟨rfl, rfl, rfl⟩ := trodAll_nil r1
  obtain rfl : args = #[v0, v1] := by cases args; simp_all
  obtain ⟨rfl, rfl⟩ := trodVars_none hV
  obtain ⟨A0, c0, l0, rfl, hS0, wA0⟩ := op_E (hval 0 22 v0 rfl rfl) h0
  obtain ⟨x1, rfl, wx1⟩ := op_i (hval 1 3 v1 rfl rfl) h1
  clear hA0 hval0 hval hA
  refine (commitSum_any l0 x1 A0 c0 W hS0 wA0).mono fun e W' ⟨he, hx⟩ => ?_
  subst he
  exact ⟨_, rfl, post_law laid_out (by kernel_rfl) hW' rfl rfl rfl Try.underlying4 hx⟩
theorem commitSum_holds : Rows.CommitSumSaid :=
  OpenClaim.holds_of_wide 7 Try.f7 rfl rfl rfl rfl rfl rfl rfl ⟨rfl, rfl, rfl, rfl, rfl⟩ rfl rfl rfl rfl rfl (by kernel_rfl) Try.func7 (by kernel_rfl)
    (of_decide_eq_true (by kernel_rfl)) (by unfold Func.isWrapper; first | (rw [if_pos (by decide +kernel)]; kernel_rfl) | (rw [if_neg (by decide +kernel)]; exact ⟨rfl, rfl⟩))
    (fun os started H enc _ => commitSum_lifted os started H enc)
end Go.Proofs.Ytlhlnenpgcndkaa
