/-
  PhaseChange: the walk for valid phases of a valid image, and the plain law.
-/
import Derived.Test.YthnonfmaamchkaaPhSet
import Derived.Test.YthnonfmaamchkaaCut
import Derived.Test.YthnonfmaamchkaaAt
import Derived.Test.YthnonfmaamchkaaLawPA
namespace Go.Proofs.Ythnonfmaamchkaa
open Go.RowKit

theorem chk_phL {n a b c : Int} (hs : sizeB n = true) : chkE (phL a b c) n = 0 := by
  have := sizeB_bd hs
  refine chk_iff.2 ⟨hs, by simp [phL], ?_, by simp [phL]⟩
  intro x hx
  simp only [phL, List.mem_cons, List.not_mem_nil, or_false] at hx
  rcases hx with rfl | rfl | rfl <;> simp [mayB] <;> omega
theorem applied_phL (m : List Int) (a b c : Int) (h : 19 ≤ m.length) : applied m (phL a b c) = setP m a b c := by
  rw [← setP_sets h]
  rfl
theorem setP_setP (m : List Int) (a b c d e f : Int) (h : 19 ≤ m.length) : setP (setP m a b c) d e f = setP m d e f := by
  rw [← setP_sets (m := setP m a b c) (by rw [setP_len h]; omega), ← setP_sets h, ← setP_sets h]
  apply List.ext_getElem?
  intro i
  simp only [List.getElem?_set, List.length_set]
  (repeat' split) <;> first | rfl | omega
theorem phL_wf {a b c : Int} (h : phB a b c = true) : WfE (phL a b c) := by
  have := phB_bd h
  intro x hx
  simp only [phL, List.mem_cons, List.not_mem_nil, or_false] at hx
  rcases hx with rfl | rfl | rfl <;> (refine ⟨?_, ?_⟩ <;> simp only [InI, InU] <;> omega)
set_option maxHeartbeats 3200000 in
set_option maxRecDepth 100000 in
theorem phaseChange_any (m : List Int) (A : Option Addr) (k : Nat) (a b c d e f : Int) (w : World) (hA : Sl w A m.length k (fU m)) :
    Calls Try.prog 14 #[.slice A m.length k, .agg #[.int .i64 a, .int .i64 b, .int .i64 c], .agg #[.int .i64 d, .int .i64 e, .int .i64 f]] w fun en w' => en = .returned (.bool true) ∧ Ext w w' := by
  cases hs : sizeB (m.length : Int) with
  | false =>
    have hi : imgE (m.length : Int) = 8 := by simp [imgE, hs]
    go_enter Try.func14, Try.ntmps14
    go_wp2_with fail
    refine (refCheck2_any _ _ _ _).mono ?_
    rintro en w1 ⟨rfl, rfl⟩
    go_wp2_with fail
    refine (alive11_any _).mono ?_
    rintro en w2 ⟨rfl, hx⟩
    go_wp2_with fail
    go_ret
    exact ⟨rfl, by (repeat (first | assumption | exact Ext.refl _ | refine Ext.drewN ?_ _ | refine Ext.drew ?_ | refine Ext.alloc ?_ _ | refine Ext.trans ?_ (by assumption)))⟩
  | true =>
    have hi : imgE (m.length : Int) = 0 := by simp [imgE, hs]
    have hsz := sizeB_bd hs
    cases hp : phB a b c with
    | false =>
      have he : phE a b c = 8 := by simp [phE, hp]
      go_enter Try.func14, Try.ntmps14
      go_wp2_with fail
      refine (refCheck2_any _ _ _ _).mono ?_
      rintro en w1 ⟨rfl, rfl⟩
      go_wp2_with fail
      refine (refCheck11_any _ _ _ _).mono ?_
      rintro en w2 ⟨rfl, hx2⟩
      go_wp2_with fail
      refine (alive11_any _).mono ?_
      rintro en w3 ⟨rfl, hx3⟩
      go_wp2_with fail
      go_ret
      exact ⟨rfl, Ext.trans (Ext.trans (by (repeat (first | assumption | exact Ext.refl _ | refine Ext.drewN ?_ _ | refine Ext.drew ?_ | refine Ext.alloc ?_ _ | refine Ext.trans ?_ (by assumption)))) hx2) hx3⟩
    | true =>
      have he : phE a b c = 0 := by simp [phE, hp]
      cases hq : phB d e f with
      | false =>
        have he2 : phE d e f = 8 := by simp [phE, hq]
        go_enter Try.func14, Try.ntmps14
        go_wp2_with fail
        refine (refCheck2_any _ _ _ _).mono ?_
        rintro en w1 ⟨rfl, rfl⟩
        go_wp2_with fail
        refine (refCheck11_any _ _ _ _).mono ?_
        rintro en w2 ⟨rfl, hx2⟩
        obtain ⟨hc, hf⟩ := hx2.bcell
        go_wp2_with fail
        refine (refCheck11_any _ _ _ _).mono ?_
        rintro en w3 ⟨rfl, hx3⟩
        go_wp2_with fail
        refine (alive11_any _).mono ?_
        rintro en w4 ⟨rfl, hx4⟩
        go_wp2_with fail
        go_ret
        exact ⟨rfl, Ext.trans (Ext.trans (Ext.trans (by (repeat (first | assumption | exact Ext.refl _ | refine Ext.drewN ?_ _ | refine Ext.drew ?_ | refine Ext.alloc ?_ _ | refine Ext.trans ?_ (by assumption)))) hx2) hx3) hx4⟩
      | true =>
        have he2 : phE d e f = 0 := by simp [phE, hq]
        have HP := Lib.hid (And.intro hp (And.intro hq (And.intro hs (And.intro (phL_wf hp) (chk_phL (a := a) (b := b) (c := c) hs)))))
        have sp1 : spE m.length a b c = 0 := by simp [spE, hs, he]
        have sp2 : spE m.length d e f = 0 := by simp [spE, hs, he2]
        have l1 := setP_len (m := m) (a := a) (b := b) (c := c) (by omega)
        have l2 := setP_len (m := m) (a := d) (b := e) (c := f) (by omega)
        have hss := setP_setP m a b c d e f (by omega)
        have hap := applied_phL m a b c (by omega)
        obtain ⟨X, hX⟩ : ∃ X, setP m a b c = X := ⟨_, rfl⟩
        obtain ⟨Z, hZ⟩ : ∃ Z, setP m d e f = Z := ⟨_, rfl⟩
        rw [hX] at l1 hss hap
        rw [hZ] at l2 hss
        have HH := Lib.hid (And.intro sp1 (And.intro sp2 (And.intro l1 (And.intro l2 (And.intro hss (And.intro hap (And.intro hX hZ)))))))
        clear hp hq sp1 sp2 l1 l2 hss hap hX hZ hs
        go_enter Try.func14, Try.ntmps14
        go_wp2_with fail
        refine (refCheck2_any _ _ _ _).mono ?_
        rintro en w1 ⟨rfl, rfl⟩
        go_wp2_with fail
        refine (refCheck11_any _ _ _ _).mono ?_
        rintro en w2 ⟨rfl, hx2⟩
        obtain ⟨hc, hf⟩ := hx2.bcell
        go_wp2_with fail
        refine (refCheck11_any _ _ _ _).mono ?_
        rintro en w3 ⟨rfl, hx3⟩
        have hx23 := hx2.trans hx3
        clear hc hf
        obtain ⟨hc, hf⟩ := hx23.bcell
        go_wp2_with fail
        refine (phWrite_ok _ _ _ _ HP.out.1).mono ?_
        rintro en w4 ⟨A4, c4, rfl, _, hA4, hx4⟩
        have hx24 := hx23.trans hx4
        have hXw : Ext w w4 := Ext.trans (by (repeat (first | assumption | exact Ext.refl _ | refine Ext.drewN ?_ _ | refine Ext.drew ?_ | refine Ext.alloc ?_ _ | refine Ext.trans ?_ (by assumption)))) hx24
        clear hc hf
        obtain ⟨hc, hf⟩ := hx24.bcell
        clear hx2 hx3 hx4 hx23
        go_wp2_with fail
        refine (entryApply_at m (phL a b c) _ 3 rfl rfl A k A4 c4 w4 (hA.ext hXw) hA4 HP.out.2.2.2.1).mono ?_
        rintro en w5 (⟨_, A5, c5, rfl, _, hA5, hx5⟩ | ⟨hne, _⟩)
        case inr => exact absurd (by rw [if_pos HP.out.2.2.1]; exact HP.out.2.2.2.2) hne
        rw [HH.out.2.2.2.2.2.1] at hA5
        have hx25 := hx24.trans hx5
        clear hc hf
        obtain ⟨hc, hf⟩ := hx25.bcell
        go_wp2_with fail
        refine (phSet_any m A k a b c w5 (hA.ext (hXw.trans hx5))).mono ?_
        rintro en w6 (⟨_, A6, c6, rfl, _, hA6, hx6⟩ | ⟨hne, _⟩)
        case inr => exact absurd HH.out.1 hne
        rw [HH.out.2.2.2.2.2.2.1] at hA6
        have hx26 := hx25.trans hx6
        clear hc hf
        obtain ⟨hc, hf⟩ := hx26.bcell
        have sp1' := HH.out.1
        have hset := phSet_any X A6 c6 d e f w6 (by rw [HH.out.2.2.1]; exact hA6)
        rw [HH.out.2.2.1, HH.out.2.1, HH.out.2.2.2.2.1] at hset
        have HS := Lib.hid hset
        clear hset
        go_wp2_with fail
        clear sp1'
        refine HS.out.mono ?_
        rintro en w7 (⟨_, A7, c7, rfl, _, hA7, hx7⟩ | ⟨hne, _⟩)
        case inr => exact absurd rfl hne
        have hx27 := hx26.trans hx7
        clear hc hf
        obtain ⟨hc, hf⟩ := hx27.bcell
        go_wp2_with fail
        refine (phSet_any m A k d e f w7 (hA.ext (hXw.trans (hx5.trans (hx6.trans hx7))))).mono ?_
        rintro en w8 (⟨_, A8, c8, rfl, _, hA8, hx8⟩ | ⟨hne, _⟩)
        case inr => exact absurd HH.out.2.1 hne
        rw [HH.out.2.2.2.2.2.2.2] at hA8
        have sp2' := HH.out.2.1
        go_wp2_with fail
        clear sp2' hc hf
        have hck := entryCheck_any (phL a b c) m.length A4 c4 w8 (hA4.ext (hx5.trans (hx6.trans (hx7.trans hx8)))) HP.out.2.2.2.1
        rw [show (phL a b c).length = 3 from rfl, HP.out.2.2.2.2] at hck
        refine hck.mono ?_
        rintro en w9 ⟨rfl, hx9⟩
        go_wp2_with fail
        refine (same2_at_yes X X rfl _ _ HH.out.2.2.1 HH.out.2.2.1 _ _ _ _ w9 (hA5.ext (hx6.trans (hx7.trans (hx8.trans hx9)))) (hA6.ext (hx7.trans (hx8.trans hx9)))).mono ?_
        rintro en w10 ⟨rfl, hd10⟩
        go_wp2_with fail
        refine (same2_at_yes Z Z rfl _ _ HH.out.2.2.2.1 HH.out.2.2.2.1 _ _ _ _ w10 (hA7.ext (hx8.trans (hx9.trans hd10.ext))) (hA8.ext (hx9.trans hd10.ext))).mono ?_
        rintro en w11 ⟨rfl, hd11⟩
        go_wp2_with fail
        refine (alive11_any _).mono ?_
        rintro en w12 ⟨rfl, hx12⟩
        go_wp2_with fail
        go_ret
        exact ⟨rfl, hXw.trans (hx5.trans (hx6.trans (hx7.trans (hx8.trans (hx9.trans (hd10.ext.trans (hd11.ext.trans hx12)))))))⟩
end Go.Proofs.Ythnonfmaamchkaa
