/-
  PhaseApart: different phases have different entries, at the same three addresses. No condition.
-/
import Derived.Test.YthnonfmaamchkaaPhaseB
import Derived.Test.YthnonfmaamchkaaSame7
import Derived.Deep.RegionHeld3
namespace Go.Proofs.Ythnonfmaamchkaa
open Go.RowKit
set_option maxHeartbeats 800000 in
theorem alive11_any (w : World) : Calls Try.prog 17 #[] w fun e w' => e = .returned (.bool true) ∧ Ext w w' := by
  have h1 : phB 4 140 130 = true := by decide
  have h2 : phE 0 128 0 = 8 := by decide
  have h3 : phE 4 130 140 = 8 := by decide
  go_enter Try.func17, Try.ntmps17
  go_wp2_with (first
    | (go_at_call 15; refine (phWrite_ok _ _ _ _ h1).mono ?_; rintro e w1 ⟨A, c, rfl, hown, hsl, hx⟩)
    | (go_at_call 16; refine (phCheck_any _ _ _ _).mono ?_; rintro e w2 ⟨rfl, hx2⟩)
    | (go_at_call 18; refine (same7_yes (phL 4 140 130) [(16, 4), (17, 140), (18, 130)] rfl _ _ _ _ _ (hsl.alloc _) (Sl.lit' _ _ _ _ rfl (by decide))).mono ?_; rintro e w3 ⟨rfl, m, rfl⟩))
  go_ret
  refine ⟨rfl, ?_⟩
  (repeat (first | assumption | exact Ext.refl _ | refine Ext.drewN ?_ _ | refine Ext.drew ?_ | refine Ext.alloc ?_ _ | refine Ext.trans ?_ (by assumption)))

theorem phL_at {w : World} {A : Option Addr} {c : Nat} {x y z : Int} (h : Sl w A 3 c (fE (phL x y z))) {k : Nat} (hk : k < 3) : ∃ ad, A = some ad ∧ w.cell? (ad.add (k * 2)) = some (.int .i64 (16 + (k : Int))) := by
  obtain ⟨ad, v, hA, hv, g, _⟩ := h.e_at (k := k) (by simpa [phL] using hk)
  refine ⟨ad, hA, ?_⟩
  rw [g]
  rcases (by omega : k = 0 ∨ k = 1 ∨ k = 2) with rfl | rfl | rfl <;> (simp [phL] at hv; subst hv; rfl)
set_option maxHeartbeats 1600000 in
theorem phaseApart_any (a b c d e f : Int) (w : World) : Calls Try.prog 3 #[.agg #[.int .i64 a, .int .i64 b, .int .i64 c], .agg #[.int .i64 d, .int .i64 e, .int .i64 f]] w fun en w' => en = .returned (.bool true) ∧ Ext w w' := by
  go_enter Try.func3, Try.ntmps3
  go_wp2_with fail
  refine (phWrite_any _ _ _ _).mono ?_
  rintro en w1 (⟨hp, A, k, rfl, hown, hsl, hx⟩ | ⟨hp, rfl, hx⟩) <;> (obtain ⟨hc1, hf1⟩ := hx.bcell)
  all_goals go_wp2_with fail
  all_goals refine (phWrite_any _ _ _ _).mono ?_
  all_goals (rintro en w2 (⟨hq, B, k2, rfl, hown2, hsl2, hx2⟩ | ⟨hq, rfl, hx2⟩) <;> (have hx12 := hx2; replace hx2 := hx.trans hx2; obtain ⟨hc2, hf2⟩ := hx2.bcell; clear hc1 hf1))
  · clear hp hq
    obtain ⟨r, hr, hS⟩ : ∃ r, eqP a b c d e f = r ∧ ∀ n, Calls Try.prog 18 #[.slice A 3 k, .slice B 3 k2] (w2.drewN n) fun e w' => e = .returned (.bool r) ∧ Drew (w2.drewN n) w' := by
      refine ⟨decide (phL a b c = phL d e f), ?_, fun n => same7_any (phL a b c) (phL d e f) A B k k2 (w2.drewN n) ((hsl.ext hx12).drewN n) (hsl2.drewN n)⟩
      rw [Bool.eq_iff_iff]
      simp [eqP, phL, and_assoc]
    have heq := run_eqlP
    have HS := Lib.hid hS
    have hG : ∀ n, Sl (w2.drewN n) A 3 k (fE (phL a b c)) ∧ Sl (w2.drewN n) B 3 k2 (fE (phL d e f)) := fun n => ⟨(hsl.ext hx12).drewN n, hsl2.drewN n⟩
    have HG := Lib.hid hG
    clear hS hsl hsl2 hown hown2 hx12 hG
    go_wp2_with fail
    go_quiet ((go_at_call 18; exact quiet_D (HS.out _)))
    go_wp2_with fail
    go_loop [9] (fun i => ∃ k : Nat, k ≤ 3 ∧ i = .int .i64 k) (fun i => 3 - (intOf i).toNat)
    case atStart => exact ⟨0, by omega, rfl⟩
    case round =>
      obtain ⟨k, hk, rfl⟩ := hrel
      by_cases hlt : k < 3
      · obtain ⟨ad, rfl, g1⟩ := phL_at (HG.out nq).1 hlt
        obtain ⟨ad2, rfl, g2⟩ := phL_at (HG.out nq).2 hlt
        go_wp2_with fail
        go_round
        case rel => exact ⟨k + 1, by omega, by go_num⟩
        case measure => simp [intOf]; omega
      · go_wp2_with fail
        refine (alive11_any _).mono ?_
        rintro en w5 ⟨rfl, hx5⟩
        go_wp2_with fail
        go_ret
        refine ⟨rfl, ?_⟩
        exact ((((Ext.refl w).alloc _).alloc _).trans (hx2.drewN nq)).trans hx5
  all_goals
    have hpe := phE_of hp
    have hqe := phE_of hq
    simp only [if_true, Bool.false_eq_true, if_false] at hpe hqe
    go_wp2_with fail
    refine (phCheck_any _ _ _ _).mono ?_
    rintro en w3 ⟨rfl, hx3⟩
    replace hx3 := hx2.trans hx3
    obtain ⟨hc3, hf3⟩ := hx3.bcell
    clear hc2 hf2
    go_wp2_with fail
    refine (phCheck_any _ _ _ _).mono ?_
    rintro en w4 ⟨rfl, hx4⟩
    replace hx4 := hx3.trans hx4
    clear hc3 hf3
    go_wp2_with fail
    refine (alive11_any _).mono ?_
    rintro en w5 ⟨rfl, hx5⟩
    go_wp2_with fail
    go_ret
    refine ⟨rfl, ?_⟩
    exact ((((Ext.refl w).alloc _).alloc _).trans hx4).trans hx5
end Go.Proofs.Ythnonfmaamchkaa
