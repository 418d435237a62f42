/-
  The chapter's example of a crash.
-/
import Derived.Test.YtmmcbleoglgamaaRefCr
import Derived.Test.YtmmcbleoglgamaaMake
namespace Go.Proofs.Ytmmcbleoglgamaa
open Go.RowKit
/-- The example's dirty words. -/
def exQ : List Dw := [(9, 5, false), (12, 6, true)]
theorem ex4 : devE (zerosU 256) exQ (-1) false = 0 ∧ (crM 2 0 (zerosU 256) exQ)[9]? = some 0 ∧ (crM 2 0 (zerosU 256) exQ)[12]? = some 6 ∧ (crM 2 0 (zerosU 256) exQ).length = 256 := by decide +kernel
set_option maxRecDepth 100000 in
set_option maxHeartbeats 800000 in
theorem example4_any (w : World) : Calls Try.prog 25 #[] w (RetW w (zerosU 256, exQ, -1, false)) := by
  have hrx := Box4.new w (.slice none 0 0) (.slice none 0 0) (.int .i64 0) (.bool false) 25
  go_enter Try.func25, Try.ntmps25
  go_wp2_with (at_make; refine wpList_zeros rfl _ _ rfl 256 (by decide) _ _ _ _ rfl rfl rfl rfl ?_; intro w1 hown hx1 hz1; obtain ⟨r0, r1, r2, r3, rf, rl⟩ := hrx.ext hx1)
  have hs : (w.alloc (Obj.cells #[Value.slice none 0 0, Value.slice none 0 0, Value.int IntKind.i64 0, Value.bool false] 25)).heap.size = w.heap.size + 1 := by simp
  rw [hs] at hown hz1
  have hA := own_sl4 hown
  have hX1 : Ext w w1 := Ext.trans ((Ext.refl w).alloc _) hx1
  exact bodyPost_ret (v := .agg #[.slice (some ⟨w.heap.size + 1, 0, none⟩) 256 256, .slice (some ⟨w.heap.size + 1 + 1, 0, none⟩) 2 2, .int .i64 (-1), .bool false]) (by simp [results, Try.results25, go_sem, r0, r1, r2, r3, rl]) rfl
    (retW_at (m := zerosU 256) (q := exQ) rfl rfl rfl ((set4_sl hA (fun ad h => by injection h with h; subst h; simp) _ _ _ _).alloc _) (Sl.lit' _ _ _ 2 (by simp [hz1]) (by decide)) (fun ad h => by injection h with h; subst h; simp) (fun ad h => by injection h with h; subst h; simp; omega) ((set4_ext hX1 (Nat.le_refl _) _ _ _ _).alloc _))
set_option maxRecDepth 100000 in
set_option maxHeartbeats 1600000 in
theorem alive04_any (w : World) : Calls Try.prog 18 #[] w fun e w' => e = .returned (.bool true) ∧ Ext w w' := by
  have h1 := fun A c B d W (ha : Sl W A (zerosU 256).length c (fU (zerosU 256))) (hb : Sl W B exQ.length d (fD exQ)) => dCrash_any (zerosU 256) exQ (-1) false 2 A c B d W ha hb (by unfold InU; decide)
  obtain ⟨M, hM, m9, m12, ml⟩ : ∃ M, crM 2 0 (zerosU 256) exQ = M ∧ M[9]? = some 0 ∧ M[12]? = some 6 ∧ M.length = 256 := ⟨_, rfl, ex4.2.1, ex4.2.2.1, ex4.2.2.2⟩
  have hv : crashV (zerosU 256) exQ (-1) false 2 = (M, [], -1, false) := by simp [crashV, ex4.1, hM]
  rw [hv, ex4.1] at h1
  have HH := Lib.hid (And.intro h1 (And.intro m9 (And.intro m12 ml)))
  clear h1 hM m9 m12 ml hv
  go_enter Try.func18, Try.ntmps18
  go_wp2_with fail
  refine (example4_any w).mono ?_
  rintro e w1 ⟨A1, c1, B1, d1, rfl, hA1, hB1, _, _, hx1⟩
  go_wp2_with fail
  refine (HH.out.1 A1 c1 B1 d1 w1 hA1 hB1).mono ?_
  rintro e w2 ⟨A2, c2, B2, d2, rfl, hA2, hB2, hx2⟩
  obtain ⟨ad, y, rfl, hy, g9⟩ := hA2.u_at (k := 9) (by rw [HH.out.2.2.2]; decide)
  obtain ⟨ad', z, had, hz, g12⟩ := hA2.u_at (k := 12) (by rw [HH.out.2.2.2]; decide)
  injection had with had
  subst had
  rw [HH.out.2.1] at hy
  rw [HH.out.2.2.1] at hz
  injection hy with hy
  injection hz with hz
  subst hy hz
  rw [add_lit_ ad 8] at g9
  rw [add_lit_ ad 11] at g12
  have hl9 := block_lt_of_cell g9
  simp only at hl9
  simp only [HH.out.2.2.2] at hA2 ⊢
  go_wp2_with fail
  go_ret
  exact ⟨rfl, (by repeat (first | assumption | exact Ext.refl _ | refine Ext.drewN ?_ _ | refine Ext.drew ?_ | refine Ext.alloc ?_ _ | refine Ext.trans ?_ (by assumption)))⟩
end Go.Proofs.Ytmmcbleoglgamaa
