/-
  The contract of the reference's Fence.
-/
import Derived.Test.YtmmcbleoglgamaaDRFen1
namespace Go.Proofs.Ytmmcbleoglgamaa
open Go.RowKit
theorem dRFenced_any (m : List Int) (q : List Dw) (left : Int) (down : Bool) (A : Option Addr) (c : Nat) (B : Option Addr) (d : Nat) (w : World) (hA : Sl w A m.length c (fU m)) (hB : Sl w B q.length d (fD q)) (h0 : devE m q left down = 0) :
    Calls Try.prog 63 #[.agg #[.slice A m.length c, .slice B q.length d, .int .i64 left, .bool down]] w (RetW w (fenceV m q left down)) := by
  have hd := devE_ok h0
  by_cases hl : left = 0
  · subst hl
    rw [show fenceV m q 0 down = (m, q, 0, true) from by simp [fenceV, h0]]
    exact dRFenced_0 m q down A c B d w hA hB hd
  · rw [show fenceV m q left down = (fenM m q, fenD q, spL left, down) from by simp [fenceV, h0, hl]]
    exact dRFenced_1 m q left down A c B d w hA hB hd hl
set_option maxHeartbeats 1600000 in
theorem dRFence_any (m : List Int) (q : List Dw) (left : Int) (down : Bool) (A : Option Addr) (c : Nat) (B : Option Addr) (d : Nat) (w : World) (hA : Sl w A m.length c (fU m)) (hB : Sl w B q.length d (fD q)) :
    Calls Try.prog 42 #[.agg #[.slice A m.length c, .slice B q.length d, .int .i64 left, .bool down]] w (RetV w (fenceV m q left down) (devE m q left down)) := by
  have hbx : Box4 ((w.alloc (Obj.cells #[.slice A m.length c, .slice B q.length d, .int .i64 left, .bool down] 25)).alloc (Obj.cells #[.slice none 0 0, .slice none 0 0, .int .i64 0, .bool false] 25)) w.heap.size (.slice A m.length c) (.slice B q.length d) (.int .i64 left) (.bool down) := (Box4.new w _ _ _ _ _).alloc _
  have hrx : Box4 ((w.alloc (Obj.cells #[.slice A m.length c, .slice B q.length d, .int .i64 left, .bool down] 25)).alloc (Obj.cells #[.slice none 0 0, .slice none 0 0, .int .i64 0, .bool false] 25)) (w.heap.size + 1) (.slice none 0 0) (.slice none 0 0) (.int .i64 0) (.bool false) := Box4.new' _ _ (by simp) _ _ _ _ _
  by_cases h0 : devE m q left down = 0
  · obtain ⟨D, hD⟩ : ∃ D, fenceV m q left down = D := ⟨_, rfl⟩
    have h1 := fun W (ha : Sl W A m.length c (fU m)) (hb : Sl W B q.length d (fD q)) => dRFenced_any m q left down A c B d W ha hb h0
    rw [hD] at h1 ⊢
    rw [h0]
    obtain ⟨m2, q2, l2, n2⟩ := D
    have H0 := Lib.hid (And.intro h0 h1)
    clear h0 h1 hD
    go_enter Try.func42, Try.ntmps42
    go_wp2_with fail
    refine (dRefCk_any m q left down A c B d _ ((hB.alloc _).alloc _)).mono ?_
    rintro e w1 ⟨rfl, hx1⟩
    rw [H0.out.1]
    replace hbx := hbx.ext hx1
    replace hrx := hrx.ext hx1
    have hX1 : Ext w w1 := Ext.trans (((Ext.refl w).alloc _).alloc _) hx1
    obtain ⟨b0, b1, b2, b3, bf, bl⟩ := hbx
    go_wp2_with fail
    refine (H0.out.2 w1 (hA.ext hX1) (hB.ext hX1)).mono ?_
    rintro e w2 ⟨A2, c2, B2, d2, rfl, hA2, hB2, nA2, nB2, hx2⟩
    have hl := hrx.lt
    have fA : ∀ ad, A2 = some ad → ad.block ≠ w.heap.size + 1 := fun ad h => by have := nA2 ad h; omega
    have fB : ∀ ad, B2 = some ad → ad.block ≠ w.heap.size + 1 := fun ad h => by have := nB2 ad h; omega
    replace hrx := hrx.ext hx2
    have hX2 := hX1.trans hx2
    obtain ⟨r0, r1, r2, r3, rf, rl⟩ := hrx
    clear b0 b1 b2 b3 bf bl nA2 nB2
    go_wp2_with fail
    refine bodyPost_ret (v := .tuple #[.agg #[.slice A2 m2.length c2, .slice B2 q2.length d2, .int .i64 l2, .bool n2], .int .i64 0]) (by simp [results, Try.results42, go_sem, r0, r1, r2, r3]) rfl ?_
    exact retV_at rfl rfl rfl (set4_sl hA2 fA _ _ _ _) (set4_sl hB2 fB _ _ _ _) (set4_ext hX2 (Nat.le_succ _) _ _ _ _)
  · have hv : fenceV m q left down = zeroV := by simp [fenceV, h0]
    rw [hv]
    have he : devE m q left down = 8 := by
      unfold devE at h0 ⊢
      split <;> simp_all
    rw [he]
    have H0 := Lib.hid he
    clear h0 hv he
    go_enter Try.func42, Try.ntmps42
    go_wp2_with fail
    refine (dRefCk_any m q left down A c B d _ ((hB.alloc _).alloc _)).mono ?_
    rintro e w1 ⟨rfl, hx1⟩
    rw [H0.out]
    replace hrx := hrx.ext hx1
    have hX1 : Ext w w1 := Ext.trans (((Ext.refl w).alloc _).alloc _) hx1
    obtain ⟨r0, r1, r2, r3, rf, rl⟩ := hrx
    go_wp2_with fail
    exact bodyPost_ret (v := .tuple #[.agg #[.slice none 0 0, .slice none 0 0, .int .i64 0, .bool false], .int .i64 8]) (by simp [results, Try.results42, go_sem, r0, r1, r2, r3]) rfl (retV_zero (set4_ext hX1 (Nat.le_succ _) _ _ _ _))
end Go.Proofs.Ytmmcbleoglgamaa
