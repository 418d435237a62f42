/-
  The contract of the reference's reading of a phase.
-/
import Derived.Test.YthnonfmaamchkaaTold
namespace Go.Proofs.Ythnonfmaamchkaa
open Go.RowKit
set_option maxHeartbeats 1600000 in
set_option maxRecDepth 100000 in
theorem refRead11_any (m : List Int) (A : Option Addr) (c : Nat) (w : World) (hA : Sl w A m.length c (fU m)) (wf : WfU m) :
    Calls Try.prog 36 #[.slice A m.length c] w (RdP w m) := by
  cases hs : sizeB (m.length : Int) with
  | false =>
    have hi : imgE (m.length : Int) = 8 := by simp [imgE, hs]
    have hr : prE m = 8 := by simp [prE, hs]
    go_enter Try.func36, Try.ntmps36
    go_wp2_with fail
    refine (refCheck2_any _ _ _ _).mono ?_
    rintro e w' ⟨rfl, rfl⟩
    go_wp2_with fail
    exact bodyPost_ret (v := .tuple #[.agg #[.int .i64 0, .int .i64 0, .int .i64 0], .int .i64 8]) (by simp [results, Try.results36, go_sem]) rfl ⟨by simp [prA, hr], (Ext.refl w).alloc _⟩
  | true =>
    have hi : imgE (m.length : Int) = 0 := by simp [imgE, hs]
    have hpr : prE m = if okP m then 0 else 50 := by simp [prE, hs]
    have hpA : ∀ i, prA m i = if prE m = 0 then m.getD i 0 else 0 := fun i => rfl
    obtain ⟨x0, h0⟩ : ∃ x, m.getD 16 0 = x := ⟨_, rfl⟩
    obtain ⟨x1, h1⟩ : ∃ x, m.getD 17 0 = x := ⟨_, rfl⟩
    obtain ⟨x2, h2⟩ : ∃ x, m.getD 18 0 = x := ⟨_, rfl⟩
    have HP := Lib.hid (And.intro hpr (And.intro hpA (And.intro h0 (And.intro h1 h2))))
    have ht := fun W (hW : Sl W A m.length c (fU m)) => told_any m A c W hW wf hs
    rw [h0, h1, h2] at ht
    have HT := Lib.hid ht
    clear ht hpr hpA h0 h1 h2
    go_enter Try.func36, Try.ntmps36
    go_wp2_with fail
    refine (refCheck2_any _ _ _ _).mono ?_
    rintro e w' ⟨rfl, rfl⟩
    go_wp2_with fail
    refine (HT.out _ (hA.alloc _)).mono ?_
    rintro e w1 (⟨hok, rfl, hx⟩ | ⟨hok, ⟨y0, y1, y2, rfl⟩, hx⟩)
    · have e0 : prE m = 0 := by rw [HP.out.1, hok]; rfl
      have E0 := Lib.hid e0
      clear hok e0
      have hR := ((Box3.new w (.int .i64 0) (.int .i64 0) (.int .i64 0) 23).ext hx).ext ((Ext.refl w1).alloc (Obj.cells #[.int .i64 x0, .int .i64 x1, .int .i64 x2] 23))
      have hP := Box3.new w1 (.int .i64 x0) (.int .i64 x1) (.int .i64 x2) 23
      have hxW : Ext w (w1.alloc (Obj.cells #[.int .i64 x0, .int .i64 x1, .int .i64 x2] 23)) := ((((Ext.refl w).alloc _).trans hx)).alloc _
      have HH := Lib.hid (And.intro hR (And.intro hP hxW))
      clear hR hP hxW hx
      go_upto_region 6 with fail
      obtain ⟨W, hW⟩ : ∃ W, W = w1.alloc (Obj.cells #[.int .i64 x0, .int .i64 x1, .int .i64 x2] 23) := ⟨_, rfl⟩
      obtain ⟨gP, hgP⟩ : ∃ g, w1.heap.size = g := ⟨_, rfl⟩
      obtain ⟨⟨r0, r1, r2, rf, rl⟩, ⟨p0, p1, p2, pf, pl⟩, hxW⟩ := HH.out
      rw [← hW] at r0 r1 r2 rf rl p0 p1 p2 pf pl hxW ⊢
      rw [hgP] at p0 p1 p2 pf pl ⊢
      have HX := Lib.hid hxW
      clear hW hgP HH hxW
      obtain ⟨gR, hgR⟩ : ∃ g, w.heap.size = g := ⟨_, rfl⟩
      have loR : w.heap.size ≤ gR := Nat.le_of_eq hgR
      rw [hgR] at r0 r1 r2 rf rl ⊢
      clear hgR
      go_wp2_with fail
      refine bodyPost_ret (v := .tuple #[.agg #[.int .i64 x0, .int .i64 x1, .int .i64 x2], .int .i64 0]) (by simp [results, Try.results36, go_sem, r0, r1, r2]) rfl ⟨?_, Ext.set3 HX.out loR _ _ _⟩
      rw [HP.out.2.1, HP.out.2.1, HP.out.2.1, E0.out, if_pos rfl, if_pos rfl, if_pos rfl, HP.out.2.2.1, HP.out.2.2.2.1, HP.out.2.2.2.2]
    · have e0 : prE m = 50 := by rw [HP.out.1, hok]; rfl
      have E0 := Lib.hid e0
      clear hok e0
      have hR := ((Box3.new w (.int .i64 0) (.int .i64 0) (.int .i64 0) 23).ext hx).ext ((Ext.refl w1).alloc (Obj.cells #[.int .i64 y0, .int .i64 y1, .int .i64 y2] 23))
      have hP := Box3.new w1 (.int .i64 y0) (.int .i64 y1) (.int .i64 y2) 23
      have hxW : Ext w (w1.alloc (Obj.cells #[.int .i64 y0, .int .i64 y1, .int .i64 y2] 23)) := ((((Ext.refl w).alloc _).trans hx)).alloc _
      have HH := Lib.hid (And.intro hR (And.intro hP hxW))
      clear hR hP hxW hx
      go_upto_region 5 with fail
      obtain ⟨W, hW⟩ : ∃ W, W = w1.alloc (Obj.cells #[.int .i64 y0, .int .i64 y1, .int .i64 y2] 23) := ⟨_, rfl⟩
      obtain ⟨gP, hgP⟩ : ∃ g, w1.heap.size = g := ⟨_, rfl⟩
      obtain ⟨⟨r0, r1, r2, rf, rl⟩, ⟨p0, p1, p2, pf, pl⟩, hxW⟩ := HH.out
      rw [← hW] at r0 r1 r2 rf rl p0 p1 p2 pf pl hxW ⊢
      rw [hgP] at p0 p1 p2 pf pl ⊢
      have HX := Lib.hid hxW
      clear hW hgP HH hxW
      obtain ⟨gR, hgR⟩ : ∃ g, w.heap.size = g := ⟨_, rfl⟩
      have loR : w.heap.size ≤ gR := Nat.le_of_eq hgR
      rw [hgR] at r0 r1 r2 rf rl ⊢
      clear hgR
      go_wp2_with fail
      refine bodyPost_ret (v := .tuple #[.agg #[.int .i64 0, .int .i64 0, .int .i64 0], .int .i64 50]) (by simp [results, Try.results36, go_sem, r0, r1, r2]) rfl ⟨?_, Ext.set3 HX.out loR _ _ _⟩
      rw [HP.out.2.1, HP.out.2.1, HP.out.2.1, E0.out, if_neg (by decide), if_neg (by decide), if_neg (by decide)]
end Go.Proofs.Ythnonfmaamchkaa
