/-
  The contract of the reference's reading of a phase.
-/
import Derived.Test.YthnonfmaamchkaaPhLine
import Derived.Deep.RegionHeld3
namespace Go.Proofs.Ythnonfmaamchkaa
open Go.RowKit

/-- Block b holds the three cells of a phase. -/
structure Box3 (w : World) (b : Nat) (v0 v1 v2 : Value) : Prop where
  c0 : w.cell? ⟨b, 0, none⟩ = some v0
  c1 : w.cell? ⟨b, 1, none⟩ = some v1
  c2 : w.cell? ⟨b, 2, none⟩ = some v2
  fz : ∀ o, w.frozen? ⟨b, o, none⟩ = false
  lt : b < w.heap.size
theorem Box3.ext {w w' : World} {b : Nat} {v0 v1 v2 : Value} (h : Box3 w b v0 v1 v2) (x : Ext w w') : Box3 w' b v0 v1 v2 :=
  ⟨x.cell h.c0, x.cell h.c1, x.cell h.c2, fun o => by rw [x.bcell.2 b o h.lt]; exact h.fz o, Nat.lt_of_lt_of_le h.lt x.size⟩
theorem Box3.new (w : World) (v0 v1 v2 : Value) (T : TypeId) : Box3 (w.alloc (Obj.cells #[v0, v1, v2] T)) w.heap.size v0 v1 v2 :=
  ⟨by simp [go_sem], by simp [go_sem], by simp [go_sem], fun o => by simp [go_sem], by simp⟩
theorem Ext.set3 {a w : World} (h : Ext a w) {b : Nat} (hb : a.heap.size ≤ b) (u0 u1 u2 : Value) : Ext a (((w.setCell ⟨b, 0, none⟩ u0).setCell ⟨b, 1, none⟩ u1).setCell ⟨b, 2, none⟩ u2) :=
  ((h.setCell (p := ⟨b, 0, none⟩) hb u0).setCell (p := ⟨b, 1, none⟩) hb u1).setCell (p := ⟨b, 2, none⟩) hb u2
theorem refValid_is (a b c : Int) (w : World) {r : Bool} (h : phB a b c = r) :
    Calls Try.prog 55 #[.agg #[.int .i64 a, .int .i64 b, .int .i64 c]] w fun e w' => e = .returned (.bool r) ∧ Ext w w' := by
  subst h
  exact refValid_any a b c w
set_option maxHeartbeats 25600000 in
set_option maxRecDepth 100000 in
theorem told_any (m : List Int) (A : Option Addr) (c : Nat) (w : World) (hA : Sl w A m.length c (fU m)) (wf : WfU m) (hs : sizeB (m.length : Int) = true) :
    Calls Try.prog 57 #[.slice A m.length c] w fun e w' => (okP m = true ∧ e = .returned (.tuple #[.agg #[.int .i64 (m.getD 16 0), .int .i64 (m.getD 17 0), .int .i64 (m.getD 18 0)], .bool true]) ∧ Ext w w') ∨ (okP m = false ∧ (∃ y0 y1 y2 : Int, e = .returned (.tuple #[.agg #[.int .i64 y0, .int .i64 y1, .int .i64 y2], .bool false])) ∧ Ext w w') := by
  have hsz := sizeB_bd hs
  go_enter Try.func57, Try.ntmps57
  go_wp2_with fail
  go_loopw [4] (fun i wr => ∃ k : Nat, 16 ≤ k ∧ k ≤ 24 ∧ i = .int .i64 k ∧ (∀ j, 16 ≤ j → j < k → okw m j) ∧ wr = w.alloc (Obj.cells #[.int .i64 0, .int .i64 0, .int .i64 0] 23)) (fun i _ => 24 - (intOf i).toNat)
  case atStart => exact ⟨16, by omega, by omega, rfl, fun j h1 h2 => by omega, rfl⟩
  case round =>
    obtain ⟨k, h16, hk, rfl, hok, rfl⟩ := hrel
    by_cases hlt : k < 24
    · have hlt' : (k : Int) < 24 := by omega
      have hkl : k < m.length := by omega
      obtain ⟨ad, x, rfl, hx, g⟩ := (hA.alloc (Obj.cells #[.int .i64 0, .int .i64 0, .int .i64 0] 23)).u_at hkl
      have hxd : m.getD k 0 = x := by simp [List.getD, hx]
      have hx0 : 0 ≤ x := by have := (wf x (List.mem_of_getElem? hx)).1; exact this
      have HX := Lib.hid hxd
      have HO := Lib.hid hok
      clear hx hxd hok
      by_cases h1 : 2048 < x
      · go_wp2_with fail
        exact bodyPost_ret (v := .tuple #[.agg #[.int .i64 0, .int .i64 0, .int .i64 0], .bool false]) (by simp [results, Try.results57, go_sem]) rfl (.inr ⟨not_okP hs h16 hlt (.inl (by rw [HX.out]; exact h1)), ⟨_, _, _, rfl⟩, (Ext.refl w).alloc _⟩)
      · by_cases h2 : 18 < k
        · have h2' : (18 : Int) < k := by omega
          by_cases h3 : 0 < x
          · have hno := Lib.hid (not_okP hs h16 hlt (.inr ⟨h2, by rw [HX.out]; omega⟩))
            go_wp2_with fail
            exact bodyPost_ret (v := .tuple #[.agg #[.int .i64 0, .int .i64 0, .int .i64 0], .bool false]) (by simp [results, Try.results57, go_sem]) rfl (.inr ⟨hno.out, ⟨_, _, _, rfl⟩, (Ext.refl w).alloc _⟩)
          · go_wp2_with fail
            go_roundw
            case rel =>
              refine ⟨k + 1, by omega, by omega, by go_num, fun j j1 j2 => ?_, trivial⟩
              by_cases hj : j = k
              · subst hj; unfold okw; rw [HX.out]; exact ⟨by omega, fun _ => by omega⟩
              · exact HO.out j j1 (by omega)
            case measure => simp [intOf]; omega
        · have h2' : ¬ (18 : Int) < k := by omega
          go_wp2_with fail
          go_roundw
          case rel =>
            refine ⟨k + 1, by omega, by omega, by go_num, fun j j1 j2 => ?_, trivial⟩
            by_cases hj : j = k
            · subst hj; unfold okw; rw [HX.out]; exact ⟨by omega, fun _ => by omega⟩
            · exact HO.out j j1 (by omega)
          case measure => simp [intOf]; omega
    · obtain rfl : k = 24 := by omega
      have HO := Lib.hid hok
      clear hok
      obtain ⟨a0, _, rfl, _, _⟩ := hA.u_at (k := 16) (by omega)
      have g0 := line_at hA 0 (by omega)
      have hb := block_lt_of_cell g0
      simp only at hb
      have hb1 : a0.block < w.heap.size + 1 := by omega
      have hb2 : a0.block < w.heap.size + 1 + 1 := by omega
      have g1 := line_at hA 1 (by omega)
      have g2 := line_at hA 2 (by omega)
      obtain ⟨z0, e0⟩ : ∃ x, m.getD 16 0 = x := ⟨_, rfl⟩
      obtain ⟨z1, e1⟩ : ∃ x, m.getD 17 0 = x := ⟨_, rfl⟩
      obtain ⟨z2, e2⟩ : ∃ x, m.getD 18 0 = x := ⟨_, rfl⟩
      have q0 : 0 ≤ z0 := by have := (wf_getD wf 16).1; omega
      have q1 : 0 ≤ z1 := by have := (wf_getD wf 17).1; omega
      have q2 : 0 ≤ z2 := by have := (wf_getD wf 18).1; omega
      simp only [Nat.add_zero, e0] at g0
      simp only [Nat.add_assoc, Nat.reduceAdd, e1] at g1
      simp only [Nat.add_assoc, Nat.reduceAdd, e2] at g2
      have i16 : (16 : Int) < m.length := by omega
      have i17 : (17 : Int) < m.length := by omega
      have i18 : (18 : Int) < m.length := by omega
      have o0 := (HO.out 16 (by omega) (by omega)).1
      have o1 := (HO.out 17 (by omega) (by omega)).1
      have o2 := (HO.out 18 (by omega) (by omega)).1
      have hok := okP_told hs HO.out
      rw [e0, e1, e2] at hok
      rw [e0] at o0; rw [e1] at o1; rw [e2] at o2
      have w0 : IntKind.i64.wrap z0 = z0 := i64_small q0 (by omega)
      have w1 : IntKind.i64.wrap z1 = z1 := i64_small q1 (by omega)
      have w2 : IntKind.i64.wrap z2 = z2 := i64_small q2 (by omega)
      have HK := Lib.hid (And.intro hok (And.intro e0 (And.intro e1 e2)))
      clear hok e0 e1 e2 HO
      go_wp2_with fail
      go_region
      go_wp2_with fail
      obtain ⟨W, hW⟩ : ∃ W, W = ((w.alloc (Obj.cells #[.int .i64 0, .int .i64 0, .int .i64 0] 23)).alloc (Obj.cells #[.int .i64 z0, .int .i64 z1, .int .i64 z2] 23)).drew := ⟨_, rfl⟩
      have hxW : Ext w W := by rw [hW]; exact (((Ext.refl w).alloc _).alloc _).drew
      have hR : Box3 W w.heap.size (.int .i64 0) (.int .i64 0) (.int .i64 0) := by rw [hW]; exact (Box3.new w _ _ _ _).ext (((Ext.refl _).alloc _).drew)
      have hP : Box3 W (w.heap.size + 1) (.int .i64 z0) (.int .i64 z1) (.int .i64 z2) := by
        rw [hW]
        have := (Box3.new (w.alloc (Obj.cells #[.int .i64 0, .int .i64 0, .int .i64 0] 23)) (.int .i64 z0) (.int .i64 z1) (.int .i64 z2) 23).ext ((Ext.refl _).drew)
        simpa using this
      have ne1 : w.heap.size ≠ w.heap.size + 1 := by omega
      have ne2 : w.heap.size + 1 ≠ w.heap.size := by omega
      clear g0 g1 g2 w0 w1 w2 hb hb1 hb2
      rw [← hW]
      obtain ⟨gP, hgP⟩ : ∃ g, w.heap.size + 1 = g := ⟨_, rfl⟩
      rw [hgP] at hP ne1 ne2 ⊢
      obtain ⟨gR, hgR⟩ : ∃ g, w.heap.size = g := ⟨_, rfl⟩
      have HgR := Lib.hid hgR
      have loR : w.heap.size ≤ gR := Nat.le_of_eq hgR
      rw [hgR] at hR ne1 ne2 ⊢
      have HP := Lib.hid (And.intro hP (And.intro hR (And.intro hxW hgR)))
      obtain ⟨p0, p1, p2, pf, pl⟩ := hP
      obtain ⟨r0, r1, r2, rf, rl⟩ := hR
      clear hW hgP hgR hxW
      cases hp : phB z0 z1 z2 with
      | true =>
        have hV := fun W => refValid_is z0 z1 z2 W hp
        have HV := Lib.hid hV
        have Hp := Lib.hid hp
        clear hV hp
        by_cases hz : z1 ≤ (m.length : Int)
        · have HZ := Lib.hid hz
          go_region_held3 (fun w' => w'.cell? ⟨gP, 0, none⟩ = some (.int .i64 z0) ∧ w'.cell? ⟨gP, 1, none⟩ = some (.int .i64 z1) ∧ w'.cell? ⟨gP, 2, none⟩ = some (.int .i64 z2)) (go_keep) ((go_at_call 55; refine (HV.out _).mono ?_; rintro e w1 ⟨rfl, hx⟩; obtain ⟨y0, y1, y2, yf, yl⟩ := HP.out.1.ext (w' := w1) (by repeat (first | assumption | exact Ext.refl _ | refine Ext.drewN ?_ _ | refine Ext.drew ?_ | refine Ext.alloc ?_ _ | refine Ext.trans ?_ (by assumption))); obtain ⟨s0, s1, s2, sf, sl⟩ := HP.out.2.1.ext (w' := w1) (by repeat (first | assumption | exact Ext.refl _ | refine Ext.drewN ?_ _ | refine Ext.drew ?_ | refine Ext.alloc ?_ _ | refine Ext.trans ?_ (by assumption)))))
          all_goals
            go_wp2_with fail
            refine bodyPost_ret (v := .tuple #[.agg #[.int .i64 z0, .int .i64 z1, .int .i64 z2], .bool true]) (by simp [results, Try.results57, go_sem, s0, s1, s2]) rfl (.inl ⟨?_, ?_, ?_⟩)
            · rw [HK.out.1, Hp.out, decide_eq_true HZ.out]; rfl
            · rw [HK.out.2.1, HK.out.2.2.1, HK.out.2.2.2]
            · exact Ext.set3 (HP.out.2.2.1.trans (by repeat (first | assumption | exact Ext.refl _ | refine Ext.drewN ?_ _ | refine Ext.drew ?_ | refine Ext.alloc ?_ _ | refine Ext.trans ?_ (by assumption)))) loR _ _ _
        · have HZ := Lib.hid hz
          have hzb : decide (z1 ≤ (m.length : Int)) = false := decide_eq_false hz
          go_region_held3 (fun w' => w'.cell? ⟨gP, 0, none⟩ = some (.int .i64 z0) ∧ w'.cell? ⟨gP, 1, none⟩ = some (.int .i64 z1) ∧ w'.cell? ⟨gP, 2, none⟩ = some (.int .i64 z2)) (go_keep) ((go_at_call 55; refine (HV.out _).mono ?_; rintro e w1 ⟨rfl, hx⟩; obtain ⟨y0, y1, y2, yf, yl⟩ := HP.out.1.ext (w' := w1) (by repeat (first | assumption | exact Ext.refl _ | refine Ext.drewN ?_ _ | refine Ext.drew ?_ | refine Ext.alloc ?_ _ | refine Ext.trans ?_ (by assumption))); obtain ⟨s0, s1, s2, sf, sl⟩ := HP.out.2.1.ext (w' := w1) (by repeat (first | assumption | exact Ext.refl _ | refine Ext.drewN ?_ _ | refine Ext.drew ?_ | refine Ext.alloc ?_ _ | refine Ext.trans ?_ (by assumption)))))
          all_goals
            go_wp2_with fail
            refine bodyPost_ret (v := .tuple #[.agg #[.int .i64 z0, .int .i64 z1, .int .i64 z2], .bool false]) (by simp [results, Try.results57, go_sem, s0, s1, s2]) rfl (.inr ⟨?_, ⟨_, _, _, rfl⟩, ?_⟩)
            · rw [HK.out.1, Hp.out, decide_eq_false (by have := HZ.out; omega)]; rfl
            · exact Ext.set3 (HP.out.2.2.1.trans (by repeat (first | assumption | exact Ext.refl _ | refine Ext.drewN ?_ _ | refine Ext.drew ?_ | refine Ext.alloc ?_ _ | refine Ext.trans ?_ (by assumption)))) loR _ _ _
      | false =>
        have hV := fun W => refValid_is z0 z1 z2 W hp
        have HV := Lib.hid hV
        have Hp := Lib.hid hp
        clear hV hp
        refine wp_region_held_drew (S := fun w' => w'.cell? ⟨gP, 0, none⟩ = some (.int .i64 z0) ∧ w'.cell? ⟨gP, 1, none⟩ = some (.int .i64 z1) ∧ w'.cell? ⟨gP, 2, none⟩ = some (.int .i64 z2)) (by kernel_rfl) ?_ (fun hHeld => ?_)
        · exact ⟨(Ext.refl W).drew.cell p0, (Ext.refl W).drew.cell p1, (Ext.refl W).drew.cell p2⟩
        refine wpAnyH_take (i := 0) (v := .agg #[.int .i64 z0, .int .i64 z1, .int .i64 z2]) rfl (by kernel_rfl) (by kernel_rfl) (by kernel_rfl) (fun _ _ _ h => h) (Or.inl ⟨by rfl, ?_⟩) (by assumption) ?_
        · rintro w' ⟨k0, k1, k2⟩
          go_simp
        simp only [Act.put, List.setIfInBounds_toArray]
        refine wpAnyH_take (i := 1) (v := .agg #[.int .i64 z0, .int .i64 z1, .int .i64 z2]) rfl (by kernel_rfl) (by kernel_rfl) (by kernel_rfl) (fun _ _ _ h => h) (Or.inl ⟨by rfl, ?_⟩) (by assumption) ?_
        · rintro w' ⟨k0, k1, k2⟩
          go_simp
        simp only [Act.put]
        refine wpAnyH_ready (rs := [2]) (by kernel_rfl) (by simp) ?_
        refine AllReadyH.cons rfl (fun K hK => ?_) AllReadyH.nil
        go_simp
        go_at_call 55
        refine (HV.out _).mono ?_
        rintro e w1 ⟨rfl, hx⟩
        go_wp2_with fail
        obtain ⟨y0, y1, y2, yf, yl⟩ := HP.out.1.ext (w' := w1) (by repeat (first | assumption | exact Ext.refl _ | refine Ext.drewN ?_ _ | refine Ext.drew ?_ | refine Ext.alloc ?_ _ | refine Ext.trans ?_ (by assumption)))
        obtain ⟨s0, s1, s2, sf, sl⟩ := HP.out.2.1.ext (w' := w1) (by repeat (first | assumption | exact Ext.refl _ | refine Ext.drewN ?_ _ | refine Ext.drew ?_ | refine Ext.alloc ?_ _ | refine Ext.trans ?_ (by assumption)))
        refine hK.out _ _ ⟨y0, y1, y2⟩ (fun hHeld2 => ?_)
        refine wpAnyH_take (i := 3) (v := .bool false) rfl (by kernel_rfl) (by kernel_rfl) (by kernel_rfl) (fun _ _ _ h => h) (Or.inl ⟨by rfl, ?_⟩) (by assumption) ?_
        · rintro w' -
          go_simp
        simp only [Act.put, List.setIfInBounds_toArray]
        refine wpAnyH_take (i := 4) (v := undef) rfl (by kernel_rfl) (by kernel_rfl) (by kernel_rfl) (fun _ _ _ h => h) (Or.inr ⟨by rfl, rfl⟩) (by assumption) ?_
        simp only [Act.put]
        refine wpAnyH_take (i := 6) (v := undef) rfl (by kernel_rfl) (by kernel_rfl) (by kernel_rfl) (fun _ _ _ h => h) (Or.inr ⟨by rfl, rfl⟩) (by assumption) ?_
        simp only [Act.put]
        refine wpAnyH_take (i := 5) (v := undef) rfl (by kernel_rfl) (by kernel_rfl) (by kernel_rfl) (fun _ _ _ h => h) (Or.inr ⟨by rfl, rfl⟩) (by assumption) ?_
        simp only [Act.put]
        refine wpAnyH_take (i := 7) (v := undef) rfl (by kernel_rfl) (by kernel_rfl) (by kernel_rfl) (fun _ _ _ h => h) (Or.inr ⟨by rfl, rfl⟩) (by assumption) ?_
        simp only [Act.put]
        refine wpAnyH_take (i := 8) (v := undef) rfl (by kernel_rfl) (by kernel_rfl) (by kernel_rfl) (fun _ _ _ h => h) (Or.inr ⟨by rfl, rfl⟩) (by assumption) ?_
        simp only [Act.put]
        refine wpAnyH_take (i := 9) (v := .bool false) rfl (by kernel_rfl) (by kernel_rfl) (by kernel_rfl) (fun _ _ _ h => h) (Or.inl ⟨by rfl, ?_⟩) (by assumption) ?_
        · rintro w' -
          go_simp
        simp only [Act.put]
        refine wpAnyH_ready (rs := [10]) (by kernel_rfl) (by simp) ?_
        refine AllReadyH.cons rfl (fun K2 hK2 => ?_) AllReadyH.nil
        go_simp
        refine hK2.out _ _ (by go_keep) (fun hHeld3 => ?_)
        refine wpAnyH_ready (rs := [11]) (by kernel_rfl) (by simp) ?_
        refine AllReadyH.cons rfl (fun K3 hK3 => ?_) AllReadyH.nil
        go_simp
        refine hK3.out _ _ hHeld3 (fun _ => ?_)
        refine wpAnyH_done (by kernel_rfl) ?_ _
        go_wp2_with fail
        refine bodyPost_ret (v := .tuple #[.agg #[.int .i64 z0, .int .i64 z1, .int .i64 z2], .bool false]) (by simp [results, Try.results57, go_sem, s0, s1, s2]) rfl (.inr ⟨?_, ⟨_, _, _, rfl⟩, ?_⟩)
        · rw [HK.out.1, Hp.out]; rfl
        · exact Ext.set3 (HP.out.2.2.1.trans (by repeat (first | assumption | exact Ext.refl _ | refine Ext.drewN ?_ _ | refine Ext.drew ?_ | refine Ext.alloc ?_ _ | refine Ext.trans ?_ (by assumption)))) loR _ _ _
end Go.Proofs.Ythnonfmaamchkaa
