/-
  The contract of reading a phase.
-/
import Derived.Test.YthnonfmaamchkaaPhLine
namespace Go.Proofs.Ythnonfmaamchkaa
open Go.RowKit

set_option maxHeartbeats 6400000 in
set_option maxRecDepth 100000 in
theorem phRead_any (m : List Int) (A : Option Addr) (c : Nat) (w : World) (hA : Sl w A m.length c (fU m)) (wf : WfU m) :
    Calls Try.prog 32 #[.slice A m.length c] w (RdP w m) := by
  cases hs : sizeB (m.length : Int) with
  | false =>
    have hi : imgE (m.length : Int) = 8 := by simp [imgE, hs]
    have hr : prE m = 8 := by simp [prE, hs]
    go_enter Try.func32, Try.ntmps32
    go_wp2_with fail
    refine (imageCheck_any _ _ _ _).mono ?_
    rintro e w' ⟨rfl, rfl⟩
    go_wp2_with fail
    exact bodyPost_ret (v := .tuple #[.agg #[.int .i64 0, .int .i64 0, .int .i64 0], .int .i64 8]) (by simp [results, Try.results32, go_sem]) rfl ⟨by simp [prA, hr], (Ext.refl w).alloc _⟩
  | true =>
    have hi : imgE (m.length : Int) = 0 := by simp [imgE, hs]
    have hsz := sizeB_bd hs
    have hle := hA.le
    have hmax := hA.max
    unfold maxLen at hmax
    have hc16 : c ≠ 16 := by omega
    have h24 : (24 : Int) ≤ c := by omega
    obtain ⟨ad, _, rfl, _, _⟩ := hA.u_at (k := 16) (by omega)
    have hln := fun {W : World} (h : Sl W (some ad) m.length c (fU m)) j => line_at h j
    obtain ⟨hpr, hpA⟩ : prE m = (if okP m then 0 else 50) ∧ (∀ i, prA m i = if prE m = 0 then m.getD i 0 else 0) := ⟨by simp [prE, hs], fun i => rfl⟩
    have hok := okP_iff (m := m)
    obtain ⟨x0, hx0⟩ : ∃ x, m.getD 16 0 = x := ⟨_, rfl⟩
    have p0 : 0 ≤ x0 := by have := (wf_getD wf 16).1; omega
    obtain ⟨x1, hx1⟩ : ∃ x, m.getD 17 0 = x := ⟨_, rfl⟩
    have p1 : 0 ≤ x1 := by have := (wf_getD wf 17).1; omega
    obtain ⟨x2, hx2⟩ : ∃ x, m.getD 18 0 = x := ⟨_, rfl⟩
    have p2 : 0 ≤ x2 := by have := (wf_getD wf 18).1; omega
    obtain ⟨x3, hx3⟩ : ∃ x, m.getD 19 0 = x := ⟨_, rfl⟩
    have p3 : 0 ≤ x3 := by have := (wf_getD wf 19).1; omega
    obtain ⟨x4, hx4⟩ : ∃ x, m.getD 20 0 = x := ⟨_, rfl⟩
    have p4 : 0 ≤ x4 := by have := (wf_getD wf 20).1; omega
    obtain ⟨x5, hx5⟩ : ∃ x, m.getD 21 0 = x := ⟨_, rfl⟩
    have p5 : 0 ≤ x5 := by have := (wf_getD wf 21).1; omega
    obtain ⟨x6, hx6⟩ : ∃ x, m.getD 22 0 = x := ⟨_, rfl⟩
    have p6 : 0 ≤ x6 := by have := (wf_getD wf 22).1; omega
    obtain ⟨x7, hx7⟩ : ∃ x, m.getD 23 0 = x := ⟨_, rfl⟩
    have p7 : 0 ≤ x7 := by have := (wf_getD wf 23).1; omega
    rw [hx0, hx1, hx2, hx3, hx4, hx5, hx6, hx7] at hok
    have g0 := fun {W : World} (h : Sl W (some ad) m.length c (fU m)) => hln h 0 (by omega)
    rw [show 16 + 0 = 16 from rfl, hx0] at g0
    have g1 := fun {W : World} (h : Sl W (some ad) m.length c (fU m)) => hln h 1 (by omega)
    rw [show 16 + 1 = 17 from rfl, hx1] at g1
    have g2 := fun {W : World} (h : Sl W (some ad) m.length c (fU m)) => hln h 2 (by omega)
    rw [show 16 + 2 = 18 from rfl, hx2] at g2
    have g3 := fun {W : World} (h : Sl W (some ad) m.length c (fU m)) => hln h 3 (by omega)
    rw [show 16 + 3 = 19 from rfl, hx3] at g3
    have g4 := fun {W : World} (h : Sl W (some ad) m.length c (fU m)) => hln h 4 (by omega)
    rw [show 16 + 4 = 20 from rfl, hx4] at g4
    have g5 := fun {W : World} (h : Sl W (some ad) m.length c (fU m)) => hln h 5 (by omega)
    rw [show 16 + 5 = 21 from rfl, hx5] at g5
    have g6 := fun {W : World} (h : Sl W (some ad) m.length c (fU m)) => hln h 6 (by omega)
    rw [show 16 + 6 = 22 from rfl, hx6] at g6
    have g7 := fun {W : World} (h : Sl W (some ad) m.length c (fU m)) => hln h 7 (by omega)
    rw [show 16 + 7 = 23 from rfl, hx7] at g7
    have hbad : okP m = false → prE m = 50 ∧ prA m 16 = 0 ∧ prA m 17 = 0 ∧ prA m 18 = 0 := by
      intro h; have h5 : prE m = 50 := by rw [hpr, h]; rfl
      refine ⟨h5, ?_, ?_, ?_⟩ <;> rw [hpA, h5] <;> rfl
    have hgood : okP m = true → prE m = 0 ∧ prA m 16 = x0 ∧ prA m 17 = x1 ∧ prA m 18 = x2 := by
      intro h; have h5 : prE m = 0 := by rw [hpr, h]; rfl
      refine ⟨h5, ?_, ?_, ?_⟩ <;> rw [hpA, h5, if_pos rfl] <;> assumption
    have HB := Lib.hid (And.intro hok (And.intro hbad hgood))
    have HG := Lib.hid (And.intro @g0 (And.intro @g1 (And.intro @g2 (And.intro @g3 (And.intro @g4 (And.intro @g5 (And.intro @g6 @g7)))))))
    clear hok hbad hgood hln hpr hpA g0 g1 g2 g3 g4 g5 g6 g7 hx0 hx1 hx2 hx3 hx4 hx5 hx6 hx7
    have hw : IntKind.u64.wrap (m.length : Int) = m.length := u64_len (by omega)
    go_enter Try.func32, Try.ntmps32
    go_wp2_with fail
    refine (imageCheck_any _ _ _ _).mono ?_
    rintro e w' ⟨rfl, rfl⟩
    go_wp2_with fail
    go_loopw [7, 8, 20] (fun _ _ i wr => ∃ k : Nat, k ≤ 8 ∧ i = .int .i64 k ∧ ((0 < k → x0 ≤ m.length) ∧ (1 < k → x1 ≤ m.length) ∧ (2 < k → x2 ≤ m.length) ∧ (3 < k → x3 = 0) ∧ (4 < k → x4 = 0) ∧ (5 < k → x5 = 0) ∧ (6 < k → x6 = 0) ∧ (7 < k → x7 = 0)) ∧ wr = ((w.alloc (Obj.cells #[.int .i64 0, .int .i64 0, .int .i64 0] 23)).alloc (Obj.cells #[.int .i64 (if 0 < k then x0 else 0), .int .i64 (if 1 < k then x1 else 0), .int .i64 (if 2 < k then x2 else 0)] 90))) (fun _ _ i _ => 8 - (intOf i).toNat)
    case atStart => exact ⟨0, by omega, rfl, by omega, rfl⟩
    case round =>
      obtain ⟨k, hk, rfl, hinv, rfl⟩ := hrel
      rcases (by omega : k = 0 ∨ k = 1 ∨ k = 2 ∨ k = 3 ∨ k = 4 ∨ k = 5 ∨ k = 6 ∨ k = 7 ∨ k = 8) with rfl | rfl | rfl | rfl | rfl | rfl | rfl | rfl | rfl
      · have ga := HG.out.1 ((hA.alloc (Obj.cells #[.int .i64 0, .int .i64 0, .int .i64 0] 23)).alloc (Obj.cells #[.int .i64 (if 0 < 0 then x0 else 0), .int .i64 (if 1 < 0 then x1 else 0), .int .i64 (if 2 < 0 then x2 else 0)] 90))
        simp only [Nat.reduceLT, if_false, Nat.add_zero] at ga
        have HI := Lib.hid hinv
        clear hinv
        by_cases h1 : x0 ≤ (m.length : Int)
        · have wx : IntKind.i64.wrap x0 = x0 := i64_small (by omega) (by omega)
          go_wp2_with fail
          go_roundw
          case rel => have := HI.out; exact ⟨1, by omega, by go_num, by omega, by simp⟩
          case measure => simp [intOf]
        · have hno : okP m = false := by
            refine Bool.eq_false_iff.2 fun ho => ?_
            obtain ⟨⟨a0, a1, a2⟩, ⟨a3, a4, a5, a6, a7⟩, _⟩ := HB.out.1.1 ho
            omega
          obtain ⟨e0, e1, e2, e3⟩ := HB.out.2.1 hno
          go_wp2_with fail
          exact bodyPost_ret (v := .tuple #[.agg #[.int .i64 0, .int .i64 0, .int .i64 0], .int .i64 50]) (by simp [results, Try.results32, go_sem]) rfl ⟨by rw [e0, e1, e2, e3], ((Ext.refl w).alloc _).alloc _⟩
      · have ga := HG.out.2.1 ((hA.alloc (Obj.cells #[.int .i64 0, .int .i64 0, .int .i64 0] 23)).alloc (Obj.cells #[.int .i64 (if 0 < 1 then x0 else 0), .int .i64 (if 1 < 1 then x1 else 0), .int .i64 (if 2 < 1 then x2 else 0)] 90))
        simp only [Nat.reduceLT, if_true, if_false, Nat.add_assoc, Nat.reduceAdd] at ga
        have HI := Lib.hid hinv
        clear hinv
        by_cases h1 : x1 ≤ (m.length : Int)
        · have wx : IntKind.i64.wrap x1 = x1 := i64_small (by omega) (by omega)
          go_wp2_with fail
          go_roundw
          case rel => have := HI.out; exact ⟨2, by omega, by go_num, by omega, by simp⟩
          case measure => simp [intOf]
        · have hno : okP m = false := by
            refine Bool.eq_false_iff.2 fun ho => ?_
            obtain ⟨⟨a0, a1, a2⟩, ⟨a3, a4, a5, a6, a7⟩, _⟩ := HB.out.1.1 ho
            omega
          obtain ⟨e0, e1, e2, e3⟩ := HB.out.2.1 hno
          go_wp2_with fail
          exact bodyPost_ret (v := .tuple #[.agg #[.int .i64 0, .int .i64 0, .int .i64 0], .int .i64 50]) (by simp [results, Try.results32, go_sem]) rfl ⟨by rw [e0, e1, e2, e3], ((Ext.refl w).alloc _).alloc _⟩
      · have ga := HG.out.2.2.1 ((hA.alloc (Obj.cells #[.int .i64 0, .int .i64 0, .int .i64 0] 23)).alloc (Obj.cells #[.int .i64 (if 0 < 2 then x0 else 0), .int .i64 (if 1 < 2 then x1 else 0), .int .i64 (if 2 < 2 then x2 else 0)] 90))
        simp only [Nat.reduceLT, if_true, if_false, Nat.add_assoc, Nat.reduceAdd] at ga
        have HI := Lib.hid hinv
        clear hinv
        by_cases h1 : x2 ≤ (m.length : Int)
        · have wx : IntKind.i64.wrap x2 = x2 := i64_small (by omega) (by omega)
          go_wp2_with fail
          go_roundw
          case rel => have := HI.out; exact ⟨3, by omega, by go_num, by omega, by simp⟩
          case measure => simp [intOf]
        · have hno : okP m = false := by
            refine Bool.eq_false_iff.2 fun ho => ?_
            obtain ⟨⟨a0, a1, a2⟩, ⟨a3, a4, a5, a6, a7⟩, _⟩ := HB.out.1.1 ho
            omega
          obtain ⟨e0, e1, e2, e3⟩ := HB.out.2.1 hno
          go_wp2_with fail
          exact bodyPost_ret (v := .tuple #[.agg #[.int .i64 0, .int .i64 0, .int .i64 0], .int .i64 50]) (by simp [results, Try.results32, go_sem]) rfl ⟨by rw [e0, e1, e2, e3], ((Ext.refl w).alloc _).alloc _⟩
      · have ga := HG.out.2.2.2.1 ((hA.alloc (Obj.cells #[.int .i64 0, .int .i64 0, .int .i64 0] 23)).alloc (Obj.cells #[.int .i64 (if 0 < 3 then x0 else 0), .int .i64 (if 1 < 3 then x1 else 0), .int .i64 (if 2 < 3 then x2 else 0)] 90))
        simp only [Nat.reduceLT, if_true, Nat.add_assoc, Nat.reduceAdd] at ga
        have HI := Lib.hid hinv
        clear hinv
        by_cases h1 : x3 = 0
        · go_wp2_with fail
          go_roundw
          case rel => have := HI.out; exact ⟨4, by omega, by go_num, by omega, by simp⟩
          case measure => simp [intOf]
        · have hno : okP m = false := by
            refine Bool.eq_false_iff.2 fun ho => ?_
            obtain ⟨⟨a0, a1, a2⟩, ⟨a3, a4, a5, a6, a7⟩, _⟩ := HB.out.1.1 ho
            omega
          obtain ⟨e0, e1, e2, e3⟩ := HB.out.2.1 hno
          go_wp2_with fail
          exact bodyPost_ret (v := .tuple #[.agg #[.int .i64 0, .int .i64 0, .int .i64 0], .int .i64 50]) (by simp [results, Try.results32, go_sem]) rfl ⟨by rw [e0, e1, e2, e3], ((Ext.refl w).alloc _).alloc _⟩
      · have ga := HG.out.2.2.2.2.1 ((hA.alloc (Obj.cells #[.int .i64 0, .int .i64 0, .int .i64 0] 23)).alloc (Obj.cells #[.int .i64 (if 0 < 4 then x0 else 0), .int .i64 (if 1 < 4 then x1 else 0), .int .i64 (if 2 < 4 then x2 else 0)] 90))
        simp only [Nat.reduceLT, if_true, Nat.add_assoc, Nat.reduceAdd] at ga
        have HI := Lib.hid hinv
        clear hinv
        by_cases h1 : x4 = 0
        · go_wp2_with fail
          go_roundw
          case rel => have := HI.out; exact ⟨5, by omega, by go_num, by omega, by simp⟩
          case measure => simp [intOf]
        · have hno : okP m = false := by
            refine Bool.eq_false_iff.2 fun ho => ?_
            obtain ⟨⟨a0, a1, a2⟩, ⟨a3, a4, a5, a6, a7⟩, _⟩ := HB.out.1.1 ho
            omega
          obtain ⟨e0, e1, e2, e3⟩ := HB.out.2.1 hno
          go_wp2_with fail
          exact bodyPost_ret (v := .tuple #[.agg #[.int .i64 0, .int .i64 0, .int .i64 0], .int .i64 50]) (by simp [results, Try.results32, go_sem]) rfl ⟨by rw [e0, e1, e2, e3], ((Ext.refl w).alloc _).alloc _⟩
      · have ga := HG.out.2.2.2.2.2.1 ((hA.alloc (Obj.cells #[.int .i64 0, .int .i64 0, .int .i64 0] 23)).alloc (Obj.cells #[.int .i64 (if 0 < 5 then x0 else 0), .int .i64 (if 1 < 5 then x1 else 0), .int .i64 (if 2 < 5 then x2 else 0)] 90))
        simp only [Nat.reduceLT, if_true, Nat.add_assoc, Nat.reduceAdd] at ga
        have HI := Lib.hid hinv
        clear hinv
        by_cases h1 : x5 = 0
        · go_wp2_with fail
          go_roundw
          case rel => have := HI.out; exact ⟨6, by omega, by go_num, by omega, by simp⟩
          case measure => simp [intOf]
        · have hno : okP m = false := by
            refine Bool.eq_false_iff.2 fun ho => ?_
            obtain ⟨⟨a0, a1, a2⟩, ⟨a3, a4, a5, a6, a7⟩, _⟩ := HB.out.1.1 ho
            omega
          obtain ⟨e0, e1, e2, e3⟩ := HB.out.2.1 hno
          go_wp2_with fail
          exact bodyPost_ret (v := .tuple #[.agg #[.int .i64 0, .int .i64 0, .int .i64 0], .int .i64 50]) (by simp [results, Try.results32, go_sem]) rfl ⟨by rw [e0, e1, e2, e3], ((Ext.refl w).alloc _).alloc _⟩
      · have ga := HG.out.2.2.2.2.2.2.1 ((hA.alloc (Obj.cells #[.int .i64 0, .int .i64 0, .int .i64 0] 23)).alloc (Obj.cells #[.int .i64 (if 0 < 6 then x0 else 0), .int .i64 (if 1 < 6 then x1 else 0), .int .i64 (if 2 < 6 then x2 else 0)] 90))
        simp only [Nat.reduceLT, if_true, Nat.add_assoc, Nat.reduceAdd] at ga
        have HI := Lib.hid hinv
        clear hinv
        by_cases h1 : x6 = 0
        · go_wp2_with fail
          go_roundw
          case rel => have := HI.out; exact ⟨7, by omega, by go_num, by omega, by simp⟩
          case measure => simp [intOf]
        · have hno : okP m = false := by
            refine Bool.eq_false_iff.2 fun ho => ?_
            obtain ⟨⟨a0, a1, a2⟩, ⟨a3, a4, a5, a6, a7⟩, _⟩ := HB.out.1.1 ho
            omega
          obtain ⟨e0, e1, e2, e3⟩ := HB.out.2.1 hno
          go_wp2_with fail
          exact bodyPost_ret (v := .tuple #[.agg #[.int .i64 0, .int .i64 0, .int .i64 0], .int .i64 50]) (by simp [results, Try.results32, go_sem]) rfl ⟨by rw [e0, e1, e2, e3], ((Ext.refl w).alloc _).alloc _⟩
      · have ga := HG.out.2.2.2.2.2.2.2 ((hA.alloc (Obj.cells #[.int .i64 0, .int .i64 0, .int .i64 0] 23)).alloc (Obj.cells #[.int .i64 (if 0 < 7 then x0 else 0), .int .i64 (if 1 < 7 then x1 else 0), .int .i64 (if 2 < 7 then x2 else 0)] 90))
        simp only [Nat.reduceLT, if_true, Nat.add_assoc, Nat.reduceAdd] at ga
        have HI := Lib.hid hinv
        clear hinv
        by_cases h1 : x7 = 0
        · go_wp2_with fail
          go_roundw
          case rel => have := HI.out; exact ⟨8, by omega, by go_num, by omega, by simp⟩
          case measure => simp [intOf]
        · have hno : okP m = false := by
            refine Bool.eq_false_iff.2 fun ho => ?_
            obtain ⟨⟨a0, a1, a2⟩, ⟨a3, a4, a5, a6, a7⟩, _⟩ := HB.out.1.1 ho
            omega
          obtain ⟨e0, e1, e2, e3⟩ := HB.out.2.1 hno
          go_wp2_with fail
          exact bodyPost_ret (v := .tuple #[.agg #[.int .i64 0, .int .i64 0, .int .i64 0], .int .i64 50]) (by simp [results, Try.results32, go_sem]) rfl ⟨by rw [e0, e1, e2, e3], ((Ext.refl w).alloc _).alloc _⟩
      · have HI := Lib.hid hinv
        clear hinv
        go_wp2_with fail
        refine (phCheck_any x0 x1 x2 _).mono ?_
        rintro e w1 ⟨rfl, hx⟩
        obtain ⟨hc, hf⟩ := hx.bcell
        have hXw : Ext w w1 := Ext.trans (by (repeat (first | assumption | exact Ext.refl _ | refine Ext.drewN ?_ _ | refine Ext.drew ?_ | refine Ext.alloc ?_ _ | refine Ext.trans ?_ (by assumption)))) hx
        have k0 : w1.cell? ⟨w.heap.size, 0, none⟩ = some (.int .i64 0) := by rw [hc _ _ (by simp; omega)]; simp [go_sem]
        have k1 : w1.cell? ⟨w.heap.size, 1, none⟩ = some (.int .i64 0) := by rw [hc _ _ (by simp; omega)]; simp [go_sem]
        have k2 : w1.cell? ⟨w.heap.size, 2, none⟩ = some (.int .i64 0) := by rw [hc _ _ (by simp; omega)]; simp [go_sem]
        cases hp : phB x0 x1 x2 with
        | true =>
          have he : phE x0 x1 x2 = 0 := by simp [phE, hp]
          have hyes : okP m = true := HB.out.1.2 ⟨by have := HI.out; omega, by have := HI.out; omega, hp⟩
          obtain ⟨e0, e1, e2, e3⟩ := HB.out.2.2 hyes
          clear hp hyes
          go_wp2_with fail
          exact bodyPost_ret (v := .tuple #[.agg #[.int .i64 x0, .int .i64 x1, .int .i64 x2], .int .i64 0]) (by simp [results, Try.results32, go_sem, k0, k1, k2]) rfl ⟨by rw [e0, e1, e2, e3], ((hXw.setCell (p := ⟨w.heap.size, 0, none⟩) (Nat.le_refl _) _).setCell (p := ⟨w.heap.size, 1, none⟩) (Nat.le_refl _) _).setCell (p := ⟨w.heap.size, 2, none⟩) (Nat.le_refl _) _⟩
        | false =>
          have he : phE x0 x1 x2 = 8 := by simp [phE, hp]
          have hno : okP m = false := by
            refine Bool.eq_false_iff.2 fun ho => ?_
            have := (HB.out.1.1 ho).2.2
            rw [hp] at this
            cases this
          obtain ⟨e0, e1, e2, e3⟩ := HB.out.2.1 hno
          clear hp hno
          go_wp2_with fail
          exact bodyPost_ret (v := .tuple #[.agg #[.int .i64 0, .int .i64 0, .int .i64 0], .int .i64 50]) (by simp [results, Try.results32, go_sem, k0, k1, k2]) rfl ⟨by rw [e0, e1, e2, e3], ((hXw.setCell (p := ⟨w.heap.size, 0, none⟩) (Nat.le_refl _) _).setCell (p := ⟨w.heap.size, 1, none⟩) (Nat.le_refl _) _).setCell (p := ⟨w.heap.size, 2, none⟩) (Nat.le_refl _) _⟩
end Go.Proofs.Ythnonfmaamchkaa
