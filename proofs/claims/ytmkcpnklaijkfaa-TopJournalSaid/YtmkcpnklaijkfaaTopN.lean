/-
  TopJournal: the arms where an input is out of its range.
-/
import Derived.Test.YtmkcpnklaijkfaaTopA
namespace Go.Proofs.Ytmkcpnklaijkfaa
open Go.RowKit
/-- Block b holds three cells. -/
structure Box3 (w : World) (b : Nat) (v0 v1 v2 : Value) : Prop where
  c0 : w.cell? ⟨b, 0, none⟩ = some v0
  c1 : w.cell? ⟨b, 1, none⟩ = some v1
  c2 : w.cell? ⟨b, 2, none⟩ = some v2
  fz : ∀ o, w.frozen? ⟨b, o, none⟩ = false
  lt : b < w.heap.size
theorem Box3.ext {w w' : World} {b : Nat} {v0 v1 v2 : Value} (h : Box3 w b v0 v1 v2) (x : Ext w w') : Box3 w' b v0 v1 v2 :=
  ⟨x.cell h.c0, x.cell h.c1, x.cell h.c2, fun o => by rw [x.bcell.2 b o h.lt]; exact h.fz o, Nat.lt_of_lt_of_le h.lt x.size⟩
theorem Box3.new (w : World) (v0 v1 v2 : Value) (T : TypeId) : Box3 (w.alloc (Obj.cells #[v0, v1, v2] T)) w.heap.size v0 v1 v2 :=
  ⟨by simp [go_sem], by simp [go_sem], by simp [go_sem], fun o => by simp [go_sem], by simp⟩
/-- Two phases in blocks of their own. -/
theorem box_two (w : World) (pa pb pc qa qb qc : Int) :
    Box3 ((w.alloc (Obj.cells #[.int .i64 pa, .int .i64 pb, .int .i64 pc] 23)).alloc (Obj.cells #[.int .i64 qa, .int .i64 qb, .int .i64 qc] 23)) w.heap.size (.int .i64 pa) (.int .i64 pb) (.int .i64 pc) ∧
    Box3 ((w.alloc (Obj.cells #[.int .i64 pa, .int .i64 pb, .int .i64 pc] 23)).alloc (Obj.cells #[.int .i64 qa, .int .i64 qb, .int .i64 qc] 23)) (w.heap.size + 1) (.int .i64 qa) (.int .i64 qb) (.int .i64 qc) ∧
    Ext w ((w.alloc (Obj.cells #[.int .i64 pa, .int .i64 pb, .int .i64 pc] 23)).alloc (Obj.cells #[.int .i64 qa, .int .i64 qb, .int .i64 qc] 23)) := by
  have hQ := Box3.new (w.alloc (Obj.cells #[.int .i64 pa, .int .i64 pb, .int .i64 pc] 23)) (.int .i64 qa) (.int .i64 qb) (.int .i64 qc) 23
  simp only [World.size_alloc] at hQ
  exact ⟨(Box3.new w _ _ _ _).ext ((Ext.refl _).alloc _), hQ, ((Ext.refl w).alloc _).alloc _⟩
set_option maxRecDepth 100000 in
set_option maxHeartbeats 6400000 in
theorem topJournal_no (ty pa pb pc qa qb qc at_ v left mask sp by_ : Int) (w : World)
    (hbad : ¬ (0 ≤ ty ∧ ty ≤ 8 ∧ phB pa pb pc = true ∧ phB qa qb qc = true ∧ pb ≤ 256 ∧ qb ≤ 256 ∧ 128 ≤ at_ ∧ at_ ≤ 255 ∧ 0 ≤ left ∧ left ≤ 200 ∧ 0 ≤ sp ∧ sp ≤ 15)) :
    Calls Try.prog 3 #[.int .i64 ty, .agg #[.int .i64 pa, .int .i64 pb, .int .i64 pc], .agg #[.int .i64 qa, .int .i64 qb, .int .i64 qc], .int .i64 at_, .int .u64 v, .int .i64 left, .int .u64 mask, .int .i64 sp, .int .u64 by_] w fun e w' => e = .returned (.bool true) ∧ Ext w w' := by
  have HB := Lib.hid (And.intro (box_two w pa pb pc qa qb qc) hbad)
  clear hbad
  go_enter Try.func3, Try.ntmps3
  go_wp2_with fail
  refine (top12_any _).mono ?_
  rintro e w1 ⟨rfl, hx1⟩
  have HX := Lib.hid (HB.out.1.2.2.trans hx1)
  by_cases g0 : ty < 0
  · clear hx1
    go_wp2_with fail
    go_ret
    exact ⟨rfl, HX.out⟩
  by_cases g1 : 8 < ty
  · clear hx1
    go_wp2_with fail
    go_ret
    exact ⟨rfl, HX.out⟩
  obtain ⟨p0, p1, p2, pf, pl⟩ := HB.out.1.1.ext hx1
  clear HX
  go_wp2_with fail
  refine (refCheck11_any pa pb pc _).mono ?_
  rintro e w2 ⟨rfl, hx2⟩
  have HX := Lib.hid (HB.out.1.2.2.trans (hx1.trans hx2))
  cases hp : phB pa pb pc with
  | false =>
    rw [show phE pa pb pc = 8 from by simp [phE, hp]]
    clear hp hx1 hx2 p0 p1 p2 pf pl
    go_wp2_with fail
    go_ret
    exact ⟨rfl, HX.out⟩
  | true =>
    rw [show phE pa pb pc = 0 from by simp [phE, hp]]
    obtain ⟨q0, q1, q2, qf, ql⟩ := HB.out.1.2.1.ext (hx1.trans hx2)
    have HP := Lib.hid hp
    clear hp p0 p1 p2 pf pl HX
    go_wp2_with fail
    refine (refCheck11_any qa qb qc _).mono ?_
    rintro e w3 ⟨rfl, hx3⟩
    have HX := Lib.hid (HB.out.1.2.2.trans ((hx1.trans hx2).trans hx3))
    clear q0 q1 q2 qf ql
    cases hq : phB qa qb qc with
    | false =>
      rw [show phE qa qb qc = 8 from by simp [phE, hq]]
      clear hq hx1 hx2 hx3
      go_wp2_with fail
      go_ret
      exact ⟨rfl, HX.out⟩
    | true =>
      rw [show phE qa qb qc = 0 from by simp [phE, hq]]
      obtain ⟨p0, p1, p2, pf, pl⟩ := HB.out.1.1.ext ((hx1.trans hx2).trans hx3)
      obtain ⟨q0, q1, q2, qf, ql⟩ := HB.out.1.2.1.ext ((hx1.trans hx2).trans hx3)
      have HQ := Lib.hid hq
      clear hq hx1 hx2 hx3
      by_cases g2 : 256 < pb
      · go_wp2_with fail
        go_ret
        exact ⟨rfl, HX.out⟩
      by_cases g3 : 256 < qb
      · go_wp2_with fail
        go_ret
        exact ⟨rfl, HX.out⟩
      by_cases g4 : at_ < 128
      · go_wp2_with fail
        go_ret
        exact ⟨rfl, HX.out⟩
      by_cases g5 : 255 < at_
      · go_wp2_with fail
        go_ret
        exact ⟨rfl, HX.out⟩
      by_cases g6 : left < 0
      · go_wp2_with fail
        go_ret
        exact ⟨rfl, HX.out⟩
      by_cases g7 : 200 < left
      · go_wp2_with fail
        go_ret
        exact ⟨rfl, HX.out⟩
      by_cases g8 : sp < 0
      · go_wp2_with fail
        go_ret
        exact ⟨rfl, HX.out⟩
      by_cases g9 : 15 < sp
      · go_wp2_with fail
        go_ret
        exact ⟨rfl, HX.out⟩
      exact absurd ⟨by omega, by omega, HP.out, HQ.out, by omega, by omega, by omega, by omega, by omega, by omega, by omega, by omega⟩ HB.out.2
end Go.Proofs.Ytmkcpnklaijkfaa
