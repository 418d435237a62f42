/-
  The phase line of an image, in plain terms.
-/
import Derived.Test.YthnonfmaamchkaaPhaseB
import Derived.Test.YthnonfmaamchkaaImage2
import Derived.Test.YthnonfmaamchkaaRead
namespace Go.Proofs.Ythnonfmaamchkaa
open Go.RowKit

/-- Is the phase line of an image the line of a phase? -/
def okP (m : List Int) : Bool :=
  decide (m.getD 16 0 ≤ m.length) && decide (m.getD 17 0 ≤ m.length) && decide (m.getD 18 0 ≤ m.length) && decide (m.getD 19 0 = 0) && decide (m.getD 20 0 = 0) && decide (m.getD 21 0 = 0) && decide (m.getD 22 0 = 0) && decide (m.getD 23 0 = 0) && phB (m.getD 16 0) (m.getD 17 0) (m.getD 18 0)
/-- The error of reading a phase. -/
def prE (m : List Int) : Int := if sizeB m.length then (if okP m then 0 else 50) else 8
/-- The fields of the phase that is read. -/
def prA (m : List Int) (i : Nat) : Int := if prE m = 0 then m.getD i 0 else 0
/-- What 'Read' gives. -/
def RdP (w : World) (m : List Int) (en : Ending) (w' : World) : Prop :=
  en = .returned (.tuple #[.agg #[.int .i64 (prA m 16), .int .i64 (prA m 17), .int .i64 (prA m 18)], .int .i64 (prE m)]) ∧ Ext w w'
/-- Is the j-th word right? -/
def okw (m : List Int) (j : Nat) : Prop := m.getD j 0 ≤ 2048 ∧ (18 < j → m.getD j 0 = 0)
theorem line_at {W : World} {ad : Addr} {n c : Nat} {m : List Int} (h : Sl W (some ad) n c (fU m)) (j : Nat) (hj : 16 + j < m.length) : W.cell? ⟨ad.block, ad.off + 16 + j, none⟩ = some (.int .u64 (m.getD (16 + j) 0)) := by
  obtain ⟨a, x, ha, hx, g⟩ := h.u_at hj
  injection ha with ha
  subst ha
  rw [show m.getD (16 + j) 0 = x from by simp [List.getD, hx], ← g]
  simp [Addr.add, Nat.add_assoc]
theorem okP_iff {m : List Int} : okP m = true ↔ (m.getD 16 0 ≤ m.length ∧ m.getD 17 0 ≤ m.length ∧ m.getD 18 0 ≤ m.length) ∧ (m.getD 19 0 = 0 ∧ m.getD 20 0 = 0 ∧ m.getD 21 0 = 0 ∧ m.getD 22 0 = 0 ∧ m.getD 23 0 = 0) ∧ phB (m.getD 16 0) (m.getD 17 0) (m.getD 18 0) = true := by
  unfold okP
  simp only [Bool.and_eq_true, decide_eq_true_eq]
  constructor
  · rintro ⟨⟨⟨⟨⟨⟨⟨⟨a, b⟩, c⟩, d⟩, e⟩, f⟩, g⟩, h⟩, i⟩; exact ⟨⟨a, b, c⟩, ⟨d, e, f, g, h⟩, i⟩
  · rintro ⟨⟨a, b, c⟩, ⟨d, e, f, g, h⟩, i⟩; exact ⟨⟨⟨⟨⟨⟨⟨⟨a, b⟩, c⟩, d⟩, e⟩, f⟩, g⟩, h⟩, i⟩
theorem not_okP {m : List Int} (hs : sizeB (m.length : Int) = true) {k : Nat} (h16 : 16 ≤ k) (h24 : k < 24) (h : 2048 < m.getD k 0 ∨ (18 < k ∧ m.getD k 0 ≠ 0)) : okP m = false := by
  have hsz := sizeB_bd hs
  refine Bool.eq_false_iff.2 fun ho => ?_
  obtain ⟨⟨a, b, c⟩, ⟨d, e, f, g, i⟩, _⟩ := okP_iff.1 ho
  rcases (by omega : k = 16 ∨ k = 17 ∨ k = 18 ∨ k = 19 ∨ k = 20 ∨ k = 21 ∨ k = 22 ∨ k = 23) with rfl | rfl | rfl | rfl | rfl | rfl | rfl | rfl <;> omega
theorem okP_told {m : List Int} (hs : sizeB (m.length : Int) = true) (h : ∀ j, 16 ≤ j → j < 24 → okw m j) : okP m = (phB (m.getD 16 0) (m.getD 17 0) (m.getD 18 0) && decide (m.getD 17 0 ≤ m.length)) := by
  have hsz := sizeB_bd hs
  rw [Bool.eq_iff_iff, okP_iff, Bool.and_eq_true, decide_eq_true_eq]
  constructor
  · rintro ⟨⟨a, b, c⟩, _, i⟩; exact ⟨i, b⟩
  · rintro ⟨i, b⟩
    have hb := phB_bd i
    exact ⟨⟨by omega, b, by omega⟩, ⟨(h 19 (by omega) (by omega)).2 (by omega), (h 20 (by omega) (by omega)).2 (by omega), (h 21 (by omega) (by omega)).2 (by omega), (h 22 (by omega) (by omega)).2 (by omega), (h 23 (by omega) (by omega)).2 (by omega)⟩, i⟩
end Go.Proofs.Ythnonfmaamchkaa
