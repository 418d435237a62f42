/-
  Superblocks twice: reading and healing an image.
-/
import Derived.Test.YtmkcpnklaijkfaaSup
import Derived.Test.YtmkcpnklaijkfaaGA
namespace Go.Proofs.Ytmkcpnklaijkfaa
open Go.RowKit
/-- Is the copy at k right, of an image of so many words? -/
def rtS (m : List Int) (k : Nat) : Bool := rdS (m.getD k 0) (m.getD (k + 1) 0) (m.getD (k + 2) 0) (m.getD (k + 3) 0) (m.getD (k + 4) 0) (m.getD (k + 5) 0) (m.getD (k + 6) 0) (m.getD (k + 7) 0)
def rtB (m : List Int) (k : Nat) : Bool := rtS m k && m.getD (k + 2) 0 == m.length
/-- What is read there. -/
def fnS (m : List Int) (k i : Nat) : Int := if rtS m k then m.getD (k + i) 0 else 0
theorem take8 {m : List Int} {k : Nat} (h : k + 8 ≤ m.length) : (m.drop k).take 8 = [m.getD k 0, m.getD (k + 1) 0, m.getD (k + 2) 0, m.getD (k + 3) 0, m.getD (k + 4) 0, m.getD (k + 5) 0, m.getD (k + 6) 0, m.getD (k + 7) 0] := by
  apply List.ext_getElem?
  intro i
  rw [List.getElem?_take]
  split
  · rename_i hi
    rw [List.getElem?_drop, List.getElem?_eq_getElem (by omega)]
    rcases (by omega : i = 0 ∨ i = 1 ∨ i = 2 ∨ i = 3 ∨ i = 4 ∨ i = 5 ∨ i = 6 ∨ i = 7) with rfl | rfl | rfl | rfl | rfl | rfl | rfl | rfl
    all_goals simp [List.getD, List.getElem?_eq_getElem (show k + 7 < m.length by omega), List.getElem?_eq_getElem (show k + 6 < m.length by omega), List.getElem?_eq_getElem (show k + 5 < m.length by omega), List.getElem?_eq_getElem (show k + 4 < m.length by omega), List.getElem?_eq_getElem (show k + 3 < m.length by omega), List.getElem?_eq_getElem (show k + 2 < m.length by omega), List.getElem?_eq_getElem (show k + 1 < m.length by omega), List.getElem?_eq_getElem (show k < m.length by omega)]
  · rw [List.getElem?_eq_none (by simp; omega)]
theorem twStarts_any (w : World) : Calls Try.prog 80 #[] w fun e w' => e = .returned (.agg #[.int .i64 0, .int .i64 8]) ∧ Ext w w' := by
  go_enter Try.func80, Try.ntmps80
  go_wp2_with fail
  exact bodyPost_ret (v := .agg #[.int .i64 0, .int .i64 8]) (by simp [results, Try.results80, go_sem]) rfl ⟨rfl, (Ext.refl w).alloc _⟩
/-- Reading the copy at 0 and the one at 8. -/
theorem rd_at0 (m : List Int) (hl : 16 ≤ m.length) (A : Option Addr) (c : Nat) (w : World) (hA : Sl w A m.length c (fU m)) :
    Calls Try.prog 34 #[.slice A 8 c] w fun e w' => e = .returned (.tuple #[.agg #[.int .i64 (fnS m 0 2), .int .i64 (fnS m 0 3)], .int .i64 (if rtS m 0 then 0 else 50)]) ∧ Ext w w' := by
  have h := Sl.pre (k := 8) (size := 1) hA (by omega)
  have e := take8 (m := m) (k := 0) (by omega)
  rw [show (fU m).take (8 * 1) = fU (m.take 8) from (fU_take m 8).symm, show m.take 8 = (m.drop 0).take 8 from by simp, e] at h
  refine (supRead_any _ _ _ _ _ _ _ _ A c w h).mono ?_
  rintro en w' ⟨⟨hr, rfl⟩ | ⟨hr, rfl⟩, hx⟩
  · exact ⟨by simp [fnS, show rtS m 0 = true from hr], hx⟩
  · exact ⟨by simp [fnS, show rtS m 0 = false from hr], hx⟩
theorem rd_at8 (m : List Int) (hl : 16 ≤ m.length) (A : Option Addr) (c : Nat) (w : World) (hA : Sl w A m.length c (fU m)) :
    Calls Try.prog 34 #[.slice (if c = 8 then A else A.map (·.add (8 * 1))) 8 (c - 8)] w fun e w' => e = .returned (.tuple #[.agg #[.int .i64 (fnS m 8 2), .int .i64 (fnS m 8 3)], .int .i64 (if rtS m 8 then 0 else 50)]) ∧ Ext w w' := by
  have h := Sl.pre (k := 8) (size := 1) (Sl.u_drop hA (k := 8) (by omega)) (by simp; omega)
  have e := take8 (m := m) (k := 8) (by omega)
  rw [show (fU (m.drop 8)).take (8 * 1) = fU ((m.drop 8).take 8) from (fU_take _ 8).symm, e] at h
  refine (supRead_any _ _ _ _ _ _ _ _ _ _ w h).mono ?_
  rintro en w' ⟨⟨hr, rfl⟩ | ⟨hr, rfl⟩, hx⟩
  · exact ⟨by simp [fnS, show rtS m 8 = true from hr], hx⟩
  · exact ⟨by simp [fnS, show rtS m 8 = false from hr], hx⟩
end Go.Proofs.Ytmkcpnklaijkfaa
