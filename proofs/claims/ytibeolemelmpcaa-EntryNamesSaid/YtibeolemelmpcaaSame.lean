/-
  Contracts of the comparisons of lists and of the copies.
-/
import Derived.Test.YtibeolemelmpcaaLeaf
namespace Go.Proofs.Ytibeolemelmpcaa
open Go.RowKit

theorem take_eq_snoc {α : Type} {m o : List α} {k : Nat} {x : α} (h : m.take k = o.take k) (hx : m[k]? = some x) (hy : o[k]? = some x) : m.take (k + 1) = o.take (k + 1) := by
  rw [List.take_add_one, List.take_add_one, h, hx, hy]
theorem ne_of_at {α : Type} {m o : List α} {k : Nat} {x y : α} (hx : m[k]? = some x) (hy : o[k]? = some y) (h : x ≠ y) : m ≠ o := by
  rintro rfl
  rw [hx] at hy
  exact h (Option.some.inj hy)
theorem eq_of_take {α : Type} {m o : List α} {k : Nat} (h : m.take k = o.take k) (hm : m.length ≤ k) (ho : o.length ≤ k) : m = o := by
  rw [List.take_of_length_le hm, List.take_of_length_le ho] at h
  exact h

set_option maxHeartbeats 400000 in
theorem same2_any (m o : List Int) (A B : Option Addr) (c c' : Nat) (w : World) (hA : Sl w A m.length c (fU m)) (hB : Sl w B o.length c' (fU o)) :
    Calls Try.prog 19 #[.slice A m.length c, .slice B o.length c'] w fun e w' => e = .returned (.bool (decide (m = o))) ∧ Drew w w' := by
  have hm1 := hA.le
  have hm2 := hA.max
  unfold maxLen at hm2
  by_cases hl : m.length = o.length
  · go_enter Try.func19, Try.ntmps19
    have hb : ((m.length : Int) != (o.length : Int)) = false := by simp [hl]
    have H := Lib.hid hl
    clear hl
    go_wp2
    go_loopw [5] (fun i wr => ∃ k : Nat, k ≤ m.length ∧ i = .int .i64 k ∧ m.take k = o.take k ∧ Drew w wr) (fun i _ => m.length - (intOf i).toNat)
    case atStart => exact ⟨0, Nat.zero_le _, rfl, rfl, Drew.refl w⟩
    case round =>
      obtain ⟨k, hk, rfl, hh, n, rfl⟩ := hrel
      by_cases hlt : k < m.length
      · obtain ⟨a, x, rfl, hx, g1⟩ := hA.u_at hlt
        obtain ⟨b, y, rfl, hy, g2⟩ := hB.u_at (k := k) (by have := H.out; omega)
        have hlt2 : k < o.length := by have := H.out; omega
        have Hx := Lib.hid hx; have Hy := Lib.hid hy; have Hh := Lib.hid hh
        clear hx hy hA hB hh
        by_cases hxy : x = y
        · subst hxy
          go_wp2
          go_quiet (fail)
          go_wp2
          go_roundw
          case rel => exact ⟨k + 1, by omega, by go_num, take_eq_snoc Hh.out Hx.out Hy.out, drew_N w _⟩
          case measure => simp [intOf]; omega
        · go_wp2
          go_quiet (fail)
          have hxy' : (x != y) = true := by simpa using hxy
          go_wp2
          go_ret
          exact ⟨ret_bool (decide_eq_false (ne_of_at Hx.out Hy.out hxy)).symm, (drew_N w _).trans (drew_N _ _)⟩
      · go_wp2
        go_ret
        exact ⟨ret_bool (decide_eq_true (eq_of_take hh (by omega) (by have := H.out; omega))).symm, drew_N w _⟩
  · have hb : ((m.length : Int) != (o.length : Int)) = true := by simp; omega
    have hd : decide (m = o) = false := decide_eq_false (fun e => hl (by rw [e]))
    clear hA hB
    go_enter Try.func19, Try.ntmps19
    go_wp2
    go_ret
    exact ⟨ret_bool hd.symm, Drew.refl w⟩
theorem same2_yes (m o : List Int) (h : m = o) (A B : Option Addr) (c c' : Nat) (w : World) (hA : Sl w A m.length c (fU m)) (hB : Sl w B o.length c' (fU o)) :
    Calls Try.prog 19 #[.slice A m.length c, .slice B o.length c'] w fun e w' => e = .returned (.bool true) ∧ Drew w w' :=
  (same2_any m o A B c c' w hA hB).mono fun _ _ ⟨a, b⟩ => ⟨by rw [a, decide_eq_true h], b⟩
theorem same2_no (m o : List Int) (h : m ≠ o) (A B : Option Addr) (c c' : Nat) (w : World) (hA : Sl w A m.length c (fU m)) (hB : Sl w B o.length c' (fU o)) :
    Calls Try.prog 19 #[.slice A m.length c, .slice B o.length c'] w fun e w' => e = .returned (.bool false) ∧ Drew w w' :=
  (same2_any m o A B c c' w hA hB).mono fun _ _ ⟨a, b⟩ => ⟨by rw [a, decide_eq_false h], b⟩
end Go.Proofs.Ytibeolemelmpcaa
