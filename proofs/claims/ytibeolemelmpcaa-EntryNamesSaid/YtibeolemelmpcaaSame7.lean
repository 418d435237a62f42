/-
  The comparison of lists of entries.
-/
import Derived.Test.YtibeolemelmpcaaSame
namespace Go.Proofs.Ytibeolemelmpcaa
open Go.RowKit
set_option maxHeartbeats 400000 in
theorem same7_any (m o : List (Int × Int)) (A B : Option Addr) (c c' : Nat) (w : World) (hA : Sl w A m.length c (fE m)) (hB : Sl w B o.length c' (fE o)) :
    Calls Try.prog 20 #[.slice A m.length c, .slice B o.length c'] w fun e w' => e = .returned (.bool (decide (m = o))) ∧ Drew w w' := by
  have hm1 := hA.le
  have hm2 := hA.max
  unfold maxLen at hm2
  by_cases hl : m.length = o.length
  · go_enter Try.func20, Try.ntmps20
    have hb : ((m.length : Int) != (o.length : Int)) = false := by simp [hl]
    have H := Lib.hid hl
    clear hl
    have hne := run_neqE
    go_wp2
    go_loopw [5] (fun i wr => ∃ k : Nat, k ≤ m.length ∧ i = .int .i64 k ∧ m.take k = o.take k ∧ Drew w wr) (fun i _ => m.length - (intOf i).toNat)
    case atStart => exact ⟨0, Nat.zero_le _, rfl, rfl, Drew.refl w⟩
    case round =>
      obtain ⟨k, hk, rfl, hh, n, rfl⟩ := hrel
      by_cases hlt : k < m.length
      · obtain ⟨a, x, rfl, hx, g1, g2⟩ := hA.e_at hlt
        obtain ⟨b, y, rfl, hy, g3, g4⟩ := hB.e_at (k := k) (by have := H.out; omega)
        have hlt2 : k < o.length := by have := H.out; omega
        have Hx := Lib.hid hx; have Hy := Lib.hid hy; have Hh := Lib.hid hh
        clear hx hy hA hB hh
        by_cases hxy : x = y
        · subst hxy
          have hse := neE_self x
          go_wp2
          go_quiet (fail)
          go_wp2
          go_roundw
          case rel => exact ⟨k + 1, by omega, by go_num, take_eq_snoc Hh.out Hx.out Hy.out, drew_N w _⟩
          case measure => simp [intOf]; omega
        · have hxy' := neE_of hxy
          go_wp2
          go_quiet (fail)
          go_wp2
          go_ret
          exact ⟨ret_bool (decide_eq_false (ne_of_at Hx.out Hy.out hxy)).symm, (drew_N w _).trans (drew_N _ _)⟩
      · go_wp2
        go_ret
        exact ⟨ret_bool (decide_eq_true (eq_of_take hh (by omega) (by have := H.out; omega))).symm, drew_N w _⟩
  · have hb : ((m.length : Int) != (o.length : Int)) = true := by simp; omega
    have hd : decide (m = o) = false := decide_eq_false (fun e => hl (by rw [e]))
    clear hA hB
    go_enter Try.func20, Try.ntmps20
    go_wp2
    go_ret
    exact ⟨ret_bool hd.symm, Drew.refl w⟩
theorem same7_yes (m o : List (Int × Int)) (h : m = o) (A B : Option Addr) (c c' : Nat) (w : World) (hA : Sl w A m.length c (fE m)) (hB : Sl w B o.length c' (fE o)) :
    Calls Try.prog 20 #[.slice A m.length c, .slice B o.length c'] w fun e w' => e = .returned (.bool true) ∧ Drew w w' :=
  (same7_any m o A B c c' w hA hB).mono fun _ _ ⟨a, b⟩ => ⟨by rw [a, decide_eq_true h], b⟩
theorem same7_no (m o : List (Int × Int)) (h : m ≠ o) (A B : Option Addr) (c c' : Nat) (w : World) (hA : Sl w A m.length c (fE m)) (hB : Sl w B o.length c' (fE o)) :
    Calls Try.prog 20 #[.slice A m.length c, .slice B o.length c'] w fun e w' => e = .returned (.bool false) ∧ Drew w w' :=
  (same7_any m o A B c c' w hA hB).mono fun _ _ ⟨a, b⟩ => ⟨by rw [a, decide_eq_false h], b⟩
end Go.Proofs.Ytibeolemelmpcaa
