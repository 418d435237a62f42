/-
  The contract of the reference's 'Check' on entries.
-/
import Derived.Test.YtibeolemelmpcaaCheck
namespace Go.Proofs.Ytibeolemelmpcaa
open Go.RowKit

/-- The addresses of the first k entries, the last one first. -/
def seenOf (l : List (Int × Int)) (k : Nat) : List Int := ((l.take k).map Prod.fst).reverse
theorem seenOf_succ {l : List (Int × Int)} {k : Nat} {x : Int × Int} (hx : l[k]? = some x) : seenOf l (k + 1) = x.1 :: seenOf l k := by
  simp [seenOf, List.take_add_one, hx]
theorem mem_seenOf {l : List (Int × Int)} {k : Nat} {y : Int} : y ∈ seenOf l k ↔ ∃ t z, t < k ∧ l[t]? = some z ∧ z.1 = y := by
  simp only [seenOf, List.mem_reverse, List.mem_map]
  constructor
  · rintro ⟨z, hz, rfl⟩
    obtain ⟨t, ht⟩ := List.mem_iff_getElem?.1 hz
    rw [List.getElem?_take] at ht
    split at ht
    · exact ⟨t, z, by assumption, ht, rfl⟩
    · cases ht
  · rintro ⟨t, z, ht, hz, rfl⟩
    exact ⟨z, List.mem_iff_getElem?.2 ⟨t, by rw [List.getElem?_take, if_pos ht]; exact hz⟩, rfl⟩

set_option maxHeartbeats 1600000 in
theorem refCheck8_any (l : List (Int × Int)) (words : Int) (A : Option Addr) (c : Nat) (w : World) (hA : Sl w A l.length c (fE l)) :
    Calls Try.prog 28 #[.slice A l.length c, .int .i64 words] w fun e w' => e = .returned (.int .i64 (chkE l words)) ∧ Drew w w' := by
  by_cases hs : sizeB words = true
  · by_cases hn : l.length ≤ 32
    · have hck : Hid (chkE l words = if okFrom words [] l then 0 else 8) := Lib.hid (by simp [chkE, hs]; intro h; omega)
      have hd : decide (32 < (l.length : Int)) = false := decide_eq_false (by omega)
      go_enter Try.func28, Try.ntmps28
      go_wp2_with (go_at_call 41; refine (refSize_any _ _).mono ?_; rintro e w' ⟨rfl, rfl⟩)
      go_loopw [5] (fun i wr => ∃ k : Nat, k ≤ l.length ∧ i = .int .i64 k ∧ okFrom words [] l = okFrom words (seenOf l k) (l.drop k) ∧ Drew w wr) (fun i _ => l.length - (intOf i).toNat)
      case atStart => exact ⟨0, Nat.zero_le _, rfl, rfl, Drew.refl w⟩
      case round =>
        obtain ⟨k, hk, rfl, hok, n, rfl⟩ := hrel
        by_cases hlt : k < l.length
        · obtain ⟨a, x, rfl, hat, g1, g2⟩ := hA.e_at hlt
          have Hstep := Lib.hid (hok.trans (okFrom_at (words := words) (S := seenOf l k) hat))
          have Hat := Lib.hid hat
          clear hok hat
          by_cases hm : mayB x.1 words = true
          · go_wp2_with (go_at_call 42; refine (refFree_any _ _ _).mono ?_; rintro e w' ⟨rfl, rfl⟩)
            go_loopw [6] (fun i wr => ∃ j : Nat, j ≤ k ∧ i = .int .i64 j ∧ x.1 ∉ seenOf l j ∧ Drew w wr) (fun i _ => k - (intOf i).toNat)
            case atStart => exact ⟨0, Nat.zero_le _, rfl, by simp [seenOf], drew_N w n⟩
            case round =>
              obtain ⟨j, hj, rfl, hnot, n2, rfl⟩ := hrel
              by_cases hlt2 : j < k
              · obtain ⟨a', y, ha', hat2, g3, g4⟩ := hA.e_at (k := j) (by omega)
                obtain rfl : a = a' := by injection ha'
                have hlt3 : j < l.length := by omega
                have Hat2 := Lib.hid hat2; have Hnot := Lib.hid hnot
                clear hat2 hnot ha'
                by_cases hxy : y.1 = x.1
                · have hb : (y.1 == x.1) = true := by simpa using hxy
                  have Hxy := Lib.hid hxy
                  clear hxy
                  go_wp2
                  go_quiet (fail)
                  go_wp2
                  go_ret
                  refine ⟨ret_int ?_, (drew_N w _).trans (drew_N _ _)⟩
                  rw [hck.out, Hstep.out]
                  have : x.1 ∈ seenOf l k := mem_seenOf.2 ⟨j, y, hlt2, Hat2.out, Hxy.out⟩
                  simp [this]
                · have hb : (y.1 == x.1) = false := by simpa using hxy
                  go_wp2
                  go_quiet (fail)
                  go_wp2
                  go_roundw
                  case rel =>
                    refine ⟨j + 1, by omega, by go_num, ?_, drew_N w _⟩
                    rw [seenOf_succ Hat2.out]
                    simp only [List.mem_cons, not_or]
                    exact ⟨fun e => hxy e.symm, Hnot.out⟩
                  case measure => simp [intOf]; omega
              · obtain rfl : j = k := by omega
                have Hnot := Lib.hid hnot
                clear hnot
                go_wp2
                go_roundw
                case rel =>
                  refine ⟨j + 1, by omega, by go_num, ?_, drew_N w _⟩
                  rw [Hstep.out, seenOf_succ Hat.out]
                  have := Hnot.out
                  simp [hm, this]
                case measure => simp [intOf]; omega
          · have hm' : mayB x.1 words = false := by simpa using hm
            go_wp2_with (go_at_call 42; refine (refFree_any _ _ _).mono ?_; rintro e w' ⟨rfl, rfl⟩)
            go_ret
            refine ⟨ret_int ?_, drew_N _ _⟩
            rw [hck.out, Hstep.out]
            simp [hm']
        · go_wp2
          go_ret
          refine ⟨ret_int ?_, drew_N _ _⟩
          rw [hck.out, hok, List.drop_eq_nil_of_le (by omega)]
          rfl
    · have hck : Hid (chkE l words = 4) := Lib.hid (by simp [chkE, hs]; intro h; omega)
      go_enter Try.func28, Try.ntmps28
      go_wp2_with (go_at_call 41; refine (refSize_any _ _).mono ?_; rintro e w' ⟨rfl, rfl⟩)
      go_ret
      exact ⟨ret_int hck.out.symm, Drew.refl w⟩
  · have hs' : sizeB words = false := by simpa using hs
    have hck : Hid (chkE l words = 2) := Lib.hid (by simp [chkE, hs'])
    go_enter Try.func28, Try.ntmps28
    go_wp2_with (go_at_call 41; refine (refSize_any _ _).mono ?_; rintro e w' ⟨rfl, rfl⟩)
    go_ret
    exact ⟨ret_int hck.out.symm, Drew.refl w⟩
end Go.Proofs.Ytibeolemelmpcaa
