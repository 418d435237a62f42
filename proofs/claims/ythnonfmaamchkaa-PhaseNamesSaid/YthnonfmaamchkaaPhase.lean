/-
  Contracts of the phase's checks, and of what writes its entries.
-/
import Derived.Test.YthnonfmaamchkaaSame
import Derived.Deep.Light
namespace Go.Proofs.Ythnonfmaamchkaa
open Go.RowKit

theorem land1 (n : Int) (h0 : 128 ≤ n) (h1 : n ≤ 2048) : bits BinOp.and IntKind.i64 n 1 = n % 2 := by
  obtain ⟨k, rfl⟩ := Int.eq_ofNat_of_zero_le (show 0 ≤ n by omega)
  have h : BitVec.ofInt 64 ((k : Int)) = BitVec.ofNat 64 k := by simp
  show IntKind.i64.wrap ((BitVec.ofInt 64 (k : Int) &&& BitVec.ofInt 64 (1 : Int)).toNat : Int) = _
  rw [h, show BitVec.ofInt 64 (1 : Int) = BitVec.ofNat 64 1 from by simp, BitVec.toNat_and, BitVec.toNat_ofNat, BitVec.toNat_ofNat, Nat.mod_eq_of_lt (a := k) (by omega), Nat.mod_eq_of_lt (a := 1) (by omega), Nat.and_one_is_mod, IntKind.wrap_i64]
  omega
theorem phB_bd {a b c : Int} (h : phB a b c = true) : 0 ≤ a ∧ a ≤ 4 ∧ 0 ≤ b ∧ b ≤ 2048 ∧ 0 ≤ c ∧ c ≤ b := by
  unfold phB curB at h
  split at h
  · simp at h; omega
  · split at h
    · simp at h
    · split at h
      · simp at h; omega
      · simp at h; omega
/-- The entries of a phase. -/
def phL (a b c : Int) : List (Int × Int) := [(16, a), (17, b), (18, c)]

set_option maxHeartbeats 400000 in
theorem inHeap_any (n : Int) (w : World) :
    Calls Try.prog 46 #[.int .i64 n] w fun e w' => e = .returned (.bool (curB n)) ∧ w = w' := by
  by_cases h0 : 128 ≤ n
  · by_cases h1 : n ≤ 2048
    · have hl := land1 n h0 h1
      go_enter Try.func46, Try.ntmps46
      go_wp2
      go_ret
      exact ⟨ret_bool (by simp [curB, h0, h1]; rfl), rfl⟩
    · go_enter Try.func46, Try.ntmps46
      go_wp2
      go_ret
      exact ⟨ret_bool (by simp [curB]; omega), rfl⟩
  · go_enter Try.func46, Try.ntmps46
    go_wp2
    go_ret
    exact ⟨ret_bool (by simp [curB]; omega), rfl⟩
set_option maxHeartbeats 400000 in
theorem refCursor_any (n : Int) (w : World) :
    Calls Try.prog 63 #[.int .i64 n] w fun e w' => e = .returned (.bool (curB n)) ∧ w = w' := by
  go_enter Try.func63, Try.ntmps63
  go_wp2
  all_goals go_ret
  all_goals refine ⟨ret_bool (Bool.eq_iff_iff.2 ?_), rfl⟩
  all_goals simp [curB]
  all_goals omega
set_option maxHeartbeats 800000 in
theorem phCheck_any (a b c : Int) (w : World) :
    Calls Try.prog 16 #[.agg #[.int .i64 a, .int .i64 b, .int .i64 c]] w fun e w' => e = .returned (.int .i64 (phE a b c)) ∧ Ext w w' := by
  go_enter Try.func16, Try.ntmps16
  go_wp2_with (go_at_call 46; refine (inHeap_any _ _).mono ?_; rintro e w' ⟨rfl, rfl⟩)
  all_goals go_ret
  all_goals refine ⟨ret_int ?_, (Ext.refl w).alloc _⟩
  all_goals go_light
  all_goals simp_all [phE, phB]
  all_goals omega
set_option maxHeartbeats 800000 in
theorem refValid_any (a b c : Int) (w : World) :
    Calls Try.prog 55 #[.agg #[.int .i64 a, .int .i64 b, .int .i64 c]] w fun e w' => e = .returned (.bool (phB a b c)) ∧ Ext w w' := by
  go_enter Try.func55, Try.ntmps55
  go_wp2_with (go_at_call 63; refine (refCursor_any _ _).mono ?_; rintro e w' ⟨rfl, rfl⟩)
  all_goals go_ret
  all_goals refine ⟨ret_bool ?_, (Ext.refl w).alloc _⟩
  all_goals go_light
  all_goals simp_all [phB]
  all_goals first | rfl | omega
set_option maxHeartbeats 400000 in
theorem refCheck11_any (a b c : Int) (w : World) :
    Calls Try.prog 38 #[.agg #[.int .i64 a, .int .i64 b, .int .i64 c]] w fun e w' => e = .returned (.int .i64 (phE a b c)) ∧ Ext w w' := by
  go_enter Try.func38, Try.ntmps38
  go_wp2_with (go_at_call 55; refine (refValid_any _ _ _ _).mono ?_; rintro e w' ⟨rfl, hx⟩)
  all_goals go_ret
  all_goals refine ⟨ret_int ?_, ((Ext.refl w).alloc _).trans hx⟩
  all_goals simp_all [phE]

set_option maxHeartbeats 400000 in
theorem phWords_any (a b c : Int) (w : World) (h : phB a b c = true) :
    Calls Try.prog 45 #[.agg #[.int .i64 a, .int .i64 b, .int .i64 c]] w fun e w' => e = .returned (.agg #[.int .u64 a, .int .u64 b, .int .u64 c]) ∧ Ext w w' := by
  obtain ⟨h1, h2, h3, h4, h5, h6⟩ := phB_bd h
  clear h
  go_enter Try.func45, Try.ntmps45
  go_wp2
  exact bodyPost_ret (v := .agg #[.int .u64 a, .int .u64 b, .int .u64 c]) (by simp [results, Try.results45, go_sem]) rfl ⟨rfl, ((Ext.refl w).alloc _).alloc _⟩
set_option maxHeartbeats 400000 in
theorem refEntries_any (a b c : Int) (w : World) (h : phB a b c = true) :
    Calls Try.prog 56 #[.agg #[.int .i64 a, .int .i64 b, .int .i64 c]] w (RetOwn w 33 2 3 (fE (phL a b c))) := by
  obtain ⟨h1, h2, h3, h4, h5, h6⟩ := phB_bd h
  clear h
  go_enter Try.func56, Try.ntmps56
  go_wp2
  go_ret
  exact retOwn_mk (own_lit _ _ _ (by simp) (by simp) (by decide) (by simp)) (((Ext.refl w).alloc _).alloc _)
set_option maxHeartbeats 400000 in
theorem refWrite_ok (a b c : Int) (w : World) (h : phB a b c = true) :
    Calls Try.prog 35 #[.agg #[.int .i64 a, .int .i64 b, .int .i64 c]] w (RetOwn2 w 33 2 3 (fE (phL a b c)) 0) := by
  have H := Lib.hid h
  go_enter Try.func35, Try.ntmps35
  go_wp2_with (first | (go_at_call 55; refine (refValid_any _ _ _ _).mono ?_; rintro e w1 ⟨rfl, hx⟩; obtain ⟨hc, hf⟩ := hx.bcell) | (go_at_call 56; refine (refEntries_any _ _ _ _ H.out).mono ?_; rintro e w2 ⟨A, c, rfl, hown, hsl, hx2⟩))
  go_ret2
  exact ⟨_, _, rfl, own_base hown (by have := hx.size; simp at this; omega), hsl, (((Ext.refl w).alloc _).trans hx).trans hx2⟩
set_option maxHeartbeats 400000 in
theorem refWrite_bad (a b c : Int) (w : World) (h : phB a b c = false) :
    Calls Try.prog 35 #[.agg #[.int .i64 a, .int .i64 b, .int .i64 c]] w fun e w' => e = .returned (.tuple #[.slice none 0 0, .int .i64 8]) ∧ Ext w w' := by
  go_enter Try.func35, Try.ntmps35
  go_wp2_with (go_at_call 55; refine (refValid_any _ _ _ _).mono ?_; rintro e w1 ⟨rfl, hx⟩)
  go_ret2
  exact ⟨rfl, ((Ext.refl w).alloc _).trans hx⟩

set_option maxHeartbeats 400000 in
theorem phWrite_bad (a b c : Int) (w : World) (h : phB a b c = false) :
    Calls Try.prog 15 #[.agg #[.int .i64 a, .int .i64 b, .int .i64 c]] w fun e w' => e = .returned (.tuple #[.slice none 0 0, .int .i64 8]) ∧ Ext w w' := by
  have he : phE a b c = 8 := by simp [phE, h]
  go_enter Try.func15, Try.ntmps15
  go_wp2_with (go_at_call 16; refine (phCheck_any _ _ _ _).mono ?_; rintro e w1 ⟨rfl, hx⟩)
  go_ret2
  exact ⟨rfl, ((Ext.refl w).alloc _).trans hx⟩
end Go.Proofs.Ythnonfmaamchkaa
