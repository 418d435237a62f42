/-
  The contract of what writes a phase's entries.
-/
import Derived.Test.YthnonfmaamchkaaPhase
namespace Go.Proofs.Ythnonfmaamchkaa
open Go.RowKit
theorem idx3 (x0 x1 x2 : Value) : (∀ w, (Instr.index 80 (.agg #[x0, x1, x2]) (.int .i64 0)).run Try.prog w = .ok x0 w) ∧ (∀ w, (Instr.index 80 (.agg #[x0, x1, x2]) (.int .i64 1)).run Try.prog w = .ok x1 w) ∧
    (∀ w, (Instr.index 80 (.agg #[x0, x1, x2]) (.int .i64 2)).run Try.prog w = .ok x2 w) :=
  ⟨fun _ => by kernel_rfl, fun _ => by kernel_rfl, fun _ => by kernel_rfl⟩
set_option maxHeartbeats 400000 in
theorem phWrite_ok (a b c : Int) (w : World) (h : phB a b c = true) :
    Calls Try.prog 15 #[.agg #[.int .i64 a, .int .i64 b, .int .i64 c]] w (RetOwn2 w 33 2 3 (fE (phL a b c)) 0) := by
  have he : phE a b c = 0 := by simp [phE, h]
  have H := Lib.hid h
  go_enter Try.func15, Try.ntmps15
  go_wp2_with (first | (go_at_call 16; refine (phCheck_any _ _ _ _).mono ?_; rintro e w1 ⟨rfl, hx⟩; obtain ⟨hc, hf⟩ := hx.bcell) | (go_at_call 45; refine (phWords_any _ _ _ _ H.out).mono ?_; rintro e w2 ⟨rfl, hx2⟩))
  have hX : Ext w w2 := (((Ext.refl w).alloc _).trans hx).trans hx2
  clear hc hf hx hx2
  go_loopw [5, 15] (fun v i wr => ∃ k : Nat, k ≤ 3 ∧ i = .int .i64 k ∧ wr.ownsRow w.heap.size 33 2 v k (fE ((phL a b c).take k)) ∧ Ext w wr) (fun _ i _ => 3 - (intOf i).toNat)
  case atStart => exact ⟨0, by omega, rfl, own_nil _ _ _ _, hX⟩
  case round =>
    obtain ⟨k, hk, rfl, hown, hXr⟩ := hrel
    obtain ⟨i0, i1, i2⟩ := idx3 (.int .u64 a) (.int .u64 b) (.int .u64 c)
    have hsz := hXr.size
    rcases (by omega : k = 0 ∨ k = 1 ∨ k = 2 ∨ k = 3) with rfl | rfl | rfl | rfl
    · go_wp2_with (at_builtin; refine wpList_app EE rfl (.tmp 19) (.tmp 24) rfl rfl (hown.alloc _) rfl (Sl.lit' _ _ _ _ rfl (by decide)) rfl (fE_one [(16, a)]) (by decide) (by simp; omega) ?_; intro v' w' hown' hbel hat hgr)
      go_roundw
      case rel => exact ⟨1, by omega, by go_num, hown', Below.trans (hXr.alloc _) hbel⟩
      case measure => simp [intOf]
    · go_wp2_with (at_builtin; refine wpList_app EE rfl (.tmp 19) (.tmp 24) rfl rfl (hown.alloc _) rfl (Sl.lit' _ _ _ _ rfl (by decide)) rfl (fE_one [(17, b)]) (by decide) (by simp; omega) ?_; intro v' w' hown' hbel hat hgr)
      go_roundw
      case rel => exact ⟨2, by omega, by go_num, hown', Below.trans (hXr.alloc _) hbel⟩
      case measure => simp [intOf]
    · go_wp2_with (at_builtin; refine wpList_app EE rfl (.tmp 19) (.tmp 24) rfl rfl (hown.alloc _) rfl (Sl.lit' _ _ _ _ rfl (by decide)) rfl (fE_one [(18, c)]) (by decide) (by simp; omega) ?_; intro v' w' hown' hbel hat hgr)
      go_roundw
      case rel => exact ⟨3, by omega, by go_num, hown', Below.trans (hXr.alloc _) hbel⟩
      case measure => simp [intOf]
    · go_wp2
      go_ret2
      exact retOwn2_mk hown hXr
/-- What 'Write' gives: the entries of a valid phase; else the error 8. -/
def PhW (w : World) (T : Nat) (a b c : Int) (en : Ending) (w' : World) : Prop :=
  (phB a b c = true ∧ RetOwn2 w T 2 3 (fE (phL a b c)) 0 en w') ∨ (phB a b c = false ∧ en = .returned (.tuple #[.slice none 0 0, .int .i64 8]) ∧ Ext w w')
theorem phWrite_any (a b c : Int) (w : World) :
    Calls Try.prog 15 #[.agg #[.int .i64 a, .int .i64 b, .int .i64 c]] w (PhW w 33 a b c) := by
  cases h : phB a b c with
  | true => exact (phWrite_ok a b c w h).mono fun _ _ x => .inl ⟨h, x⟩
  | false => exact (phWrite_bad a b c w h).mono fun _ _ x => .inr ⟨h, x⟩
theorem refWrite_any (a b c : Int) (w : World) :
    Calls Try.prog 35 #[.agg #[.int .i64 a, .int .i64 b, .int .i64 c]] w (PhW w 33 a b c) := by
  cases h : phB a b c with
  | true => exact (refWrite_ok a b c w h).mono fun _ _ x => .inl ⟨h, x⟩
  | false => exact (refWrite_bad a b c w h).mono fun _ _ x => .inr ⟨h, x⟩
end Go.Proofs.Ythnonfmaamchkaa
