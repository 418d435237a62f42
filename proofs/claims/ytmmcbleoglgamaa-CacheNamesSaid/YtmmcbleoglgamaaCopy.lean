/-
  The contracts of the copies of lists.
-/
import Derived.Test.YtmmcbleoglgamaaSame
namespace Go.Proofs.Ytmmcbleoglgamaa
open Go.RowKit

set_option maxHeartbeats 400000 in
theorem twin2_any (m : List Int) (A : Option Addr) (c : Nat) (w : World) (hA : Sl w A m.length c (fU m)) (hl : m.length ≤ 100000) :
    Calls Try.prog 49 #[.slice A m.length c] w (RetOwn w 26 1 m.length (fU m)) := by
  go_enter Try.func49, Try.ntmps49
  go_wp2_with (at_builtin; refine wpList_app EU rfl (.tmp 3) (.tmp 4) rfl rfl (own_lit (w := w) (base := w.heap.size) (e := 26) (size := 1) #[] _ 0 (by simp) (Nat.le_refl _) (by decide) rfl) rfl (hA.alloc _) (by simp) (fU_one m) (by omega) (by simp) ?_; intro v' w' hown' hbel hat hgr)
  go_ret
  have h : w'.ownsRow w.heap.size 26 1 v' m.length (fU m) := by simpa using hown'
  exact retOwn_mk h (Below.trans ((Ext.refl w).alloc _) hbel)
theorem eql_nil_U (w : World) (A : Option Addr) (n c : Nat) : (binOp .eql 22 (.slice A n c) (.slice none 0 0)).run Try.prog w = .ok (.bool A.isNone) w :=
  Lib.run_eql_slice_nil w _ _ _ _ _ _ _ Try.underlying22
/-- A copy of a list of words: nil stays nil, whatever else is of the call's own. -/
theorem cloneU_any (m : List Int) (A : Option Addr) (c : Nat) (w : World) (hA : Sl w A m.length c (fU m)) (hl : m.length ≤ 100000) :
    Calls Try.prog 46 #[.slice A m.length c] w (RetOwn w 26 1 m.length (fU m)) := by
  have hq := eql_nil_U
  rcases A with _ | ad
  · have hc := hA.nil rfl
    have hm : m = [] := List.eq_nil_of_length_eq_zero (by have := hA.le; omega)
    subst hm
    go_enter Try.func46, Try.ntmps46
    go_wp2
    go_ret
    exact retOwn_mk (own_nil _ _ _ _) (Ext.refl w)
  · go_enter Try.func46, Try.ntmps46
    go_wp2_with (at_builtin; refine wpList_app EU rfl (.tmp 5) (.tmp 6) rfl rfl (own_lit (w := w) (base := w.heap.size) (e := 26) (size := 1) #[] _ 0 (by simp) (Nat.le_refl _) (by decide) rfl) rfl (hA.alloc _) (by simp) (fU_one m) (by omega) (by simp) ?_; intro v' w' hown' hbel hat hgr)
    go_ret
    have h : w'.ownsRow w.heap.size 26 1 v' m.length (fU m) := by simpa using hown'
    exact retOwn_mk h (Below.trans ((Ext.refl w).alloc _) hbel)
end Go.Proofs.Ytmmcbleoglgamaa
