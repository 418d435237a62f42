/-
  The contracts of the copies of lists.
-/
import Derived.Test.YtibeolemelmpcaaSame
namespace Go.Proofs.Ytibeolemelmpcaa
open Go.RowKit

set_option maxHeartbeats 400000 in
theorem twin8_any (l : List (Int × Int)) (A : Option Addr) (c : Nat) (w : World) (hA : Sl w A l.length c (fE l)) (hl : l.length ≤ 100000) :
    Calls Try.prog 12 #[.slice A l.length c] w (RetOwn w 56 2 l.length (fE l)) := by
  go_enter Try.func12, Try.ntmps12
  go_wp2_with (at_builtin; refine wpList_app EE rfl (.tmp 3) (.tmp 4) rfl rfl (own_lit (w := w) (base := w.heap.size) (e := 56) (size := 2) #[] _ 0 (by simp) (Nat.le_refl _) (by decide) rfl) rfl (hA.alloc _) (fE_length l) (fE_one l) (by omega) (by simp) ?_; intro v' w' hown' hbel hat hgr)
  go_ret
  have h : w'.ownsRow w.heap.size 56 2 v' l.length (fE l) := by simpa using hown'
  exact retOwn_mk h (Below.trans ((Ext.refl w).alloc _) hbel)
set_option maxHeartbeats 400000 in
theorem twin2_any (m : List Int) (A : Option Addr) (c : Nat) (w : World) (hA : Sl w A m.length c (fU m)) (hl : m.length ≤ 100000) :
    Calls Try.prog 22 #[.slice A m.length c] w (RetOwn w 23 1 m.length (fU m)) := by
  go_enter Try.func22, Try.ntmps22
  go_wp2_with (at_builtin; refine wpList_app EU rfl (.tmp 3) (.tmp 4) rfl rfl (own_lit (w := w) (base := w.heap.size) (e := 23) (size := 1) #[] _ 0 (by simp) (Nat.le_refl _) (by decide) rfl) rfl (hA.alloc _) (by simp) (fU_one m) (by omega) (by simp) ?_; intro v' w' hown' hbel hat hgr)
  go_ret
  have h : w'.ownsRow w.heap.size 23 1 v' m.length (fU m) := by simpa using hown'
  exact retOwn_mk h (Below.trans ((Ext.refl w).alloc _) hbel)
theorem eql_nil_U (w : World) (A : Option Addr) (n c : Nat) : (binOp .eql 35 (.slice A n c) (.slice none 0 0)).run Try.prog w = .ok (.bool A.isNone) w :=
  Lib.run_eql_slice_nil w _ _ _ _ _ _ _ Try.underlying35
/-- A copy of a list of words: nil stays nil, whatever else is of the call's own. -/
theorem cloneU_any (m : List Int) (A : Option Addr) (c : Nat) (w : World) (hA : Sl w A m.length c (fU m)) (hl : m.length ≤ 100000) :
    Calls Try.prog 50 #[.slice A m.length c] w (RetOwn w 23 1 m.length (fU m)) := by
  have hq := eql_nil_U
  rcases A with _ | ad
  · have hc := hA.nil rfl
    have hm : m = [] := List.eq_nil_of_length_eq_zero (by have := hA.le; omega)
    subst hm
    go_enter Try.func50, Try.ntmps50
    go_wp2
    go_ret
    exact retOwn_mk (own_nil _ _ _ _) (Ext.refl w)
  · go_enter Try.func50, Try.ntmps50
    go_wp2_with (at_builtin; refine wpList_app EU rfl (.tmp 5) (.tmp 6) rfl rfl (own_lit (w := w) (base := w.heap.size) (e := 23) (size := 1) #[] _ 0 (by simp) (Nat.le_refl _) (by decide) rfl) rfl (hA.alloc _) (by simp) (fU_one m) (by omega) (by simp) ?_; intro v' w' hown' hbel hat hgr)
    go_ret
    have h : w'.ownsRow w.heap.size 23 1 v' m.length (fU m) := by simpa using hown'
    exact retOwn_mk h (Below.trans ((Ext.refl w).alloc _) hbel)
end Go.Proofs.Ytibeolemelmpcaa
