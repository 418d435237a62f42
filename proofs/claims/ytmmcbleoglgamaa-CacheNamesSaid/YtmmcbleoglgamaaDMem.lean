/-
  Dirty words in memory: cuts, stores into a row of the call's own, and copies.
-/
import Derived.Test.YtmmcbleoglgamaaCopy
import Derived.Test.YtmmcbleoglgamaaDev2
namespace Go.Proofs.Ytmmcbleoglgamaa
open Go.RowKit
theorem fD_take (l : List Dw) (k : Nat) : fD (l.take k) = (fD l).take (k * 3) := by
  induction l generalizing k with
  | nil => simp [fD]
  | cons e l ih =>
    cases k with
    | zero => simp [fD]
    | succ k => rw [show (k + 1) * 3 = k * 3 + 1 + 1 + 1 from by omega]; simp [fD, ih]
theorem fD_drop (l : List Dw) (k : Nat) : fD (l.drop k) = (fD l).drop (k * 3) := by
  induction l generalizing k with
  | nil => simp [fD]
  | cons e l ih =>
    cases k with
    | zero => simp
    | succ k => rw [show (k + 1) * 3 = k * 3 + 1 + 1 + 1 from by omega]; simp [fD, ih]
/-- The dirty word at an index, in the walk's spelling of addresses. -/
theorem Sl.d_at' {w : World} {A : Option Addr} {n c : Nat} {l : List Dw} (h : Sl w A n c (fD l)) {k : Nat} (hk : k < l.length) :
    ∃ ad x, A = some ad ∧ l[k]? = some x ∧ w.cell? (ad.add (k * 3)) = some (.int .i64 x.1) ∧ w.cell? ⟨(ad.add (k * 3)).block, (ad.add (k * 3)).off + 1, none⟩ = some (.int .u64 x.2.1) ∧ w.cell? ⟨(ad.add (k * 3)).block, (ad.add (k * 3)).off + 2, none⟩ = some (.bool x.2.2) := h.d_at hk
theorem retOwn_ext {w0 w' w'' : World} {e : TypeId} {size n : Nat} {xs : List Value} {A : Option Addr} {c : Nat} (h : w'.ownsRow w0.heap.size e size (.slice A n c) n xs) (x : Ext w' w'') : w''.ownsRow w0.heap.size e size (.slice A n c) n xs := own_ext h x
theorem eql_nil_D (w : World) (A : Option Addr) (n c : Nat) : (binOp .eql 23 (.slice A n c) (.slice none 0 0)).run Try.prog w = .ok (.bool A.isNone) w :=
  Lib.run_eql_slice_nil w _ _ _ _ _ _ _ Try.underlying23
/-- A copy of a list of dirty words: nil stays nil, whatever else is of the call's own. -/
theorem cloneD_any (q : List Dw) (A : Option Addr) (c : Nat) (w : World) (hA : Sl w A q.length c (fD q)) (hl : q.length ≤ 100000) :
    Calls Try.prog 48 #[.slice A q.length c] w (RetOwn w 44 3 q.length (fD q)) := by
  have hq := eql_nil_D
  rcases A with _ | ad
  · have hc := hA.nil rfl
    have hm : q = [] := List.eq_nil_of_length_eq_zero (by have := hA.le; omega)
    subst hm
    go_enter Try.func48, Try.ntmps48
    go_wp2
    go_ret
    exact retOwn_mk (own_nil _ _ _ _) (Ext.refl w)
  · go_enter Try.func48, Try.ntmps48
    go_wp2_with (at_builtin; refine wpList_app ED rfl (.tmp 5) (.tmp 6) rfl rfl (own_lit (w := w) (base := w.heap.size) (e := 44) (size := 3) #[] _ 0 (by simp) (Nat.le_refl _) (by decide) rfl) rfl (hA.alloc _) (fD_length q) (fD_one q) (by omega) (by simp) ?_; intro v' w' hown' hbel hat hgr)
    go_ret
    have h : w'.ownsRow w.heap.size 44 3 v' q.length (fD q) := by simpa using hown'
    exact retOwn_mk h (Below.trans ((Ext.refl w).alloc _) hbel)
end Go.Proofs.Ytmmcbleoglgamaa
