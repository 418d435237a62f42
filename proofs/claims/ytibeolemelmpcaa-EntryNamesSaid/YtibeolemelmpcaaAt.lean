/-
  The comparisons, with the lengths written otherwise.
-/
import Derived.Test.YtibeolemelmpcaaSame
import Derived.Test.YtibeolemelmpcaaSame7
namespace Go.Proofs.Ytibeolemelmpcaa
open Go.RowKit
theorem same2_at (m o : List Int) (n k : Nat) (hn : m.length = n) (hk : o.length = k) (A B : Option Addr) (c c' : Nat) (w : World) (hA : Sl w A n c (fU m)) (hB : Sl w B k c' (fU o)) :
    Calls Try.prog 19 #[.slice A n c, .slice B k c'] w fun e w' => e = .returned (.bool (decide (m = o))) ∧ Drew w w' := by
  subst hn hk
  exact same2_any m o A B c c' w hA hB
theorem same2_at_yes (m o : List Int) (h : m = o) (n k : Nat) (hn : m.length = n) (hk : o.length = k) (A B : Option Addr) (c c' : Nat) (w : World) (hA : Sl w A n c (fU m)) (hB : Sl w B k c' (fU o)) :
    Calls Try.prog 19 #[.slice A n c, .slice B k c'] w fun e w' => e = .returned (.bool true) ∧ Drew w w' := by
  subst hn hk
  exact same2_yes m o h A B c c' w hA hB
theorem same7_at (m o : List (Int × Int)) (n k : Nat) (hn : m.length = n) (hk : o.length = k) (A B : Option Addr) (c c' : Nat) (w : World) (hA : Sl w A n c (fE m)) (hB : Sl w B k c' (fE o)) :
    Calls Try.prog 20 #[.slice A n c, .slice B k c'] w fun e w' => e = .returned (.bool (decide (m = o))) ∧ Drew w w' := by
  subst hn hk
  exact same7_any m o A B c c' w hA hB
theorem same7_at_yes (m o : List (Int × Int)) (h : m = o) (n k : Nat) (hn : m.length = n) (hk : o.length = k) (A B : Option Addr) (c c' : Nat) (w : World) (hA : Sl w A n c (fE m)) (hB : Sl w B k c' (fE o)) :
    Calls Try.prog 20 #[.slice A n c, .slice B k c'] w fun e w' => e = .returned (.bool true) ∧ Drew w w' := by
  subst hn hk
  exact same7_yes m o h A B c c' w hA hB
end Go.Proofs.Ytibeolemelmpcaa
