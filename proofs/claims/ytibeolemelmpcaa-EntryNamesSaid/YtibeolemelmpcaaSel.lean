/-
  A result of a slice and an error, in one form for both ways.
-/
import Derived.Test.YtibeolemelmpcaaWords
import Derived.Test.YtibeolemelmpcaaAt
namespace Go.Proofs.Ytibeolemelmpcaa
open Go.RowKit
/-- The list, or nothing where there is an error. -/
def selL {α : Type} (er : Int) (l : List α) : List α := if er = 0 then l else []
theorem RetS.genU {w w' : World} {T n : Nat} {m : List Int} {er : Int} {en : Ending} (h : RetS w T 1 n (fU m) er en w') (hn : m.length = n) :
    ∃ A c, en = .returned (.tuple #[.slice A (selL er m).length c, .int .i64 er]) ∧ Sl w' A (selL er m).length c (fU (selL er m)) ∧ Ext w w' := by
  rcases h with ⟨rfl, A, c, rfl, _, hs, hx⟩ | ⟨h0, rfl, hx⟩
  · refine ⟨A, c, ?_, ?_, hx⟩
    · simp [selL, hn]
    · simpa [selL, hn] using hs
  · refine ⟨none, 0, ?_, ?_, hx⟩
    · simp [selL, h0]
    · simp only [selL, if_neg h0]; exact Sl.nil_ _
theorem RetS.genE {w w' : World} {T n : Nat} {l : List (Int × Int)} {er : Int} {en : Ending} (h : RetS w T 2 n (fE l) er en w') (hn : l.length = n) :
    ∃ A c, en = .returned (.tuple #[.slice A (selL er l).length c, .int .i64 er]) ∧ Sl w' A (selL er l).length c (fE (selL er l)) ∧ Ext w w' := by
  rcases h with ⟨rfl, A, c, rfl, _, hs, hx⟩ | ⟨h0, rfl, hx⟩
  · refine ⟨A, c, ?_, ?_, hx⟩
    · simp [selL, hn]
    · simpa [selL, hn] using hs
  · refine ⟨none, 0, ?_, ?_, hx⟩
    · simp [selL, h0]
    · simp only [selL, if_neg h0]; exact Sl.nil_ _
end Go.Proofs.Ytibeolemelmpcaa
