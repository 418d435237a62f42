/-
  Results in one form for both ways: a list, and an error beside it.
-/
import Derived.Test.YtibeolemelmpcaaSel
namespace Go.Proofs.Ytibeolemelmpcaa
open Go.RowKit
/-- The call returned words and a number. -/
def RetU (w0 : World) (l : List Int) (er : Int) (en : Ending) (w' : World) : Prop :=
  ∃ A c, en = .returned (.tuple #[.slice A l.length c, .int .i64 er]) ∧ Sl w' A l.length c (fU l) ∧ Ext w0 w'
/-- The call returned entries and a number. -/
def RetE (w0 : World) (l : List (Int × Int)) (er : Int) (en : Ending) (w' : World) : Prop :=
  ∃ A c, en = .returned (.tuple #[.slice A l.length c, .int .i64 er]) ∧ Sl w' A l.length c (fE l) ∧ Ext w0 w'
theorem retU_nil {w0 w' : World} {er : Int} (hx : Ext w0 w') : RetU w0 [] er (.returned (.tuple #[.slice none 0 0, .int .i64 er])) w' := ⟨none, 0, rfl, Sl.nil_ _, hx⟩
theorem retE_nil {w0 w' : World} {er : Int} (hx : Ext w0 w') : RetE w0 [] er (.returned (.tuple #[.slice none 0 0, .int .i64 er])) w' := ⟨none, 0, rfl, Sl.nil_ _, hx⟩
theorem retU_at {w0 w' : World} {l : List Int} {n : Nat} {er : Int} {A : Option Addr} {c : Nat} (hn : l.length = n) (hs : Sl w' A n c (fU l)) (hx : Ext w0 w') : RetU w0 l er (.returned (.tuple #[.slice A n c, .int .i64 er])) w' := by
  subst hn
  exact ⟨A, c, rfl, hs, hx⟩
theorem retE_at {w0 w' : World} {l : List (Int × Int)} {n : Nat} {er : Int} {A : Option Addr} {c : Nat} (hn : l.length = n) (hs : Sl w' A n c (fE l)) (hx : Ext w0 w') : RetE w0 l er (.returned (.tuple #[.slice A n c, .int .i64 er])) w' := by
  subst hn
  exact ⟨A, c, rfl, hs, hx⟩
theorem RetU.of_ext {w0 w1 w' : World} {l : List Int} {er : Int} {en : Ending} (h : RetU w1 l er en w') (hx : Ext w0 w1) : RetU w0 l er en w' := by
  obtain ⟨A, c, e, s, x⟩ := h
  exact ⟨A, c, e, s, hx.trans x⟩
theorem RetE.of_ext {w0 w1 w' : World} {l : List (Int × Int)} {er : Int} {en : Ending} (h : RetE w1 l er en w') (hx : Ext w0 w1) : RetE w0 l er en w' := by
  obtain ⟨A, c, e, s, x⟩ := h
  exact ⟨A, c, e, s, hx.trans x⟩
theorem RetS.toU {w w' : World} {T n : Nat} {m : List Int} {er : Int} {en : Ending} (h : RetS w T 1 n (fU m) er en w') (hn : m.length = n) : RetU w (selL er m) er en w' := by
  obtain ⟨A, c, e, s, x⟩ := h.genU hn
  exact ⟨A, c, e, s, x⟩
theorem RetS.toE {w w' : World} {T n : Nat} {l : List (Int × Int)} {er : Int} {en : Ending} (h : RetS w T 2 n (fE l) er en w') (hn : l.length = n) : RetE w (selL er l) er en w' := by
  obtain ⟨A, c, e, s, x⟩ := h.genE hn
  exact ⟨A, c, e, s, x⟩
theorem selL_ok {α : Type} {er : Int} (h : er = 0) (l : List α) : selL er l = l := by simp [selL, h]
theorem selL_no {α : Type} {er : Int} (h : er ≠ 0) (l : List α) : selL er l = [] := by simp [selL, h]
end Go.Proofs.Ytibeolemelmpcaa
