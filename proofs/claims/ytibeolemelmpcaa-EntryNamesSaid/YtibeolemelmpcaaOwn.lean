/-
  Rows of words of the call's own: reading and storing.
-/
import Derived.Test.YtibeolemelmpcaaCopy
namespace Go.Proofs.Ytibeolemelmpcaa
open Go.RowKit

/-- A slice of the call's own that is not empty begins at the head of a row. -/
theorem own_head {w : World} {base : Nat} {e : TypeId} {size n : Nat} {A : Option Addr} {c : Nat} {xs : List Value} (h : w.ownsRow base e size (.slice A n c) n xs) (hn : 0 < n) : ∃ g, A = some ⟨g, 0, none⟩ ∧ base ≤ g := by
  rcases h.2 with ⟨hv, hz⟩ | ⟨g, cap, cur, hv, hb, _⟩
  · omega
  · injection hv with h1 h2 h3
    exact ⟨g, h1, hb⟩
theorem fU_set (m : List Int) (i : Nat) (y : Int) : (fU m).set i (.int .u64 y) = fU (m.set i y) := by simp [fU, List.map_set]
/-- A store into a row of words of the call's own. -/
theorem own_set_U {w : World} {base : Nat} {e : TypeId} {g n c : Nat} {m : List Int} (h : w.ownsRow base e 1 (.slice (some ⟨g, 0, none⟩) n c) n (fU m)) (i : Nat) (y : Int) :
    (w.setCell ⟨g, i, none⟩ (.int .u64 y)).ownsRow base e 1 (.slice (some ⟨g, 0, none⟩) n c) n (fU (m.set i y)) := by
  have := (h.stored i (.int .u64 y)).1
  rwa [fU_set] at this
theorem own_at_U {w : World} {base : Nat} {e : TypeId} {g n c : Nat} {m : List Int} (h : w.ownsRow base e 1 (.slice (some ⟨g, 0, none⟩) n c) n (fU m)) {i : Nat} (hi : i < m.length) :
    ∃ y, m[i]? = some y ∧ w.cell? ⟨g, i, none⟩ = some (.int .u64 y) ∧ w.frozen? ⟨g, i, none⟩ = false := by
  have hl := h.1
  simp at hl
  refine ⟨m[i], List.getElem?_eq_getElem hi, ?_, h.frozenAt i⟩
  rw [h.cellAt i (by omega)]
  exact fU_get (List.getElem?_eq_getElem hi)
end Go.Proofs.Ytibeolemelmpcaa
