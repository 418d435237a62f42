/-
  A device in a variable: a block of four cells.
-/
import Derived.Test.YtmmcbleoglgamaaDRefL
namespace Go.Proofs.Ytmmcbleoglgamaa
open Go.RowKit
theorem cell_other {w : World} {p q : Addr} {u : Value} (h : p ≠ q) : (w.setCell p u).cell? q = w.cell? q := by
  rw [World.cell?_setCell_other]
  exact h
theorem cell_same {w : World} {p : Addr} {u v : Value} (h : w.cell? p = some v) : (w.setCell p u).cell? p = some u := by
  rw [World.cell?_setCell_same']
  simp [h]
/-- Block b holds the four cells of a device. -/
structure Box4 (w : World) (b : Nat) (v0 v1 v2 v3 : Value) : Prop where
  c0 : w.cell? ⟨b, 0, none⟩ = some v0
  c1 : w.cell? ⟨b, 1, none⟩ = some v1
  c2 : w.cell? ⟨b, 2, none⟩ = some v2
  c3 : w.cell? ⟨b, 3, none⟩ = some v3
  fz : ∀ o, w.frozen? ⟨b, o, none⟩ = false
  lt : b < w.heap.size
theorem Box4.ext {w w' : World} {b : Nat} {v0 v1 v2 v3 : Value} (h : Box4 w b v0 v1 v2 v3) (x : Ext w w') : Box4 w' b v0 v1 v2 v3 :=
  ⟨x.cell h.c0, x.cell h.c1, x.cell h.c2, x.cell h.c3, fun o => by rw [x.bcell.2 b o h.lt]; exact h.fz o, Nat.lt_of_lt_of_le h.lt x.size⟩
theorem Box4.new (w : World) (v0 v1 v2 v3 : Value) (T : TypeId) : Box4 (w.alloc (Obj.cells #[v0, v1, v2, v3] T)) w.heap.size v0 v1 v2 v3 :=
  ⟨by simp [go_sem], by simp [go_sem], by simp [go_sem], by simp [go_sem], fun o => by simp [go_sem], by simp⟩
theorem Box4.new' (w : World) (g : Nat) (hg : g = w.heap.size) (v0 v1 v2 v3 : Value) (T : TypeId) : Box4 (w.alloc (Obj.cells #[v0, v1, v2, v3] T)) g v0 v1 v2 v3 := by
  subst hg
  exact Box4.new w v0 v1 v2 v3 T
theorem Box4.alloc {w : World} {b : Nat} {v0 v1 v2 v3 : Value} (h : Box4 w b v0 v1 v2 v3) (o : Obj) : Box4 (w.alloc o) b v0 v1 v2 v3 := h.ext ((Ext.refl w).alloc o)
theorem Box4.far {w : World} {b : Nat} {v0 v1 v2 v3 : Value} (h : Box4 w b v0 v1 v2 v3) {p : Addr} (hp : p.block ≠ b) (u : Value) : Box4 (w.setCell p u) b v0 v1 v2 v3 := by
  have hne : ∀ o, p ≠ ⟨b, o, none⟩ := fun o e => hp (by rw [e])
  exact ⟨by rw [cell_other (hne 0)]; exact h.c0, by rw [cell_other (hne 1)]; exact h.c1, by rw [cell_other (hne 2)]; exact h.c2, by rw [cell_other (hne 3)]; exact h.c3, fun o => by rw [World.frozen?_setCell]; exact h.fz o, by simpa using h.lt⟩
section
variable {w : World} {b : Nat} {v0 v1 v2 v3 : Value}
theorem Box4.set0 (h : Box4 w b v0 v1 v2 v3) (u : Value) : Box4 (w.setCell ⟨b, 0, none⟩ u) b u v1 v2 v3 :=
  ⟨cell_same h.c0, by rw [cell_other (by simp)]; exact h.c1, by rw [cell_other (by simp)]; exact h.c2, by rw [cell_other (by simp)]; exact h.c3, fun o => by rw [World.frozen?_setCell]; exact h.fz o, by simpa using h.lt⟩
theorem Box4.set1 (h : Box4 w b v0 v1 v2 v3) (u : Value) : Box4 (w.setCell ⟨b, 1, none⟩ u) b v0 u v2 v3 :=
  ⟨by rw [cell_other (by simp)]; exact h.c0, cell_same h.c1, by rw [cell_other (by simp)]; exact h.c2, by rw [cell_other (by simp)]; exact h.c3, fun o => by rw [World.frozen?_setCell]; exact h.fz o, by simpa using h.lt⟩
theorem Box4.set2 (h : Box4 w b v0 v1 v2 v3) (u : Value) : Box4 (w.setCell ⟨b, 2, none⟩ u) b v0 v1 u v3 :=
  ⟨by rw [cell_other (by simp)]; exact h.c0, by rw [cell_other (by simp)]; exact h.c1, cell_same h.c2, by rw [cell_other (by simp)]; exact h.c3, fun o => by rw [World.frozen?_setCell]; exact h.fz o, by simpa using h.lt⟩
theorem Box4.set3 (h : Box4 w b v0 v1 v2 v3) (u : Value) : Box4 (w.setCell ⟨b, 3, none⟩ u) b v0 v1 v2 u :=
  ⟨by rw [cell_other (by simp)]; exact h.c0, by rw [cell_other (by simp)]; exact h.c1, by rw [cell_other (by simp)]; exact h.c2, cell_same h.c3, fun o => by rw [World.frozen?_setCell]; exact h.fz o, by simpa using h.lt⟩
theorem Box4.set4 (h : Box4 w b v0 v1 v2 v3) (u0 u1 u2 u3 : Value) : Box4 ((((w.setCell ⟨b, 0, none⟩ u0).setCell ⟨b, 1, none⟩ u1).setCell ⟨b, 2, none⟩ u2).setCell ⟨b, 3, none⟩ u3) b u0 u1 u2 u3 := (((h.set0 u0).set1 u1).set2 u2).set3 u3
theorem Box4.far4 (h : Box4 w b v0 v1 v2 v3) {g : Nat} (hg : g ≠ b) (u0 u1 u2 u3 : Value) : Box4 ((((w.setCell ⟨g, 0, none⟩ u0).setCell ⟨g, 1, none⟩ u1).setCell ⟨g, 2, none⟩ u2).setCell ⟨g, 3, none⟩ u3) b v0 v1 v2 v3 := (((h.far (p := ⟨g, 0, none⟩) hg u0).far (p := ⟨g, 1, none⟩) hg u1).far (p := ⟨g, 2, none⟩) hg u2).far (p := ⟨g, 3, none⟩) hg u3
end
theorem own_sl4 {w : World} {base : Nat} {e : TypeId} {size : Nat} {A : Option Addr} {c n : Nat} {xs : List Value} (h : w.ownsRow base e size (.slice A n c) n xs) : Sl w A n c xs := by
  obtain ⟨A', c', hv, hs⟩ := Sl.of_own h
  injection hv with h1 h2 h3
  subst h1 h3
  exact hs
theorem own_cell {w : World} {base : Nat} {e : TypeId} {size n : Nat} {A : Option Addr} {c : Nat} {xs : List Value} (h : w.ownsRow base e size (.slice A n c) n xs) {b : Nat} (hb : b < base) (o : Nat) (v : Value) : (w.setCell ⟨b, o, none⟩ v).ownsRow base e size (.slice A n c) n xs := by
  have hg : w.grownBy (w.setCell ⟨b, o, none⟩ v) (some b) := ⟨rfl, rfl, rfl, by simp, fun k _ hk => heap_setCell_other w ⟨b, o, none⟩ k v (fun e => hk (by simp [e]))⟩
  refine h.kept hg ?_
  cases A with
  | none => exact .inl rfl
  | some ad =>
    refine .inr ?_
    have := own_far h hb ad rfl
    simp only [Value.ownBlock, ne_eq, Option.some.injEq]
    exact this
theorem own_set4 {w : World} {base : Nat} {e : TypeId} {size n : Nat} {A : Option Addr} {c : Nat} {xs : List Value} (h : w.ownsRow base e size (.slice A n c) n xs) {b : Nat} (hb : b < base) (v0 v1 v2 v3 : Value) :
    ((((w.setCell ⟨b, 0, none⟩ v0).setCell ⟨b, 1, none⟩ v1).setCell ⟨b, 2, none⟩ v2).setCell ⟨b, 3, none⟩ v3).ownsRow base e size (.slice A n c) n xs :=
  own_cell (own_cell (own_cell (own_cell h hb 0 v0) hb 1 v1) hb 2 v2) hb 3 v3
end Go.Proofs.Ytmmcbleoglgamaa
