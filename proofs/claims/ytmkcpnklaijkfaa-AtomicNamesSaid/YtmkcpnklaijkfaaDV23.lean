/-
  Storing what a device in a variable may still do, and whether it is down.
-/
import Derived.Test.YtmkcpnklaijkfaaDV
namespace Go.Proofs.Ytmkcpnklaijkfaa
open Go.RowKit
theorem Sl.congr {w w' : World} {A : Option Addr} {n c : Nat} {xs : List Value} (h : Sl w A n c xs) (e : ∀ p, w'.cell? p = w.cell? p) : Sl w' A n c xs :=
  ⟨h.le, h.max, h.nil, fun hx => by
    obtain ⟨ad, hA, hc⟩ := h.cells hx
    exact ⟨ad, hA, fun j u hu => by rw [e]; exact hc j u hu⟩⟩
theorem set23_cell {w : World} {g : Nat} {v0 v1 v2 v3 : Value} (h : Box4 w g v0 v1 v2 v3) (u2 u3 : Value) (p : Addr) :
    ((w.setCell ⟨g, 2, none⟩ u2).setCell ⟨g, 3, none⟩ u3).cell? p = (setB w g v0 v1 u2 u3).cell? p := by
  have hb := (h.set2 u2).set3 u3
  have hc := h.set4 v0 v1 u2 u3
  by_cases h3 : p = ⟨g, 3, none⟩
  · subst h3; rw [hb.c3]; exact hc.c3.symm
  · by_cases h2 : p = ⟨g, 2, none⟩
    · subst h2; rw [hb.c2]; exact hc.c2.symm
    · by_cases h1 : p = ⟨g, 1, none⟩
      · subst h1; rw [hb.c1]; exact hc.c1.symm
      · by_cases h0 : p = ⟨g, 0, none⟩
        · subst h0; rw [hb.c0]; exact hc.c0.symm
        · rw [cell_other (Ne.symm h3), cell_other (Ne.symm h2), setB_far (Ne.symm h0) (Ne.symm h1) (Ne.symm h2) (Ne.symm h3)]
theorem DV.set23 {w : World} {g : Nat} {m : List Int} {q : List Dw} {l : Int} {n : Bool} (h : DV w g m q l n) (l' : Int) (n' : Bool) :
    DV ((w.setCell ⟨g, 2, none⟩ (.int .i64 l')).setCell ⟨g, 3, none⟩ (.bool n')) g m q l' n' := by
  obtain ⟨A, c, B, d, hb, hA, hB⟩ := h
  exact ⟨A, c, B, d, (hb.set2 _).set3 _, (hA.setB_U hb _ _ _ _).congr (set23_cell hb _ _), (hB.setB_D hb _ _ _ _).congr (set23_cell hb _ _)⟩
end Go.Proofs.Ytmkcpnklaijkfaa
