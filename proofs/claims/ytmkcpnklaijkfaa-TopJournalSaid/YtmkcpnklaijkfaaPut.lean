/-
  The contract of replay.Put.
-/
import Derived.Test.YtmkcpnklaijkfaaLines
namespace Go.Proofs.Ytmkcpnklaijkfaa
open Go.RowKit
/-- The device's variable gd, the error's ge (no error), the result's box behind gd. -/
structure PT (w0 wr : World) (gd ge : Nat) (m : List Int) (q : List Dw) (left : Int) (down : Bool) : Prop where
  d : DV wr gd m q left down
  e : wr.cell? ⟨ge, 0, none⟩ = some (.int .i64 0)
  ef : ∀ o, wr.frozen? ⟨ge, o, none⟩ = false
  r : Box4 wr (gd + 1) (.slice none 0 0) (.slice none 0 0) (.int .i64 0) (.bool false)
  x : Ext w0 wr
  lo : w0.heap.size ≤ gd
  lt : gd + 1 < ge
theorem PT.ext {w0 wr w' : World} {gd ge : Nat} {m : List Int} {q : List Dw} {left : Int} {down : Bool} (h : PT w0 wr gd ge m q left down) (x : Ext wr w') : PT w0 w' gd ge m q left down :=
  ⟨h.d.ext x, x.cell h.e, fun o => by rw [x.bcell.2 ge o (block_lt_of_cell h.e)]; exact h.ef o, h.r.ext x, h.x.trans x, h.lo, h.lt⟩
theorem Sl.setSame {w : World} {p : Addr} {v : Value} (hp : w.cell? p = some v) {A : Option Addr} {n c : Nat} {xs : List Value} (h : Sl w A n c xs) : Sl (w.setCell p v) A n c xs :=
  ⟨h.le, h.max, h.nil, fun hx => by
    obtain ⟨ad, hA, hc⟩ := h.cells hx
    refine ⟨ad, hA, fun j u hu => ?_⟩
    have h1 := hc j u hu
    by_cases e : p = ad.add j
    · rw [← e] at h1 ⊢
      rw [hp] at h1
      injection h1 with h1
      subst h1
      exact cell_same hp
    · rw [cell_other e]; exact h1⟩
/-- Another device in the variable, and again no error. -/
theorem PT.set {w0 wr : World} {gd ge : Nat} {m : List Int} {q : List Dw} {left : Int} {down : Bool} (h : PT w0 wr gd ge m q left down) {m' : List Int} {q' : List Dw} {A B : Option Addr} {c d : Nat} (hA : Sl wr A m'.length c (fU m')) (hB : Sl wr B q'.length d (fD q')) (l' : Int) (n' : Bool) :
    PT w0 ((setB wr gd (.slice A m'.length c) (.slice B q'.length d) (.int .i64 l') (.bool n')).setCell ⟨ge, 0, none⟩ (.int .i64 0)) gd ge m' q' l' n' := by
  have l1 := h.lo
  have l2 := h.lt
  have hne : ge ≠ gd := by omega
  obtain ⟨A1, c1, B1, d1, hb, hA1, hB1⟩ := h.d.set hA hB l' n'
  have he : (setB wr gd (.slice A m'.length c) (.slice B q'.length d) (.int .i64 l') (.bool n')).cell? ⟨ge, 0, none⟩ = some (.int .i64 0) := by
    rw [setB_far (by intro e; injection e with e; omega) (by intro e; injection e with e; omega) (by intro e; injection e with e; omega) (by intro e; injection e with e; omega)]
    exact h.e
  have hef : ∀ o, (setB wr gd (.slice A m'.length c) (.slice B q'.length d) (.int .i64 l') (.bool n')).frozen? ⟨ge, o, none⟩ = false := fun o => by
    unfold setB
    simp only [World.frozen?_setCell]
    exact h.ef o
  have hr := h.r.far4 (g := gd) (by omega) (.slice A m'.length c) (.slice B q'.length d) (.int .i64 l') (.bool n')
  exact ⟨⟨A1, c1, B1, d1, hb.far (p := ⟨ge, 0, none⟩) hne (.int .i64 0), hA1.setSame he, hB1.setSame he⟩, cell_same he, fun o => by rw [World.frozen?_setCell]; exact hef o,
    Box4.far (p := ⟨ge, 0, none⟩) hr (by show ge ≠ gd + 1; omega) _, (h.x.setB l1 _ _ _ _).setCell (p := ⟨ge, 0, none⟩) (by show w0.heap.size ≤ ge; omega) _, l1, l2⟩
theorem heap_setB {w : World} {b g : Nat} (h : g ≠ b) (u0 u1 u2 u3 : Value) : (setB w b u0 u1 u2 u3).heap[g]? = w.heap[g]? := by
  unfold setB
  rw [heap_setCell_other _ _ _ _ h, heap_setCell_other _ _ _ _ h, heap_setCell_other _ _ _ _ h, heap_setCell_other _ _ _ _ h]
/-- The closure of Put, when there is no error so far and none comes. -/
theorem putF_any {w0 w : World} {gd ge : Nat} {m : List Int} {q : List Dw} {left : Int} {down : Bool} (h : PT w0 w gd ge m q left down) {m' : List Int} {q' : List Dw} (l' : Int) (n' : Bool) (A : Option Addr) (c : Nat) (B : Option Addr) (d : Nat) (hA : Sl w A m'.length c (fU m')) (hB : Sl w B q'.length d (fD q')) :
    Calls Try.prog 95 #[.agg #[.slice A m'.length c, .slice B q'.length d, .int .i64 l', .bool n'], .int .i64 0, .pointer (some ⟨ge, 0, none⟩), .pointer (some ⟨gd, 0, none⟩)] w fun e w' => e = .returned (.tuple #[]) ∧ PT w0 w' gd ge m' q' l' n' ∧ ∀ g, g < w.heap.size → g ≠ gd → g ≠ ge → w'.heap[g]? = w.heap[g]? := by
  have H := Lib.hid h
  have hel := block_lt_of_cell h.e
  have he := h.e
  have hef := h.ef
  have hlt := h.lt
  obtain ⟨A0, c0, B0, d0, ⟨b0, b1, b2, b3, bf, bl⟩, -, -⟩ := h.d
  simp only at hel
  have HA := Lib.hid (And.intro hA hB)
  clear h hA hB
  go_enter Try.func95, Try.ntmps95
  go_wp2_with fail
  refine bodyPost_end (v := .tuple #[]) (by simp [results, Try.results95, go_sem]) rfl ?_
  have hs := (H.out.set HA.out.1 HA.out.2 l' n').ext ((Ext.refl _).alloc (Obj.cells #[.slice A m'.length c, .slice B q'.length d, .int .i64 l', .bool n'] 46))
  refine ⟨rfl, hs, fun g hg h1 h2 => ?_⟩
  rw [heap_alloc_old _ _ (by simpa using hg), heap_setCell_other _ _ _ _ h2]
  exact heap_setB h1 _ _ _ _
end Go.Proofs.Ytmkcpnklaijkfaa
