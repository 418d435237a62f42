/-
  A variable that holds a device.
-/
import Derived.Test.YtmkcpnklaijkfaaGJ
import Derived.Test.YtmkcpnklaijkfaaGK
import Derived.Test.YtmkcpnklaijkfaaGI
import Derived.Test.YtmkcpnklaijkfaaGA
namespace Go.Proofs.Ytmkcpnklaijkfaa
open Go.RowKit
/-- The variable in block g holds a device. -/
def DV (w : World) (g : Nat) (m : List Int) (q : List Dw) (l : Int) (n : Bool) : Prop :=
  ∃ A c B d, Box4 w g (.slice A m.length c) (.slice B q.length d) (.int .i64 l) (.bool n) ∧ Sl w A m.length c (fU m) ∧ Sl w B q.length d (fD q)
theorem DV.mk {w : World} {g : Nat} {m : List Int} {q : List Dw} {l : Int} {n : Bool} {A B : Option Addr} {c d : Nat} (h : Box4 w g (.slice A m.length c) (.slice B q.length d) (.int .i64 l) (.bool n)) (hA : Sl w A m.length c (fU m)) (hB : Sl w B q.length d (fD q)) : DV w g m q l n := ⟨A, c, B, d, h, hA, hB⟩
theorem DV.new (w : World) (m : List Int) (q : List Dw) (l : Int) (n : Bool) (A : Option Addr) (c : Nat) (B : Option Addr) (d : Nat) (T : TypeId) (hA : Sl w A m.length c (fU m)) (hB : Sl w B q.length d (fD q)) :
    DV (w.alloc (Obj.cells #[.slice A m.length c, .slice B q.length d, .int .i64 l, .bool n] T)) w.heap.size m q l n := ⟨A, c, B, d, Box4.new w _ _ _ _ _, hA.alloc _, hB.alloc _⟩
theorem DV.ext {w w' : World} {g : Nat} {m : List Int} {q : List Dw} {l : Int} {n : Bool} (h : DV w g m q l n) (x : Ext w w') : DV w' g m q l n := by
  obtain ⟨A, c, B, d, hb, hA, hB⟩ := h
  exact ⟨A, c, B, d, hb.ext x, hA.ext x, hB.ext x⟩
theorem DV.lt {w : World} {g : Nat} {m : List Int} {q : List Dw} {l : Int} {n : Bool} (h : DV w g m q l n) : g < w.heap.size := by
  obtain ⟨A, c, B, d, hb, -, -⟩ := h
  exact hb.lt
theorem addr_next {ad : Addr} {j b o : Nat} (h : ad.add j = ⟨b, o, none⟩) : ad.add (j + 1) = ⟨b, o + 1, none⟩ := by
  rw [← add_of_add, h]
  rfl
/-- The four cells of block b, stored. -/
def setB (w : World) (b : Nat) (u0 u1 u2 u3 : Value) : World := (((w.setCell ⟨b, 0, none⟩ u0).setCell ⟨b, 1, none⟩ u1).setCell ⟨b, 2, none⟩ u2).setCell ⟨b, 3, none⟩ u3
theorem setB_far {w : World} {b : Nat} {u0 u1 u2 u3 : Value} {p : Addr} (h0 : ⟨b, 0, none⟩ ≠ p) (h1 : ⟨b, 1, none⟩ ≠ p) (h2 : ⟨b, 2, none⟩ ≠ p) (h3 : ⟨b, 3, none⟩ ≠ p) : (setB w b u0 u1 u2 u3).cell? p = w.cell? p := by
  unfold setB
  rw [cell_other h3, cell_other h2, cell_other h1, cell_other h0]
section
variable {w : World} {b : Nat} {A0 B0 A : Option Addr} {n0 c0 k0 d0 n c : Nat} {l : Int} {f : Bool}
theorem Sl.setB_U {m : List Int} (hb : Box4 w b (.slice A0 n0 c0) (.slice B0 k0 d0) (.int .i64 l) (.bool f)) (h : Sl w A n c (fU m)) (u0 u1 u2 u3 : Value) : Sl (setB w b u0 u1 u2 u3) A n c (fU m) :=
  ⟨h.le, h.max, h.nil, fun hx => by
    obtain ⟨ad, hA, hc⟩ := h.cells hx
    refine ⟨ad, hA, fun j u hu => ?_⟩
    have h1 := hc j u hu
    obtain ⟨x, rfl⟩ : ∃ x, u = .int .u64 x := by
      simp only [fU, List.getElem?_map, Option.map_eq_some_iff] at hu
      obtain ⟨x, _, rfl⟩ := hu
      exact ⟨x, rfl⟩
    rw [setB_far]
    · exact h1
    · intro e; rw [← e, hb.c0] at h1; cases h1
    · intro e; rw [← e, hb.c1] at h1; cases h1
    · intro e; rw [← e, hb.c2] at h1; cases h1
    · intro e; rw [← e, hb.c3] at h1; cases h1⟩
theorem Sl.setB_E {q : List (Int × Int)} (hb : Box4 w b (.slice A0 n0 c0) (.slice B0 k0 d0) (.int .i64 l) (.bool f)) (h : Sl w A n c (fE q)) (u0 u1 u2 u3 : Value) : Sl (setB w b u0 u1 u2 u3) A n c (fE q) :=
  ⟨h.le, h.max, h.nil, fun hx => by
    obtain ⟨ad, hA, hc⟩ := h.cells hx
    refine ⟨ad, hA, fun j u hu => ?_⟩
    have h1 := hc j u hu
    obtain ⟨k, x, hk, hh⟩ := fE_inv hu
    have hg := fE_get hk
    rw [setB_far]
    · exact h1
    · intro e; rw [← e, hb.c0] at h1; rcases hh with ⟨_, rfl⟩ | ⟨_, rfl⟩ <;> cases h1
    · intro e; rw [← e, hb.c1] at h1; rcases hh with ⟨_, rfl⟩ | ⟨_, rfl⟩ <;> cases h1
    · intro e
      have e2 := addr_next e.symm
      rw [← e, hb.c2] at h1
      rcases hh with ⟨rfl, rfl⟩ | ⟨_, rfl⟩
      · have h2 := hc _ _ hg.2
        rw [e2, hb.c3] at h2; cases h2
      · cases h1
    · intro e; rw [← e, hb.c3] at h1; rcases hh with ⟨_, rfl⟩ | ⟨_, rfl⟩ <;> cases h1⟩
theorem addr_prev {ad : Addr} {j b o : Nat} (h : ad.add (j + 1) = ⟨b, o + 1, none⟩) (hs : ad.spot = none) : ad.add j = ⟨b, o, none⟩ := by
  rw [add_lit_] at h
  injection h with h1 h2
  unfold Addr.add
  split
  · rename_i h0
    obtain ⟨b', o', s'⟩ := ad
    replace hs : s' = none := hs
    replace h1 : b' = b := h1
    replace h2 : o' + (j + 1) = o + 1 := h2
    subst h1 hs
    have : j = 0 := by simpa using h0
    congr 1
    omega
  · rename_i h0
    rw [h1]
    congr 1
    omega
theorem spot_of_cell {w : World} {p : Addr} {v : Value} (h : w.cell? p = some v) : p.spot = none := by
  unfold World.cell? at h
  split at h
  · split at h
    · cases h
    · rename_i hs; simpa using hs
  · cases h
theorem Sl.setB_D {q : List Dw} (hb : Box4 w b (.slice A0 n0 c0) (.slice B0 k0 d0) (.int .i64 l) (.bool f)) (h : Sl w A n c (fD q)) (u0 u1 u2 u3 : Value) : Sl (setB w b u0 u1 u2 u3) A n c (fD q) :=
  ⟨h.le, h.max, h.nil, fun hx => by
    obtain ⟨ad, hA, hc⟩ := h.cells hx
    refine ⟨ad, hA, fun j u hu => ?_⟩
    have h1 := hc j u hu
    obtain ⟨k, x, hk, hh⟩ := fD_inv hu
    have hg := fD_get hk
    have hsp : ad.spot = none := by
      have h0 := hc 0 _ (List.getElem?_eq_getElem (List.length_pos_iff.2 hx))
      have := spot_of_cell h0
      simpa [Addr.add] using this
    rw [setB_far]
    · exact h1
    · intro e; rw [← e, hb.c0] at h1; rcases hh with ⟨_, rfl⟩ | ⟨_, rfl⟩ | ⟨_, rfl⟩ <;> cases h1
    · intro e; rw [← e, hb.c1] at h1; rcases hh with ⟨_, rfl⟩ | ⟨_, rfl⟩ | ⟨_, rfl⟩ <;> cases h1
    · intro e
      have e2 := addr_next e.symm
      rw [← e, hb.c2] at h1
      rcases hh with ⟨rfl, rfl⟩ | ⟨_, rfl⟩ | ⟨_, rfl⟩
      · have h2 := hc _ _ hg.2.1
        rw [e2, hb.c3] at h2; cases h2
      · cases h1
      · cases h1
    · intro e
      rcases hh with ⟨rfl, rfl⟩ | ⟨rfl, rfl⟩ | ⟨rfl, rfl⟩
      · rw [← e, hb.c3] at h1; cases h1
      · rw [← e, hb.c3] at h1; cases h1
      · have e2 := addr_prev (j := k * 3 + 1) (o := 2) e.symm hsp
        have h2 := hc _ _ hg.2.1
        rw [e2, hb.c2] at h2; cases h2⟩
end
/-- Another device is stored into the variable. -/
theorem DV.set {w : World} {g : Nat} {m : List Int} {q : List Dw} {l : Int} {n : Bool} (h : DV w g m q l n) {m' : List Int} {q' : List Dw} {A B : Option Addr} {c d : Nat} (hA : Sl w A m'.length c (fU m')) (hB : Sl w B q'.length d (fD q')) (l' : Int) (n' : Bool) :
    DV (setB w g (.slice A m'.length c) (.slice B q'.length d) (.int .i64 l') (.bool n')) g m' q' l' n' := by
  obtain ⟨A0, c0, B0, d0, hb, -, -⟩ := h
  exact ⟨A, c, B, d, hb.set4 _ _ _ _, hA.setB_U hb _ _ _ _, hB.setB_D hb _ _ _ _⟩
theorem DV.far {w : World} {g b : Nat} {m m' : List Int} {q q' : List Dw} {l l' : Int} {n n' : Bool} (h : DV w g m q l n) (hb : DV w b m' q' l' n') (hne : g ≠ b) (u0 u1 u2 u3 : Value) : DV (setB w b u0 u1 u2 u3) g m q l n := by
  obtain ⟨A0, c0, B0, d0, hb, -, -⟩ := hb
  obtain ⟨A, c, B, d, h, hA, hB⟩ := h
  exact ⟨A, c, B, d, h.far4 (Ne.symm hne) u0 u1 u2 u3, hA.setB_U hb _ _ _ _, hB.setB_D hb _ _ _ _⟩
theorem DV.slU {w : World} {b : Nat} {m : List Int} {q : List Dw} {l : Int} {n : Bool} (hb : DV w b m q l n) {A : Option Addr} {k c : Nat} {x : List Int} (h : Sl w A k c (fU x)) (u0 u1 u2 u3 : Value) : Sl (setB w b u0 u1 u2 u3) A k c (fU x) := by
  obtain ⟨A0, c0, B0, d0, hb, -, -⟩ := hb
  exact h.setB_U hb _ _ _ _
theorem DV.slD {w : World} {b : Nat} {m : List Int} {q : List Dw} {l : Int} {n : Bool} (hb : DV w b m q l n) {A : Option Addr} {k c : Nat} {x : List Dw} (h : Sl w A k c (fD x)) (u0 u1 u2 u3 : Value) : Sl (setB w b u0 u1 u2 u3) A k c (fD x) := by
  obtain ⟨A0, c0, B0, d0, hb, -, -⟩ := hb
  exact h.setB_D hb _ _ _ _
theorem DV.slE {w : World} {b : Nat} {m : List Int} {q : List Dw} {l : Int} {n : Bool} (hb : DV w b m q l n) {A : Option Addr} {k c : Nat} {x : List (Int × Int)} (h : Sl w A k c (fE x)) (u0 u1 u2 u3 : Value) : Sl (setB w b u0 u1 u2 u3) A k c (fE x) := by
  obtain ⟨A0, c0, B0, d0, hb, -, -⟩ := hb
  exact h.setB_E hb _ _ _ _
theorem Ext.setB {a w : World} (h : Ext a w) {b : Nat} (hb : a.heap.size ≤ b) (u0 u1 u2 u3 : Value) : Ext a (setB w b u0 u1 u2 u3) := set4_ext h hb u0 u1 u2 u3
/-- What the operations give on a valid device. -/
theorem dStore_ok {m : List Int} {q : List Dw} {left : Int} {down : Bool} {a : Int} (v : Int) (hd : devB m q left down = true) (h0 : 0 ≤ a) (h1 : a < m.length) (A : Option Addr) (c : Nat) (B : Option Addr) (d : Nat) (w : World) (hA : Sl w A m.length c (fU m)) (hB : Sl w B q.length d (fD q)) :
    Calls Try.prog 96 #[.agg #[.slice A m.length c, .slice B q.length d, .int .i64 left, .bool down], .int .i64 a, .int .u64 v] w (RetV w (stepD (m, q, left, down) (.st a v)) 0) := by
  have he : askE m q left down a = 0 := by unfold askE; rw [if_pos hd, if_neg (by omega)]
  have := dStore_any m q left down a v A c B d w hA hB
  rw [he, show storeV m q left down a v = stepD (m, q, left, down) (.st a v) from by simp [storeV, he, stepD, effD]] at this
  exact this
theorem dFlush_ok {m : List Int} {q : List Dw} {left : Int} {down : Bool} {a : Int} (hd : devB m q left down = true) (h0 : 0 ≤ a) (h1 : a < m.length) (A : Option Addr) (c : Nat) (B : Option Addr) (d : Nat) (w : World) (hA : Sl w A m.length c (fU m)) (hB : Sl w B q.length d (fD q)) :
    Calls Try.prog 97 #[.agg #[.slice A m.length c, .slice B q.length d, .int .i64 left, .bool down], .int .i64 a] w (RetV w (stepD (m, q, left, down) (.fl a)) 0) := by
  have he : askE m q left down a = 0 := by unfold askE; rw [if_pos hd, if_neg (by omega)]
  have := dFlush_any m q left down a A c B d w hA hB
  rw [he, show flushV m q left down a = stepD (m, q, left, down) (.fl a) from by simp [flushV, he, stepD, effD]] at this
  exact this
theorem dFence_ok {m : List Int} {q : List Dw} {left : Int} {down : Bool} (hd : devB m q left down = true) (A : Option Addr) (c : Nat) (B : Option Addr) (d : Nat) (w : World) (hA : Sl w A m.length c (fU m)) (hB : Sl w B q.length d (fD q)) :
    Calls Try.prog 98 #[.agg #[.slice A m.length c, .slice B q.length d, .int .i64 left, .bool down]] w (RetV w (stepD (m, q, left, down) .fe) 0) := by
  have he : devE m q left down = 0 := by unfold devE; rw [if_pos hd]
  have := dFence_any m q left down A c B d w hA hB
  rw [he, show fenceV m q left down = stepD (m, q, left, down) .fe from by simp [fenceV, he, stepD, effD]] at this
  exact this
theorem dView_ok {m : List Int} {q : List Dw} {left : Int} {down : Bool} (hd : devB m q left down = true) (A : Option Addr) (c : Nat) (B : Option Addr) (d : Nat) (w : World) (hA : Sl w A m.length c (fU m)) (hB : Sl w B q.length d (fD q)) :
    Calls Try.prog 59 #[.agg #[.slice A m.length c, .slice B q.length d, .int .i64 left, .bool down]] w (RetUo w (wrd m q) 0) := by
  have he : devE m q left down = 0 := by unfold devE; rw [if_pos hd]
  have := dView_any m q left down A c B d w hA hB
  rw [he, show viewL m q left down = wrd m q from by simp [viewL, he]] at this
  exact this
/-- A valid device stays one. -/
theorem devB_step {m : List Int} {q : List Dw} {left : Int} {down : Bool} {o : Dop} (hd : devB m q left down = true) (ho : OpIn m.length o) :
    devB (stepD (m, q, left, down) o).1 (stepD (m, q, left, down) o).2.1 (stepD (m, q, left, down) o).2.2.1 (stepD (m, q, left, down) o).2.2.2 = true ∧ (stepD (m, q, left, down) o).1.length = m.length := by
  obtain ⟨h1, h2, h3, h4, h5⟩ := devB_bd hd
  by_cases hl : left = 0
  · have e : stepD (m, q, left, down) o = (m, q, 0, true) := by simp [stepD, hl]
    rw [e]
    exact ⟨devB_mk h1 (by show (-1 : Int) ≤ 0; decide) (by show (0 : Int) ≤ 1000000; decide) (fun _ => rfl) h5, rfl⟩
  · have hs := effD_S (n := m.length) (s := (m, q)) ⟨rfl, h5⟩ ho
    have e : stepD (m, q, left, down) o = ((effD (m, q) o).1, (effD (m, q) o).2, spL left, down) := by simp [stepD, hl]
    rw [e]
    have hlen : (effD (m, q) o).1.length = m.length := by have := hs.1; omega
    refine ⟨devB_mk (by rw [hlen]; exact h1) (by show -1 ≤ spL left; unfold spL; split <;> omega) (by show spL left ≤ 1000000; unfold spL; split <;> omega) (fun hn => absurd (h4 hn) hl) (by rw [hlen]; exact hs.2), hlen⟩
end Go.Proofs.Ytmkcpnklaijkfaa
