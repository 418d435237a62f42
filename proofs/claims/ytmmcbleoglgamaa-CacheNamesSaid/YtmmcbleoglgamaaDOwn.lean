/-
  Rows of dirty words of the call's own: reading and storing; what an operation makes of a device.
-/
import Derived.Test.YtmmcbleoglgamaaDRTwin
namespace Go.Proofs.Ytmmcbleoglgamaa
open Go.RowKit
theorem fD_set2 {q : List Dw} {i : Nat} {x : Dw} (hx : q[i]? = some x) (b : Bool) : (fD q).set (i * 3 + 2) (.bool b) = fD (q.set i (x.1, x.2.1, b)) := by
  induction q generalizing i with
  | nil => simp at hx
  | cons e l ih =>
    cases i with
    | zero => simp at hx; subst hx; simp [fD]
    | succ i =>
      have := ih (i := i) (by simpa using hx)
      rw [show (i + 1) * 3 + 2 = (i * 3 + 2) + 1 + 1 + 1 from by omega]
      simp only [fD, List.set_cons_succ, this]
theorem fD_set3 {q : List Dw} {i : Nat} (hi : i < q.length) (y : Dw) : (((fD q).set (i * 3) (.int .i64 y.1)).set (i * 3 + 1) (.int .u64 y.2.1)).set (i * 3 + 2) (.bool y.2.2) = fD (q.set i y) := by
  induction q generalizing i with
  | nil => simp at hi
  | cons e l ih =>
    cases i with
    | zero => simp [fD]
    | succ i =>
      have := ih (i := i) (by simpa using hi)
      rw [show (i + 1) * 3 = (i * 3) + 1 + 1 + 1 from by omega]
      simp only [fD, List.set_cons_succ]
      rw [this]
theorem own_at_D {w : World} {base : Nat} {e : TypeId} {g n c : Nat} {q : List Dw} (h : w.ownsRow base e 3 (.slice (some ⟨g, 0, none⟩) n c) n (fD q)) {i : Nat} (hi : i < q.length) :
    ∃ x, q[i]? = some x ∧ w.cell? ⟨g, i * 3, none⟩ = some (.int .i64 x.1) ∧ w.cell? ⟨g, i * 3 + 1, none⟩ = some (.int .u64 x.2.1) ∧ w.cell? ⟨g, i * 3 + 2, none⟩ = some (.bool x.2.2) ∧ ∀ o, w.frozen? ⟨g, o, none⟩ = false := by
  have hl := h.1
  rw [fD_length] at hl
  have hx := List.getElem?_eq_getElem hi
  obtain ⟨g0, g1, g2⟩ := fD_get hx
  exact ⟨q[i], hx, by rw [h.cellAt _ (by omega)]; exact g0, by rw [h.cellAt _ (by omega)]; exact g1, by rw [h.cellAt _ (by omega)]; exact g2, h.frozenAt⟩
theorem own_set_D2 {w : World} {base : Nat} {e : TypeId} {g n c : Nat} {q : List Dw} (h : w.ownsRow base e 3 (.slice (some ⟨g, 0, none⟩) n c) n (fD q)) {i : Nat} {x : Dw} (hx : q[i]? = some x) (b : Bool) :
    (w.setCell ⟨g, i * 3 + 2, none⟩ (.bool b)).ownsRow base e 3 (.slice (some ⟨g, 0, none⟩) n c) n (fD (q.set i (x.1, x.2.1, b))) := by
  have := (h.stored (i * 3 + 2) (.bool b)).1
  rwa [fD_set2 hx] at this
theorem own_set_D3 {w : World} {base : Nat} {e : TypeId} {g n c : Nat} {q : List Dw} (h : w.ownsRow base e 3 (.slice (some ⟨g, 0, none⟩) n c) n (fD q)) {i : Nat} (hi : i < q.length) (y : Dw) :
    (((w.setCell ⟨g, i * 3, none⟩ (.int .i64 y.1)).setCell ⟨g, i * 3 + 1, none⟩ (.int .u64 y.2.1)).setCell ⟨g, i * 3 + 2, none⟩ (.bool y.2.2)).ownsRow base e 3 (.slice (some ⟨g, 0, none⟩) n c) n (fD (q.set i y)) := by
  have h1 := (h.stored (i * 3) (.int .i64 y.1)).1
  have h2 := (h1.stored (i * 3 + 1) (.int .u64 y.2.1)).1
  have h3 := (h2.stored (i * 3 + 2) (.bool y.2.2)).1
  rwa [fD_set3 hi] at h3
/-- Two rows of two element types lie in two blocks. -/
theorem own_apart {w : World} {b1 b2 : Nat} {e1 e2 : TypeId} {s1 s2 n1 n2 : Nat} {A : Option Addr} {c1 c2 g : Nat} {xs ys : List Value} (h1 : w.ownsRow b1 e1 s1 (.slice A n1 c1) n1 xs) (h2 : w.ownsRow b2 e2 s2 (.slice (some ⟨g, 0, none⟩) n2 c2) n2 ys) (hne : e1 ≠ e2) : ∀ ad, A = some ad → ad.block ≠ g := by
  rintro ad rfl he
  rcases h1.2 with ⟨hv, _⟩ | ⟨g1, _, cur1, hv1, _, hg1, _⟩
  · cases hv
  · rcases h2.2 with ⟨hv, _⟩ | ⟨g2, _, cur2, hv2, _, hg2, _⟩
    · cases hv
    · injection hv1 with a1 _ _
      injection a1 with a1
      injection hv2 with a2 _ _
      injection a2 with a2
      injection a2 with a2 _ _
      subst a1 a2
      simp only at he
      subst he
      rw [hg1] at hg2
      injection hg2 with hg2
      injection hg2 with _ hg2 _
      exact hne hg2
theorem spD_ne {left : Int} (h : left ≠ 0) (m : List Int) (q : List Dw) (down : Bool) : spD m q left down = (m, q, spL left, down) := by simp [spD, h]
/-- What flushing, storing, fencing make of a device. -/
def flushV (m : List Int) (q : List Dw) (left : Int) (down : Bool) (a : Int) : Dev4 := if askE m q left down a = 0 then (if left = 0 then (m, q, 0, true) else (m, fluD a q, spL left, down)) else zeroV
def storeV (m : List Int) (q : List Dw) (left : Int) (down : Bool) (a v : Int) : Dev4 := if askE m q left down a = 0 then (if left = 0 then (m, q, 0, true) else (m, insD a v q, spL left, down)) else zeroV
def fenceV (m : List Int) (q : List Dw) (left : Int) (down : Bool) : Dev4 := if devE m q left down = 0 then (if left = 0 then (m, q, 0, true) else (fenM m q, fenD q, spL left, down)) else zeroV
theorem flu_at {a : Int} {q : List Dw} {k : Nat} {x : Dw} (h : q[k]? = some x) : (fluD a (q.take k) ++ q.drop k)[k]? = some x := by
  have hk := (List.getElem?_eq_some_iff.1 h).1
  rw [List.getElem?_append_right (by simp [fluD]; omega)]
  simp only [fluD_length, List.length_take, List.getElem?_drop]
  rw [show k + (k - min k q.length) = k from by omega]
  exact h
theorem flu_step {a : Int} {q : List Dw} {k : Nat} {x : Dw} (h : q[k]? = some x) : fluD a (q.take (k + 1)) ++ q.drop (k + 1) = (fluD a (q.take k) ++ q.drop k).set k (if x.1 / 8 = a / 8 then (x.1, x.2.1, true) else x) := by
  obtain ⟨hk, rfl⟩ := List.getElem?_eq_some_iff.1 h
  have hl : (fluD a (q.take k)).length = k := by simp [fluD]; omega
  rw [List.drop_eq_getElem_cons hk, List.set_append_right _ _ (by omega), hl, Nat.sub_self, List.set_cons_zero, List.take_add_one, h]
  simp only [fluD, Option.toList_some, List.map_append, List.map_cons, List.map_nil, List.append_assoc, List.cons_append, List.nil_append]
theorem retV_at {w0 w' : World} {m : List Int} {q : List Dw} {left : Int} {down : Bool} {er : Int} {n k : Nat} {L : Int} {A B : Option Addr} {c d : Nat} (hm : m.length = n) (hq : q.length = k) (hl : left = L) (hA : Sl w' A n c (fU m)) (hB : Sl w' B k d (fD q)) (hx : Ext w0 w') :
    RetV w0 (m, q, left, down) er (.returned (.tuple #[.agg #[.slice A n c, .slice B k d, .int .i64 L, .bool down], .int .i64 er])) w' := by
  subst hm hq hl
  exact ⟨A, c, B, d, rfl, hA, hB, hx⟩
end Go.Proofs.Ytmmcbleoglgamaa
