/-
  Put, in plain terms.
-/
import Derived.Test.YtmkcpnklaijkfaaPut
namespace Go.Proofs.Ytmkcpnklaijkfaa
open Go.RowKit
/-- Do all addresses lie in an image of n words? -/
def inrB (l : List (Int × Int)) (n : Int) : Bool := l.all fun e => decide (0 ≤ e.1) && decide (e.1 < n)
def putE (m : List Int) (q : List Dw) (left : Int) (down : Bool) (l : List (Int × Int)) : Int := if devB m q left down then (if 64 < l.length then 4 else if inrB l m.length then 0 else 2) else 8
def putV (m : List Int) (q : List Dw) (left : Int) (down : Bool) (l : List (Int × Int)) : Dev4 := if putE m q left down l = 0 then runD (m, q, left, down) (putOps l 256) else zeroV
theorem inrB_iff {l : List (Int × Int)} {n : Int} : inrB l n = true ↔ ∀ e ∈ l, 0 ≤ e.1 ∧ e.1 < n := by
  simp [inrB]
theorem putE_ok {m : List Int} {q : List Dw} {left : Int} {down : Bool} {l : List (Int × Int)} (h : putE m q left down l = 0) : devB m q left down = true ∧ l.length ≤ 64 ∧ ∀ e ∈ l, 0 ≤ e.1 ∧ e.1 < m.length := by
  unfold putE at h
  split at h
  · split at h
    · cases h
    · split at h
      · exact ⟨by assumption, by omega, inrB_iff.1 (by assumption)⟩
      · cases h
  · cases h
theorem devB_run {os : List Dop} : ∀ {m : List Int} {q : List Dw} {left : Int} {down : Bool}, devB m q left down = true → (∀ o ∈ os, OpIn m.length o) →
    devB (runD (m, q, left, down) os).1 (runD (m, q, left, down) os).2.1 (runD (m, q, left, down) os).2.2.1 (runD (m, q, left, down) os).2.2.2 = true ∧ (runD (m, q, left, down) os).1.length = m.length := by
  induction os with
  | nil => intro m q left down h _; exact ⟨h, rfl⟩
  | cons o os ih =>
    intro m q left down h ho
    have h1 := devB_step h (ho o (List.mem_cons_self ..))
    obtain ⟨⟨m1, q1, l1, n1⟩, e⟩ : ∃ D, stepD (m, q, left, down) o = D := ⟨_, rfl⟩
    rw [e] at h1
    rw [runD_cons, e]
    have := ih h1.1 (fun x hx => by rw [h1.2]; exact ho x (List.mem_cons_of_mem _ hx))
    exact ⟨this.1, this.2.trans h1.2⟩
theorem stOps_take {l : List (Int × Int)} {k : Nat} {x : Int × Int} (h : l[k]? = some x) : stOps (l.take (k + 1)) = stOps (l.take k) ++ [.st x.1 x.2] := by
  rw [List.take_add_one, h]
  simp [stOps]
/-- Is there an entry in a line? -/
def inLn (l : List (Int × Int)) (k : Nat) : Bool := l.any fun e => decide (e.1 / 8 = (k : Int))
theorem flOps_succ (l : List (Int × Int)) (k : Nat) : flOps l (k + 1) = flOps l k ++ if inLn l k then [.fl (8 * (k : Int))] else [] := by
  simp only [flOps, lineL, List.range_succ, List.filter_append, List.map_append]
  congr 1
  cases h : inLn l k
  · rw [List.filter_cons_of_neg (by rw [show (l.any fun e => decide (e.1 / 8 = (k : Int))) = inLn l k from rfl, h]; decide)]; rfl
  · rw [List.filter_cons_of_pos (by rw [show (l.any fun e => decide (e.1 / 8 = (k : Int))) = inLn l k from rfl, h])]; rfl
theorem runD_snoc (D : Dev4) (os : List Dop) (o : Dop) : runD D (os ++ [o]) = stepD (runD D os) o := by simp [runD]
theorem inLn_lt {l : List (Int × Int)} {n k : Nat} (h : inLn l k = true) (hr : ∀ e ∈ l, 0 ≤ e.1 ∧ e.1 < (n : Int)) (hn : (n : Int) % 8 = 0) : 8 * (k : Int) < n := by
  obtain ⟨e, he, h1⟩ := List.any_eq_true.1 h
  have := hr e he
  have h2 : e.1 / 8 = (k : Int) := by simpa using h1
  omega
theorem flOps_in {l : List (Int × Int)} {n : Nat} (hr : ∀ e ∈ l, 0 ≤ e.1 ∧ e.1 < (n : Int)) (hn : (n : Int) % 8 = 0) (k : Nat) : ∀ o ∈ flOps l k, OpIn n o := by
  intro o ho
  simp only [flOps, List.mem_map, lineL, List.mem_filter, List.mem_range] at ho
  obtain ⟨i, ⟨_, h1⟩, rfl⟩ := ho
  exact ⟨by omega, inLn_lt h1 hr hn⟩
theorem stOps_in {l : List (Int × Int)} {n : Nat} (hr : ∀ e ∈ l, 0 ≤ e.1 ∧ e.1 < (n : Int)) (wf : WfE l) : ∀ o ∈ stOps l, OpIn n o := by
  intro o ho
  simp only [stOps, List.mem_map] at ho
  obtain ⟨e, he, rfl⟩ := ho
  exact ⟨(hr e he).1, (hr e he).2, (wf e he).2⟩
theorem putOps_in {l : List (Int × Int)} {n : Nat} (hr : ∀ e ∈ l, 0 ≤ e.1 ∧ e.1 < (n : Int)) (hn : (n : Int) % 8 = 0) (wf : WfE l) (k : Nat) : ∀ o ∈ putOps l k, OpIn n o := by
  intro o ho
  simp only [putOps, List.mem_append, List.mem_singleton] at ho
  rcases ho with h | h | rfl
  · exact stOps_in hr wf o h
  · exact flOps_in hr hn k o h
  · trivial
end Go.Proofs.Ytmkcpnklaijkfaa
