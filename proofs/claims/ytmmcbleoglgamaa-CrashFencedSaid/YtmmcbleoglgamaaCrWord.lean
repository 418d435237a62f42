/-
  Plain facts: each word behind a crash is old or new; the indices kept, in order.
-/
import Derived.Test.YtmmcbleoglgamaaCrEnd
namespace Go.Proofs.Ytmmcbleoglgamaa
theorem crM_far {mask : Int} : ∀ {q : List Dw} {i : Nat} {m : List Int} {j : Nat}, (∀ x ∈ q, x.1.toNat ≠ j) → (crM mask i m q)[j]? = m[j]?
  | [], _, _, _, _ => rfl
  | x :: l, i, m, j, h => by
    unfold crM
    rw [crM_far (fun y hy => h y (List.mem_cons_of_mem _ hy))]
    split
    · rw [List.getElem?_set_ne (h x (List.mem_cons_self ..))]
    · rfl
theorem crM_hit {mask n : Int} : ∀ {q : List Dw} {b : Int} {i : Nat} {m : List Int}, -1 ≤ b → ascB n b q = true → (m.length : Int) = n → ∀ {k : Nat} {x : Dw}, q[k]? = some x → (crM mask i m q)[x.1.toNat]? = if kpB mask (i + k) then some x.2.1 else m[x.1.toNat]?
  | [], _, _, _, _, _, _, k, x, hx => by simp at hx
  | y :: l, b, i, m, hb, hq, hm, k, x, hx => by
    simp only [ascB, Bool.and_eq_true, decide_eq_true_eq] at hq
    unfold crM
    cases k with
    | zero =>
      simp only [List.getElem?_cons_zero, Option.some.injEq] at hx
      subst hx
      rw [crM_far (fun z hz => by have := ascB_mem hq.2 z hz; omega), Nat.add_zero]
      split
      · rw [List.getElem?_set_self (by omega)]
      · rfl
    | succ k =>
      simp only [List.getElem?_cons_succ] at hx
      have hz := ascB_mem hq.2 x (List.mem_of_getElem? hx)
      have hl : ((if kpB mask i = true then m.set y.1.toNat y.2.1 else m).length : Int) = n := by split <;> simp [hm]
      rw [crM_hit (by omega) hq.2 hl hx, show i + 1 + k = i + (k + 1) from by omega]
      split
      · rfl
      · split
        · rw [List.getElem?_set_ne (by omega)]
        · rfl
theorem crM_or {mask n : Int} {q : List Dw} {m : List Int} (hq : ascB n (-1) q = true) (hm : (m.length : Int) = n) (j : Nat) : (crM mask 0 m q)[j]? = m[j]? ∨ (crM mask 0 m q)[j]? = (wrd m q)[j]? := by
  by_cases h : ∃ x ∈ q, x.1.toNat = j
  · obtain ⟨x, hx, rfl⟩ := h
    obtain ⟨k, hk⟩ := List.mem_iff_getElem?.1 hx
    rw [crM_hit (by omega) hq hm hk, wrd_at (by omega) hq hm x hx]
    split
    · exact .inr rfl
    · exact .inl rfl
  · exact .inl (crM_far fun x hx e => h ⟨x, hx, e⟩)
theorem keptN_split (mask : Int) (i : Nat) : ∀ n, i ≤ n → ∃ r, keptN mask n = keptN mask i ++ r ∧ ∀ y ∈ r, (i : Int) ≤ y := by
  intro n hn
  induction n with
  | zero => obtain rfl : i = 0 := by omega
            exact ⟨[], by simp, by simp⟩
  | succ n ih =>
    by_cases h : i ≤ n
    · obtain ⟨r, h1, h2⟩ := ih h
      refine ⟨r ++ (if kpB mask n then [(n : Int)] else []), by rw [keptN_succ, h1, List.append_assoc], ?_⟩
      intro y hy
      rcases List.mem_append.1 hy with hy | hy
      · exact h2 y hy
      · split at hy
        · simp at hy; omega
        · simp at hy
    · obtain rfl : i = n + 1 := by omega
      exact ⟨[], by simp, by simp⟩
/-- The next kept index, when the mask keeps i. -/
theorem keptN_yes {mask : Int} {i n : Nat} (h : i < n) (hk : kpB mask i = true) : (keptN mask n)[(keptN mask i).length]? = some (i : Int) := by
  obtain ⟨r, h1, -⟩ := keptN_split mask (i + 1) n h
  rw [h1, keptN_succ, hk, if_pos rfl, List.append_assoc, List.getElem?_append_right (Nat.le_refl _)]
  simp
theorem keptN_no {mask : Int} {i n : Nat} (h : i < n) (hk : kpB mask i = false) {y : Int} (hy : (keptN mask n)[(keptN mask i).length]? = some y) : y ≠ (i : Int) := by
  obtain ⟨r, h1, h2⟩ := keptN_split mask (i + 1) n h
  rw [h1, keptN_succ, hk, if_neg (by decide), List.append_nil, List.getElem?_append_right (Nat.le_refl _)] at hy
  have := h2 y (List.mem_of_getElem? hy)
  omega
theorem keptN_le {mask : Int} {i n : Nat} (h : i ≤ n) : (keptN mask i).length ≤ (keptN mask n).length := by
  obtain ⟨r, h1, -⟩ := keptN_split mask i n h
  rw [h1]; simp
end Go.Proofs.Ytmmcbleoglgamaa
