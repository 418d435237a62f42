/-
  Devices, in plain terms: where an address is among the dirty words; what a load, a store, a crash gives.
-/
import Derived.Test.YtmmcbleoglgamaaDev
namespace Go.Proofs.Ytmmcbleoglgamaa

/-- How many dirty words at the front lie below an address. -/
def cntLt (a : Int) : List Dw → Nat
  | [] => 0
  | x :: l => if x.1 < a then cntLt a l + 1 else 0
/-- Is the address dirty? -/
def fndD (a : Int) : List Dw → Bool
  | [] => false
  | x :: l => if x.1 < a then fndD a l else x.1 == a
theorem cntLt_le (a : Int) : ∀ q : List Dw, cntLt a q ≤ q.length
  | [] => Nat.le_refl _
  | x :: l => by
    have := cntLt_le a l
    unfold cntLt; split
    · simp; omega
    · simp
theorem cntLt_iff {n a : Int} : ∀ {q : List Dw} {b : Int}, ascB n b q = true → ∀ {h : Nat} {x : Dw}, q[h]? = some x → (x.1 < a ↔ h < cntLt a q)
  | [], _, _, h, x, hx => by simp at hx
  | y :: l, b, hq, h, x, hx => by
    simp only [ascB, Bool.and_eq_true, decide_eq_true_eq] at hq
    unfold cntLt
    cases h with
    | zero =>
      simp at hx; subst hx
      by_cases c : y.1 < a
      · simp [c]
      · simp [c]
    | succ h =>
      have hx' : l[h]? = some x := by simpa using hx
      by_cases c : y.1 < a
      · rw [if_pos c, cntLt_iff hq.2 hx']; omega
      · rw [if_neg c]
        have := (ascB_mem hq.2 x (List.mem_of_getElem? hx')).1
        constructor
        · intro; omega
        · intro h; cases h
theorem fnd_at {a : Int} : ∀ {q : List Dw}, fndD a q = true → ∃ x, q[cntLt a q]? = some x ∧ x.1 = a
  | [], h => by simp [fndD] at h
  | y :: l, h => by
    unfold fndD at h
    unfold cntLt
    by_cases c : y.1 < a
    · rw [if_pos c] at h ⊢
      obtain ⟨x, h1, h2⟩ := fnd_at h
      exact ⟨x, by simpa using h1, h2⟩
    · rw [if_neg c] at h ⊢
      exact ⟨y, rfl, by simpa using h⟩
theorem fnd_not {a : Int} : ∀ {q : List Dw} {x : Dw}, fndD a q = false → q[cntLt a q]? = some x → x.1 ≠ a
  | [], x, _, h => by simp at h
  | y :: l, x, h, hx => by
    unfold fndD at h
    unfold cntLt at hx
    by_cases c : y.1 < a
    · rw [if_pos c] at h hx
      exact fnd_not h (by simpa using hx)
    · rw [if_neg c] at h hx
      simp at hx; subst hx
      simpa using h
theorem fnd_iff {n a : Int} : ∀ {q : List Dw} {b : Int}, ascB n b q = true → (fndD a q = true ↔ ∃ x ∈ q, x.1 = a)
  | [], _, _ => by simp [fndD]
  | y :: l, b, hq => by
    simp only [ascB, Bool.and_eq_true, decide_eq_true_eq] at hq
    unfold fndD
    by_cases c : y.1 < a
    · rw [if_pos c, fnd_iff hq.2]
      constructor
      · rintro ⟨x, h1, h2⟩; exact ⟨x, List.mem_cons_of_mem _ h1, h2⟩
      · rintro ⟨x, h1, h2⟩
        rcases List.mem_cons.1 h1 with rfl | h1
        · omega
        · exact ⟨x, h1, h2⟩
    · rw [if_neg c]
      constructor
      · intro h; exact ⟨y, List.mem_cons_self .., by simpa using h⟩
      · rintro ⟨x, h1, h2⟩
        rcases List.mem_cons.1 h1 with rfl | h1
        · simpa using h2
        · have := (ascB_mem hq.2 x h1).1
          omega
/-- A store at an address that is dirty, and at one that is not. -/
theorem insD_fnd {a v : Int} : ∀ {q : List Dw}, fndD a q = true → insD a v q = q.set (cntLt a q) (a, v, false)
  | [], h => by simp [fndD] at h
  | y :: l, h => by
    unfold fndD at h
    unfold cntLt insD
    by_cases c : y.1 < a
    · rw [if_pos c] at h ⊢
      rw [if_pos c, insD_fnd h]; rfl
    · rw [if_neg c] at h ⊢
      rw [if_neg c, if_pos (by simpa using h)]; rfl
theorem insD_not {a v : Int} : ∀ {q : List Dw}, fndD a q = false → insD a v q = q.take (cntLt a q) ++ (a, v, false) :: q.drop (cntLt a q)
  | [], _ => rfl
  | y :: l, h => by
    unfold fndD at h
    unfold cntLt insD
    by_cases c : y.1 < a
    · rw [if_pos c] at h ⊢
      rw [if_pos c, insD_not h]; rfl
    · rw [if_neg c] at h ⊢
      rw [if_neg c, if_neg (by simpa using h)]; rfl

/- what is loaded -/
theorem wrd_cons (m : List Int) (x : Dw) (l : List Dw) : wrd m (x :: l) = wrd (m.set x.1.toNat x.2.1) l := rfl
theorem wrd_append (m : List Int) (q o : List Dw) : wrd m (q ++ o) = wrd (wrd m q) o := by simp [wrd]
theorem wrd_take {m : List Int} {q : List Dw} {k : Nat} {x : Dw} (h : q[k]? = some x) : wrd m (q.take (k + 1)) = (wrd m (q.take k)).set x.1.toNat x.2.1 := by
  rw [List.take_add_one, h, wrd_append]; rfl
theorem wrd_far : ∀ {q : List Dw} {m : List Int} {i : Nat}, (∀ x ∈ q, x.1.toNat ≠ i) → (wrd m q)[i]? = m[i]?
  | [], _, _, _ => rfl
  | x :: l, m, i, h => by
    rw [wrd_cons, wrd_far (fun y hy => h y (List.mem_cons_of_mem _ hy)), List.getElem?_set_ne (h x (List.mem_cons_self ..))]
theorem wrd_at {n : Int} : ∀ {q : List Dw} {b : Int} {m : List Int}, -1 ≤ b → ascB n b q = true → (m.length : Int) = n → ∀ x ∈ q, (wrd m q)[x.1.toNat]? = some x.2.1
  | [], _, _, _, _, _, x, hx => by cases hx
  | y :: l, b, m, hb, hq, hm, x, hx => by
    simp only [ascB, Bool.and_eq_true, decide_eq_true_eq] at hq
    rw [wrd_cons]
    rcases List.mem_cons.1 hx with rfl | hx
    · rw [wrd_far, List.getElem?_set_self (by omega)]
      intro z hz
      have := ascB_mem hq.2 z hz
      omega
    · exact wrd_at (by omega) hq.2 (by simpa using hm) x hx
/-- The word that is loaded at an address. -/
def ldV (m : List Int) (q : List Dw) (a : Int) : Int := (wrd m q).getD a.toNat 0
theorem ld_fnd {n a : Int} {q : List Dw} {b : Int} {m : List Int} (hb : -1 ≤ b) (hq : ascB n b q = true) (hm : (m.length : Int) = n) {x : Dw} (h : fndD a q = true) (hx : q[cntLt a q]? = some x) : ldV m q a = x.2.1 := by
  obtain ⟨y, h1, h2⟩ := fnd_at h
  rw [hx] at h1; injection h1 with h1; subst h1
  have := wrd_at hb hq hm x (List.mem_of_getElem? hx)
  rw [h2] at this
  simp [ldV, List.getD, this]
theorem ld_not {n a : Int} {q : List Dw} {b : Int} {m : List Int} (hb : -1 ≤ b) (hq : ascB n b q = true) (ha : 0 ≤ a) (h : fndD a q = false) : ldV m q a = m.getD a.toNat 0 := by
  have : (wrd m q)[a.toNat]? = m[a.toNat]? := by
    refine wrd_far fun x hx he => ?_
    have h1 := ascB_mem hq x hx
    have h2 : fndD a q = true := (fnd_iff hq).2 ⟨x, hx, by omega⟩
    rw [h] at h2; cases h2
  simp [ldV, List.getD, this]

/- the reference's store: one pass -/
def stG (a v : Int) : Bool → List Dw → List Dw
  | p, [] => if p then [] else [(a, v, false)]
  | p, x :: l => (if !p && decide (a ≤ x.1) then [(a, v, false)] else []) ++ ((if x.1 ≠ a then [x] else []) ++ stG a v (p || decide (a ≤ x.1)) l)
theorem stG_past {n a v : Int} : ∀ {q : List Dw} {b : Int}, a ≤ b → ascB n b q = true → stG a v true q = q
  | [], _, _, _ => rfl
  | x :: l, b, h, hq => by
    simp only [ascB, Bool.and_eq_true, decide_eq_true_eq] at hq
    have : x.1 ≠ a := by omega
    simp only [stG, Bool.not_true, Bool.false_and, Bool.false_eq_true, if_false, List.nil_append, this, ne_eq, not_false_eq_true, if_true, Bool.true_or]
    rw [stG_past (q := l) (by omega) hq.2]; rfl
theorem stG_ins {n a v : Int} : ∀ {q : List Dw} {b : Int}, ascB n b q = true → stG a v false q = insD a v q
  | [], _, _ => rfl
  | x :: l, b, hq => by
    simp only [ascB, Bool.and_eq_true, decide_eq_true_eq] at hq
    unfold insD
    by_cases c : x.1 < a
    · have h1 : ¬ a ≤ x.1 := by omega
      have h2 : x.1 ≠ a := by omega
      simp only [stG, h1, h2, decide_false, Bool.and_false, Bool.false_eq_true, if_false, List.nil_append, ne_eq, not_false_eq_true, if_true, Bool.or_false, c]
      rw [stG_ins hq.2]; rfl
    · have h1 : a ≤ x.1 := by omega
      rw [if_neg c]
      by_cases h2 : x.1 = a
      · have := stG_past (v := v) (a := a) (q := l) (b := x.1) (by omega) hq.2
        simp [stG, h2, this]
      · have := stG_past (v := v) (a := a) (q := l) (b := x.1) (by omega) hq.2
        simp [stG, h1, h2, this]

/- crashes -/
/-- Does a mask keep the dirty word with an index? -/
def kpB (mask : Int) (i : Nat) : Bool := decide (mask / 2 ^ (i % 64) % 2 = 1)
/-- The indices that a mask keeps, among the first n. -/
def keptN (mask : Int) (n : Nat) : List Int := ((List.range n).filter (kpB mask)).map Int.ofNat
/-- The image behind a crash: the dirty words have the indices from i on. -/
def crM (mask : Int) : Nat → List Int → List Dw → List Int
  | _, m, [] => m
  | i, m, x :: l => crM mask (i + 1) (if kpB mask i then m.set x.1.toNat x.2.1 else m) l
theorem keptN_succ (mask : Int) (k : Nat) : keptN mask (k + 1) = keptN mask k ++ if kpB mask k then [(k : Int)] else [] := by
  simp only [keptN, List.range_succ, List.filter_append, List.map_append]
  congr 1
  cases h : kpB mask k <;> simp [h]
theorem keptN_length (mask : Int) (k : Nat) : (keptN mask k).length ≤ k := by
  simp only [keptN, List.length_map]
  exact Nat.le_trans (List.length_filter_le _ _) (by simp)
theorem crM_length (mask : Int) : ∀ (q : List Dw) (i : Nat) (m : List Int), (crM mask i m q).length = m.length
  | [], _, _ => rfl
  | x :: l, i, m => by unfold crM; rw [crM_length mask l]; split <;> simp
theorem crM_snoc (mask : Int) (x : Dw) : ∀ (q : List Dw) (i : Nat) (m : List Int), crM mask i m (q ++ [x]) = if kpB mask (i + q.length) then (crM mask i m q).set x.1.toNat x.2.1 else crM mask i m q
  | [], i, m => by simp [crM]
  | y :: l, i, m => by
    simp only [List.cons_append, crM, List.length_cons]
    rw [crM_snoc mask x l, show i + 1 + l.length = i + (l.length + 1) from by omega]
theorem crM_take {mask : Int} {m : List Int} {q : List Dw} {k : Nat} {x : Dw} (h : q[k]? = some x) : crM mask 0 m (q.take (k + 1)) = if kpB mask k then (crM mask 0 m (q.take k)).set x.1.toNat x.2.1 else crM mask 0 m (q.take k) := by
  have hk : (q.take k).length = k := by
    have := (List.getElem?_eq_some_iff.1 h).1
    simp; omega
  rw [List.take_add_one, h, Option.toList_some, crM_snoc, Nat.zero_add, hk]
theorem wfU_cr {mask : Int} : ∀ {q : List Dw} {i : Nat} {m : List Int}, WfD q → WfU m → WfU (crM mask i m q)
  | [], _, _, _, h => h
  | x :: l, i, m, hq, h => by
    unfold crM
    refine wfU_cr (fun y hy => hq y (List.mem_cons_of_mem _ hy)) ?_
    split
    · exact wfU_set h (hq x (List.mem_cons_self ..)).2
    · exact h
end Go.Proofs.Ytmmcbleoglgamaa
