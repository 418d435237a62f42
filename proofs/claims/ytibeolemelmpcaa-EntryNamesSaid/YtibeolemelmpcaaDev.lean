/-
  Devices, in plain terms: the words that are safe, the dirty ones, how many operations are left, and whether it is down.
-/
import Derived.Test.YtibeolemelmpcaaPlain
namespace Go.Proofs.Ytibeolemelmpcaa

/-- A dirty word: address, value, flushed. -/
abbrev Dw := Int × Int × Bool
/-- Do the addresses go up from behind 'last', below n? -/
def ascB (n : Int) : Int → List Dw → Bool
  | _, [] => true
  | last, x :: l => decide (last < x.1) && decide (x.1 < n) && ascB n x.1 l
/-- Is the device valid? -/
def devB (m : List Int) (q : List Dw) (left : Int) (down : Bool) : Bool :=
  sizeB m.length && decide (-1 ≤ left) && decide (left ≤ 1000000) && (!down || decide (left = 0)) && ascB m.length (-1) q
def devE (m : List Int) (q : List Dw) (left : Int) (down : Bool) : Int := if devB m q left down then 0 else 8
/-- The error of a device and an address. -/
def askE (m : List Int) (q : List Dw) (left : Int) (down : Bool) (a : Int) : Int := if devB m q left down then (if a < 0 ∨ (m.length : Int) ≤ a then 2 else 0) else 8
/-- All words as they are loaded. -/
def wrd (m : List Int) (q : List Dw) : List Int := q.foldl (fun m x => m.set x.1.toNat x.2.1) m
/-- What an operation leaves of Left. -/
def spL (left : Int) : Int := if 0 < left then left - 1 else left
/-- The dirty words with a word stored. -/
def insD (a v : Int) : List Dw → List Dw
  | [] => [(a, v, false)]
  | x :: l => if x.1 < a then x :: insD a v l else if x.1 = a then (a, v, false) :: l else (a, v, false) :: x :: l
/-- The dirty words with the line of an address flushed. -/
def fluD (a : Int) (q : List Dw) : List Dw := q.map fun x => if x.1 / 8 = a / 8 then (x.1, x.2.1, true) else x
/-- The safe words behind a fence. -/
def fenM (m : List Int) (q : List Dw) : List Int := q.foldl (fun m x => if x.2.2 then m.set x.1.toNat x.2.1 else m) m
/-- The dirty words behind a fence. -/
def fenD (q : List Dw) : List Dw := q.filter fun x => !x.2.2

theorem devB_bd {m : List Int} {q : List Dw} {left : Int} {down : Bool} (h : devB m q left down = true) :
    sizeB m.length = true ∧ -1 ≤ left ∧ left ≤ 1000000 ∧ (down = true → left = 0) ∧ ascB m.length (-1) q = true := by
  simp only [devB, Bool.and_eq_true, decide_eq_true_eq, Bool.or_eq_true, Bool.not_eq_true'] at h
  exact ⟨h.1.1.1.1, h.1.1.1.2, h.1.1.2, fun hd => by rcases h.1.2 with h | h; simp [hd] at h; exact h, h.2⟩
theorem devB_mk {m : List Int} {q : List Dw} {left : Int} {down : Bool} (h1 : sizeB m.length = true) (h2 : -1 ≤ left) (h3 : left ≤ 1000000) (h4 : down = true → left = 0) (h5 : ascB m.length (-1) q = true) : devB m q left down = true := by
  simp only [devB, Bool.and_eq_true, decide_eq_true_eq, Bool.or_eq_true, Bool.not_eq_true']
  refine ⟨⟨⟨⟨h1, h2⟩, h3⟩, ?_⟩, h5⟩
  cases down
  · exact .inl rfl
  · exact .inr (h4 rfl)

/- addresses that go up -/
theorem ascB_weak {n : Int} : ∀ {q : List Dw} {a b : Int}, a ≤ b → ascB n b q = true → ascB n a q = true
  | [], _, _, _, _ => rfl
  | x :: l, a, b, h, hq => by
    simp only [ascB, Bool.and_eq_true, decide_eq_true_eq] at hq ⊢
    exact ⟨⟨by omega, hq.1.2⟩, hq.2⟩
theorem ascB_mem {n : Int} : ∀ {q : List Dw} {a : Int}, ascB n a q = true → ∀ x ∈ q, a < x.1 ∧ x.1 < n
  | [], _, _, x, hx => by cases hx
  | y :: l, a, hq, x, hx => by
    simp only [ascB, Bool.and_eq_true, decide_eq_true_eq] at hq
    rcases List.mem_cons.1 hx with rfl | hx
    · exact ⟨hq.1.1, hq.1.2⟩
    · have := ascB_mem hq.2 x hx
      exact ⟨by omega, this.2⟩
theorem ascB_append {n : Int} : ∀ {q o : List Dw} {a : Int}, ascB n a (q ++ o) = true ↔ ascB n a q = true ∧ ∀ b, (b = a ∧ q = [] ∨ (∃ x, q.getLast? = some x ∧ x.1 = b)) → ascB n b o = true
  | [], o, a => by simp [ascB]
  | y :: l, o, a => by
    simp only [List.cons_append, ascB, Bool.and_eq_true, decide_eq_true_eq, ascB_append (q := l)]
    constructor
    · rintro ⟨h1, h2, h3⟩
      refine ⟨⟨h1, h2⟩, fun b hb => ?_⟩
      rcases hb with ⟨_, h⟩ | ⟨x, hx, rfl⟩
      · cases h
      · cases l with
        | nil => simp at hx; subst hx; exact h3 _ (.inl ⟨rfl, rfl⟩)
        | cons z l => exact h3 _ (.inr ⟨x, by simpa using hx, rfl⟩)
    · rintro ⟨⟨h1, h2⟩, h3⟩
      refine ⟨h1, h2, fun b hb => ?_⟩
      rcases hb with ⟨rfl, rfl⟩ | ⟨x, hx, rfl⟩
      · exact h3 _ (.inr ⟨y, rfl, rfl⟩)
      · exact h3 _ (.inr ⟨x, by cases l with | nil => simp at hx | cons z l => simpa using hx, rfl⟩)
theorem ascB_sub {n : Int} : ∀ {q o : List Dw} {a : Int}, o.Sublist q → ascB n a q = true → ascB n a o = true
  | _, _, _, .slnil, h => h
  | _, _, _, .cons y s, h => by
    simp only [ascB, Bool.and_eq_true, decide_eq_true_eq] at h
    exact ascB_weak (by omega) (ascB_sub s h.2)
  | _, _, _, .cons_cons y s, h => by
    simp only [ascB, Bool.and_eq_true, decide_eq_true_eq] at h ⊢
    exact ⟨h.1, ascB_sub s h.2⟩
theorem ascB_ins {n a v : Int} : ∀ {q : List Dw} {b : Int}, b < a → a < n → ascB n b q = true → ascB n b (insD a v q) = true
  | [], b, h1, h2, _ => by simp [insD, ascB]; omega
  | x :: l, b, h1, h2, h => by
    simp only [ascB, Bool.and_eq_true, decide_eq_true_eq] at h
    unfold insD
    split
    · simp only [ascB, Bool.and_eq_true, decide_eq_true_eq]
      exact ⟨h.1, ascB_ins (by omega) h2 h.2⟩
    · split
      · rename_i h3 h4
        simp only [ascB, Bool.and_eq_true, decide_eq_true_eq]
        refine ⟨⟨by omega, h2⟩, ?_⟩
        rw [← h4]; exact h.2
      · simp only [ascB, Bool.and_eq_true, decide_eq_true_eq]
        exact ⟨⟨h1, h2⟩, ⟨by omega, h.1.2⟩, h.2⟩
theorem ascB_flu {n a : Int} : ∀ {q : List Dw} {b : Int}, ascB n b q = true → ascB n b (fluD a q) = true
  | [], _, _ => rfl
  | x :: l, b, h => by
    simp only [ascB, Bool.and_eq_true, decide_eq_true_eq] at h
    have e : fluD a (x :: l) = (if x.1 / 8 = a / 8 then (x.1, x.2.1, true) else x) :: fluD a l := rfl
    have e1 : (if x.1 / 8 = a / 8 then ((x.1, x.2.1, true) : Dw) else x).1 = x.1 := by split <;> rfl
    rw [e]
    simp only [ascB, Bool.and_eq_true, decide_eq_true_eq, e1]
    exact ⟨h.1, ascB_flu h.2⟩
theorem ascB_fen {n b : Int} {q : List Dw} (h : ascB n b q = true) : ascB n b (fenD q) = true := ascB_sub List.filter_sublist h

/- lengths -/
theorem wrd_length (q : List Dw) : ∀ m, (wrd m q).length = m.length := by
  induction q with
  | nil => intro m; rfl
  | cons x l ih => intro m; simp only [wrd, List.foldl_cons] at ih ⊢; rw [ih]; simp
theorem fenM_length (q : List Dw) : ∀ m, (fenM m q).length = m.length := by
  induction q with
  | nil => intro m; rfl
  | cons x l ih => intro m; simp only [fenM, List.foldl_cons] at ih ⊢; rw [ih]; split <;> simp
theorem fluD_length (a : Int) (q : List Dw) : (fluD a q).length = q.length := by simp [fluD]
theorem insD_length (a v : Int) : ∀ q : List Dw, (insD a v q).length ≤ q.length + 1
  | [] => by simp [insD]
  | x :: l => by
    have := insD_length a v l
    unfold insD; split
    · simp; omega
    · split <;> simp
theorem fenD_length (q : List Dw) : (fenD q).length ≤ q.length := List.length_filter_le _ _
theorem asc_length {n : Int} : ∀ {q : List Dw} {a : Int}, ascB n a q = true → a < n → (q.length : Int) ≤ n - 1 - a
  | [], a, _, h => by simp; omega
  | x :: l, a, hq, h => by
    simp only [ascB, Bool.and_eq_true, decide_eq_true_eq] at hq
    have := asc_length hq.2 hq.1.2
    simp; omega
theorem dirty_le {m : List Int} {q : List Dw} {left : Int} {down : Bool} (h : devB m q left down = true) : q.length ≤ 2048 := by
  obtain ⟨h1, _, _, _, h5⟩ := devB_bd h
  have h2 := sizeB_bd h1
  have := asc_length h5 (by omega)
  omega

/- numbers that fit -/
theorem wfD_ins {a v : Int} (ha : InI a) (hv : InU v) : ∀ {q : List Dw}, WfD q → WfD (insD a v q)
  | [], _, x, hx => by simp [insD] at hx; subst hx; exact ⟨ha, hv⟩
  | y :: l, h, x, hx => by
    unfold insD at hx
    split at hx
    · rcases List.mem_cons.1 hx with rfl | hx
      · exact h _ (List.mem_cons_self ..)
      · exact wfD_ins ha hv (fun z hz => h z (List.mem_cons_of_mem _ hz)) x hx
    · split at hx
      · rcases List.mem_cons.1 hx with rfl | hx
        · exact ⟨ha, hv⟩
        · exact h x (List.mem_cons_of_mem _ hx)
      · rcases List.mem_cons.1 hx with rfl | hx
        · exact ⟨ha, hv⟩
        · exact h x hx
theorem wfD_flu {a : Int} {q : List Dw} (h : WfD q) : WfD (fluD a q) := by
  intro x hx
  obtain ⟨y, hy, rfl⟩ := List.mem_map.1 hx
  have := h y hy
  split
  · exact this
  · exact this
theorem wfD_fen {q : List Dw} (h : WfD q) : WfD (fenD q) := fun x hx => h x ((List.mem_filter.1 hx).1)
theorem wfU_set {m : List Int} {i : Nat} {v : Int} (h : WfU m) (hv : InU v) : WfU (m.set i v) := fun x hx => by
  rcases List.mem_or_eq_of_mem_set hx with hx | rfl
  · exact h x hx
  · exact hv
theorem wfU_wrd : ∀ {q : List Dw} {m : List Int}, WfD q → WfU m → WfU (wrd m q)
  | [], _, _, h => h
  | x :: l, m, hq, h => wfU_wrd (q := l) (m := m.set x.1.toNat x.2.1) (fun y hy => hq y (List.mem_cons_of_mem _ hy)) (wfU_set h (hq x (List.mem_cons_self ..)).2)
theorem wfU_fen : ∀ {q : List Dw} {m : List Int}, WfD q → WfU m → WfU (fenM m q)
  | [], _, _, h => h
  | x :: l, m, hq, h => by
    have e : fenM m (x :: l) = fenM (if x.2.2 then m.set x.1.toNat x.2.1 else m) l := rfl
    rw [e]
    refine wfU_fen (fun y hy => hq y (List.mem_cons_of_mem _ hy)) ?_
    split
    · exact wfU_set h (hq x (List.mem_cons_self ..)).2
    · exact h
theorem wfU_applied : ∀ {l : List (Int × Int)} {m : List Int}, WfE l → WfU m → WfU (applied m l)
  | [], _, _, h => h
  | x :: l, m, hq, h => wfU_applied (l := l) (m := m.set x.1.toNat x.2) (fun y hy => hq y (List.mem_cons_of_mem _ hy)) (wfU_set h (hq x (List.mem_cons_self ..)).2)
end Go.Proofs.Ytibeolemelmpcaa
