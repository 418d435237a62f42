/-
  The plain functions: what the program's functions compute, on lists and integers. No Go here.
-/
namespace Go.Proofs.Ytibeolemelmpcaa

/-- Is n a number of words of an image? -/
def sizeB (n : Int) : Bool := decide (256 ≤ n) && decide (n ≤ 2048) && decide (n % 8 = 0)
def imgE (n : Int) : Int := if sizeB n then 0 else 8
def szE (n : Int) : Int := if sizeB n then 0 else 2
/-- May the address be changed? -/
def mayB (at_ words : Int) : Bool := decide (16 ≤ at_) && decide (at_ < words) && (decide (at_ < 24) || decide (96 ≤ at_))
/-- Are n words from an address there? -/
def rngE (len at_ n : Int) : Int := if sizeB len then (if at_ < 0 ∨ n < 0 ∨ at_ > len ∨ n > len - at_ then 2 else 0) else 8
/-- Is n a cursor of the heap? -/
def curB (n : Int) : Bool := decide (128 ≤ n) && decide (n ≤ 2048) && decide (n % 2 = 0)
/-- Is the phase valid? -/
def phB (a b c : Int) : Bool :=
  if a = 4 then curB b && curB c && decide (c ≤ b) else if c ≠ 0 then false else if a = 3 then b == 0 || curB b else decide (0 ≤ a) && decide (a < 3) && b == 0
def phE (a b c : Int) : Int := if phB a b c then 0 else 8

/-- Is there an entry at an address? -/
def hasAt (l : List (Int × Int)) (x : Int) : Bool := l.any fun e => e.1 == x
/-- Are the addresses all free, and different (from those seen, too)? -/
def okFrom (words : Int) : List Int → List (Int × Int) → Bool
  | _, [] => true
  | seen, e :: l => mayB e.1 words && !seen.contains e.1 && okFrom words (e.1 :: seen) l
/-- The error of a list of entries as a change. -/
def chkE (l : List (Int × Int)) (words : Int) : Int := if sizeB words then (if l.length > 32 then 4 else if okFrom words [] l then 0 else 8) else 2
/-- The words of entries. -/
def listed : List (Int × Int) → List Int
  | [] => []
  | e :: l => e.1 :: e.2 :: listed l
/-- An image with the values of entries. -/
def applied (m : List Int) (l : List (Int × Int)) : List Int := l.foldl (fun m e => m.set e.1.toNat e.2) m

theorem sizeB_bd {n : Int} (h : sizeB n = true) : 256 ≤ n ∧ n ≤ 2048 ∧ n % 8 = 0 := by
  simp [sizeB] at h; omega
theorem mayB_bd {a n : Int} (h : mayB a n = true) : 16 ≤ a ∧ a < n ∧ (a < 24 ∨ 96 ≤ a) := by
  simp [mayB] at h; omega
theorem curB_bd {n : Int} (h : curB n = true) : 128 ≤ n ∧ n ≤ 2048 ∧ n % 2 = 0 := by
  simp [curB] at h; omega
theorem phE_of {a b c : Int} {v : Bool} (h : phB a b c = v) : phE a b c = if v then 0 else 8 := by unfold phE; rw [h]
theorem phE_cases (a b c : Int) : phE a b c = 0 ∨ phE a b c = 8 := by unfold phE; split <;> simp
theorem imgE_cases (n : Int) : imgE n = 0 ∨ imgE n = 8 := by unfold imgE; split <;> simp
theorem szE_cases (n : Int) : szE n = 0 ∨ szE n = 2 := by unfold szE; split <;> simp
theorem listed_length (l : List (Int × Int)) : (listed l).length = 2 * l.length := by
  induction l with
  | nil => rfl
  | cons e l ih => simp [listed, ih]; omega
theorem listed_append (a b : List (Int × Int)) : listed (a ++ b) = listed a ++ listed b := by
  induction a with
  | nil => rfl
  | cons e l ih => simp [listed, ih]
theorem applied_length (l : List (Int × Int)) : ∀ m, (applied m l).length = m.length := by
  induction l with
  | nil => intro m; rfl
  | cons e l ih => intro m; simp only [applied, List.foldl_cons] at ih ⊢; rw [ih]; simp
theorem applied_snoc (m : List Int) (l : List (Int × Int)) (e : Int × Int) : applied m (l ++ [e]) = (applied m l).set e.1.toNat e.2 := by
  simp [applied]

/-- Equality of entries, of phases, of dirty words, as Go tells it. -/
def eqE (a b c d : Int) : Bool := a == c && b == d
def neE (a b c d : Int) : Bool := !(a == c && b == d)
def eqP (a b c d e f : Int) : Bool := a == d && b == e && c == f
def neP (a b c d e f : Int) : Bool := !(a == d && b == e && c == f)
def eqD (a b : Int) (c : Bool) (d e : Int) (f : Bool) : Bool := a == d && b == e && c == f
def neD (a b : Int) (c : Bool) (d e : Int) (f : Bool) : Bool := !(a == d && b == e && c == f)
theorem neE_self (x : Int × Int) : neE x.1 x.2 x.1 x.2 = false := by simp [neE]
theorem neE_of {x y : Int × Int} (h : x ≠ y) : neE x.1 x.2 y.1 y.2 = true := by
  simp only [neE, Bool.not_eq_true', Bool.and_eq_false_iff, beq_eq_false_iff_ne]
  by_cases h1 : x.1 = y.1
  · exact .inr fun h2 => h (Prod.ext h1 h2)
  · exact .inl h1
theorem eqE_self (a b : Int) : eqE a b a b = true := by simp [eqE]
theorem eqP_self (a b c : Int) : eqP a b c a b c = true := by simp [eqP]
theorem neD_self (x : Int × Int × Bool) : neD x.1 x.2.1 x.2.2 x.1 x.2.1 x.2.2 = false := by simp [neD]
theorem neD_of {x y : Int × Int × Bool} (h : x ≠ y) : neD x.1 x.2.1 x.2.2 y.1 y.2.1 y.2.2 = true := by
  simp only [neD, Bool.not_eq_true', Bool.and_eq_false_iff, beq_eq_false_iff_ne]
  by_cases h1 : x.1 = y.1
  · by_cases h2 : x.2.1 = y.2.1
    · exact .inr fun h3 => h (Prod.ext h1 (Prod.ext h2 h3))
    · exact .inl (.inr h2)
  · exact .inl (.inl h1)

/-- The numbers fit their kinds. -/
def InI (x : Int) : Prop := -9223372036854775808 ≤ x ∧ x ≤ 9223372036854775807
def InU (x : Int) : Prop := 0 ≤ x ∧ x ≤ 18446744073709551615
def WfU (m : List Int) : Prop := ∀ x ∈ m, InU x
def WfI (m : List Int) : Prop := ∀ x ∈ m, InI x
def WfE (l : List (Int × Int)) : Prop := ∀ x ∈ l, InI x.1 ∧ InU x.2
def WfD (l : List (Int × Int × Bool)) : Prop := ∀ x ∈ l, InI x.1 ∧ InU x.2.1
end Go.Proofs.Ytibeolemelmpcaa
