/-
  Operations of devices, in plain terms: what a list of them makes of a device, what is loaded then, and Put as such a list.
-/
import Derived.Test.YtmmcbleoglgamaaDev2
namespace Go.Proofs.Ytmmcbleoglgamaa

/-- An operation: a store, a flush, a fence. -/
inductive Dop where
  | st (a v : Int)
  | fl (a : Int)
  | fe
/-- What an operation that is made does to the safe words and the dirty ones. -/
def effD (s : List Int × List Dw) : Dop → List Int × List Dw
  | .st a v => (s.1, insD a v s.2)
  | .fl a => (s.1, fluD a s.2)
  | .fe => (fenM s.1 s.2, fenD s.2)
def effs (s : List Int × List Dw) (os : List Dop) : List Int × List Dw := os.foldl effD s
/-- What an operation makes of a device. -/
def stepD (D : List Int × List Dw × Int × Bool) (o : Dop) : List Int × List Dw × Int × Bool :=
  if D.2.2.1 = 0 then (D.1, D.2.1, 0, true) else ((effD (D.1, D.2.1) o).1, (effD (D.1, D.2.1) o).2, spL D.2.2.1, D.2.2.2)
def runD (D : List Int × List Dw × Int × Bool) (os : List Dop) : List Int × List Dw × Int × Bool := os.foldl stepD D
/-- The lines of entries, among the first n. -/
def lineL (l : List (Int × Int)) (n : Nat) : List Nat := (List.range n).filter fun i => l.any fun e => decide (e.1 / 8 = (i : Int))
def stOps (l : List (Int × Int)) : List Dop := l.map fun e => Dop.st e.1 e.2
def flOps (l : List (Int × Int)) (n : Nat) : List Dop := (lineL l n).map fun i : Nat => Dop.fl (8 * (i : Int))
def putOps (l : List (Int × Int)) (n : Nat) : List Dop := stOps l ++ (flOps l n ++ [Dop.fe])

theorem runD_append (D : List Int × List Dw × Int × Bool) (a b : List Dop) : runD D (a ++ b) = runD (runD D a) b := by simp [runD]
theorem runD_cons (D : List Int × List Dw × Int × Bool) (o : Dop) (b : List Dop) : runD D (o :: b) = runD (stepD D o) b := rfl
theorem effs_append (s : List Int × List Dw) (a b : List Dop) : effs s (a ++ b) = effs (effs s a) b := by simp [effs]
theorem effs_cons (s : List Int × List Dw) (o : Dop) (b : List Dop) : effs s (o :: b) = effs (effD s o) b := rfl

/- a device that is down, one that never stops, one that has operations left -/
theorem runD_down (m : List Int) (q : List Dw) : ∀ (os : List Dop), runD (m, q, 0, true) os = (m, q, 0, true)
  | [] => rfl
  | o :: os => by rw [runD_cons, show stepD (m, q, 0, true) o = (m, q, 0, true) from by simp [stepD]]; exact runD_down m q os
theorem runD_free (m : List Int) (q : List Dw) (down : Bool) {left : Int} (h : left < 0) : ∀ (os : List Dop) , runD (m, q, left, down) os = ((effs (m, q) os).1, (effs (m, q) os).2, left, down) := by
  intro os
  induction os generalizing m q with
  | nil => rfl
  | cons o os ih =>
    have h1 : left ≠ 0 := by omega
    have h2 : ¬ 0 < left := by omega
    rw [runD_cons, show stepD (m, q, left, down) o = ((effD (m, q) o).1, (effD (m, q) o).2, left, down) from by simp [stepD, h1, spL, h2], ih]; rfl
theorem runD_left (m : List Int) (q : List Dw) (down : Bool) : ∀ (os : List Dop) (left : Nat), os.length ≤ left → runD (m, q, (left : Int), down) os = ((effs (m, q) os).1, (effs (m, q) os).2, (left : Int) - os.length, down) := by
  intro os
  induction os generalizing m q with
  | nil => intro left _; simp [runD, effs]
  | cons o os ih =>
    intro left h
    simp only [List.length_cons] at h
    obtain ⟨k, rfl⟩ : ∃ k, left = k + 1 := ⟨left - 1, by omega⟩
    have h1 : ((k + 1 : Nat) : Int) ≠ 0 := by omega
    have h2 : (0 : Int) < ((k + 1 : Nat) : Int) := by omega
    rw [runD_cons, show stepD (m, q, ((k + 1 : Nat) : Int), down) o = ((effD (m, q) o).1, (effD (m, q) o).2, (k : Int), down) from by
      simp only [stepD, spL]
      rw [if_neg h1, if_pos h2]
      rw [show ((k + 1 : Nat) : Int) - 1 = k from by omega], ih _ _ k (by omega)]
    rw [show (k : Int) - os.length = ((k + 1 : Nat) : Int) - (o :: os).length from by simp only [List.length_cons]; omega]
    rfl
theorem runD_stop (m : List Int) (q : List Dw) (down : Bool) (os : List Dop) (left : Nat) (h : left < os.length) : runD (m, q, (left : Int), down) os = ((effs (m, q) (os.take left)).1, (effs (m, q) (os.take left)).2, 0, true) := by
  have h1 := List.take_append_drop left os
  conv => lhs; rw [← h1]
  rw [runD_append, runD_left _ _ _ _ _ (by simp; omega)]
  rw [show (left : Int) - (os.take left).length = 0 from by simp only [List.length_take]; omega]
  obtain ⟨o, r, hr⟩ : ∃ o r, os.drop left = o :: r := ⟨_, _, List.drop_eq_getElem_cons h⟩
  rw [hr, runD_cons]
  rw [show stepD ((effs (m, q) (os.take left)).1, (effs (m, q) (os.take left)).2, 0, down) o = ((effs (m, q) (os.take left)).1, (effs (m, q) (os.take left)).2, 0, true) from by simp [stepD]]
  exact runD_down _ _ _

/- what is loaded -/
theorem wrd_set : ∀ {q : List Dw} {m : List Int} {i : Nat} {v : Int}, (∀ x ∈ q, x.1.toNat ≠ i) → wrd (m.set i v) q = (wrd m q).set i v
  | [], _, _, _, _ => rfl
  | x :: l, m, i, v, h => by
    rw [wrd_cons, wrd_cons, List.set_comm _ _ (Ne.symm (h x (List.mem_cons_self ..))), wrd_set (fun y hy => h y (List.mem_cons_of_mem _ hy))]
theorem wrd_ins {n a v : Int} (ha : 0 ≤ a) : ∀ {q : List Dw} {b : Int} {m : List Int}, -1 ≤ b → ascB n b q = true → wrd m (insD a v q) = (wrd m q).set a.toNat v
  | [], _, _, _, _ => rfl
  | x :: l, b, m, hb, hq => by
    simp only [ascB, Bool.and_eq_true, decide_eq_true_eq] at hq
    have hl : ∀ y ∈ l, x.1 < y.1 := fun y hy => (ascB_mem hq.2 y hy).1
    unfold insD
    split
    · rw [wrd_cons, wrd_cons]; exact wrd_ins ha (by omega) hq.2
    · split
      · rename_i h1 h2
        have hf : ∀ y ∈ l, y.1.toNat ≠ a.toNat := fun y hy => by have := hl y hy; omega
        rw [wrd_cons, wrd_cons, ← wrd_set hf]
        simp only [h2]
        rw [List.set_set]
      · rename_i h1 h2
        have hf : ∀ y ∈ x :: l, y.1.toNat ≠ a.toNat := fun y hy => by
          rcases List.mem_cons.1 hy with rfl | hy
          · omega
          · have := hl y hy; omega
        rw [wrd_cons (x := (a, v, false))]
        exact wrd_set hf
theorem wrd_flu (a : Int) : ∀ (q : List Dw) (m : List Int), wrd m (fluD a q) = wrd m q
  | [], _ => rfl
  | x :: l, m => by
    have e : fluD a (x :: l) = (if x.1 / 8 = a / 8 then (x.1, x.2.1, true) else x) :: fluD a l := rfl
    rw [e, wrd_cons, wrd_cons, wrd_flu a l]
    split <;> rfl
theorem fenM_cons (m : List Int) (x : Dw) (l : List Dw) : fenM m (x :: l) = fenM (if x.2.2 then m.set x.1.toNat x.2.1 else m) l := rfl
theorem fenM_far : ∀ {q : List Dw} {m : List Int} {i : Nat}, (∀ x ∈ q, x.2.2 = true → x.1.toNat ≠ i) → (fenM m q)[i]? = m[i]?
  | [], _, _, _ => rfl
  | x :: l, m, i, h => by
    rw [fenM_cons, fenM_far (fun y hy => h y (List.mem_cons_of_mem _ hy))]
    split
    · rename_i hf
      rw [List.getElem?_set_ne (h x (List.mem_cons_self ..) hf)]
    · rfl
theorem fenM_at {n : Int} : ∀ {q : List Dw} {b : Int} {m : List Int}, -1 ≤ b → ascB n b q = true → (m.length : Int) = n → ∀ x ∈ q, x.2.2 = true → (fenM m q)[x.1.toNat]? = some x.2.1
  | [], _, _, _, _, _, x, hx, _ => by cases hx
  | y :: l, b, m, hb, hq, hm, x, hx, hf => by
    simp only [ascB, Bool.and_eq_true, decide_eq_true_eq] at hq
    rw [fenM_cons]
    rcases List.mem_cons.1 hx with rfl | hx
    · rw [if_pos hf, fenM_far, List.getElem?_set_self (by omega)]
      intro z hz _
      have := ascB_mem hq.2 z hz
      omega
    · exact fenM_at (by omega) hq.2 (by split <;> simpa using hm) x hx hf
theorem asc_inj {n : Int} : ∀ {q : List Dw} {b : Int}, ascB n b q = true → ∀ x ∈ q, ∀ y ∈ q, x.1 = y.1 → x = y
  | [], _, _, x, hx, _, _, _ => by cases hx
  | z :: l, b, hq, x, hx, y, hy, h => by
    simp only [ascB, Bool.and_eq_true, decide_eq_true_eq] at hq
    rcases List.mem_cons.1 hx with e1 | h1
    · rcases List.mem_cons.1 hy with e2 | h2
      · rw [e1, e2]
      · have := (ascB_mem hq.2 y h2).1; rw [e1] at h; omega
    · rcases List.mem_cons.1 hy with e2 | h2
      · have := (ascB_mem hq.2 x h1).1; rw [e2] at h; omega
      · exact asc_inj hq.2 x h1 y h2 h
theorem wrd_fen {n : Int} {q : List Dw} {b : Int} {m : List Int} (hb : -1 ≤ b) (hq : ascB n b q = true) (hm : (m.length : Int) = n) : wrd (fenM m q) (fenD q) = wrd m q := by
  have hq2 := ascB_fen hq
  have hm2 : ((fenM m q).length : Int) = n := by rw [fenM_length]; exact hm
  apply List.ext_getElem?
  intro i
  by_cases h : ∃ x ∈ q, x.1.toNat = i
  · obtain ⟨x, hx, rfl⟩ := h
    rw [wrd_at hb hq hm x hx]
    cases hf : x.2.2 with
    | false => exact wrd_at hb hq2 hm2 x (List.mem_filter.2 ⟨hx, by simp [hf]⟩)
    | true =>
      rw [wrd_far, fenM_at hb hq hm x hx hf]
      intro y hy he
      obtain ⟨hy1, hy2⟩ := List.mem_filter.1 hy
      have k1 := ascB_mem hq x hx
      have k2 := ascB_mem hq y hy1
      have := asc_inj hq y hy1 x hx (by omega)
      subst this
      simp [hf] at hy2
  · have h' : ∀ x ∈ q, x.1.toNat ≠ i := fun x hx he => h ⟨x, hx, he⟩
    rw [wrd_far h', wrd_far (q := fenD q) (fun x hx => h' x (List.mem_filter.1 hx).1), fenM_far (fun x hx _ => h' x hx)]

/- a list of operations keeps the device's form -/
def OpIn (n : Int) : Dop → Prop
  | .st a v => 0 ≤ a ∧ a < n ∧ InU v
  | .fl a => 0 ≤ a ∧ a < n
  | .fe => True
/-- The safe words and the dirty ones of a device of n words. -/
def DevS (n : Int) (s : List Int × List Dw) : Prop := (s.1.length : Int) = n ∧ ascB n (-1) s.2 = true
def DevW (s : List Int × List Dw) : Prop := WfU s.1 ∧ WfD s.2
theorem effD_S {n : Int} {s : List Int × List Dw} {o : Dop} (h : DevS n s) (ho : OpIn n o) : DevS n (effD s o) := by
  obtain ⟨h1, h2⟩ := h
  cases o with
  | st a v => exact ⟨h1, ascB_ins (by have := ho.1; omega) ho.2.1 h2⟩
  | fl a => exact ⟨h1, ascB_flu h2⟩
  | fe => exact ⟨by simpa [effD, fenM_length] using h1, ascB_fen h2⟩
theorem effs_S {n : Int} : ∀ {os : List Dop} {s : List Int × List Dw}, DevS n s → (∀ o ∈ os, OpIn n o) → DevS n (effs s os)
  | [], _, h, _ => h
  | o :: os, _, h, ho => effs_S (os := os) (effD_S h (ho o (List.mem_cons_self ..))) fun x hx => ho x (List.mem_cons_of_mem _ hx)
theorem effD_W {n : Int} {s : List Int × List Dw} {o : Dop} (hn : n ≤ 2048) (h : DevW s) (ho : OpIn n o) : DevW (effD s o) := by
  obtain ⟨h1, h2⟩ := h
  cases o with
  | st a v => exact ⟨h1, wfD_ins (by have := ho.1; have := ho.2.1; unfold InI; omega) ho.2.2 h2⟩
  | fl a => exact ⟨h1, wfD_flu h2⟩
  | fe => exact ⟨wfU_fen h2 h1, wfD_fen h2⟩
theorem effs_W {n : Int} (hn : n ≤ 2048) : ∀ {os : List Dop} {s : List Int × List Dw}, DevW s → (∀ o ∈ os, OpIn n o) → DevW (effs s os)
  | [], _, h, _ => h
  | o :: os, _, h, ho => effs_W hn (os := os) (effD_W hn h (ho o (List.mem_cons_self ..))) fun x hx => ho x (List.mem_cons_of_mem _ hx)
/-- What an operation changes of what is loaded. -/
theorem wrd_eff {n : Int} {s : List Int × List Dw} {o : Dop} (h : DevS n s) (ho : OpIn n o) : wrd (effD s o).1 (effD s o).2 = match o with | .st a v => (wrd s.1 s.2).set a.toNat v | _ => wrd s.1 s.2 := by
  obtain ⟨h1, h2⟩ := h
  cases o with
  | st a v => exact wrd_ins ho.1 (by decide) h2
  | fl a => exact wrd_flu a _ _
  | fe => exact wrd_fen (by decide) h2 h1
end Go.Proofs.Ytmmcbleoglgamaa
