/-
  What a fence leaves at each address; what flushing all dirty lines leaves; how a device counts down.
-/
import Derived.Test.YtmmcbleoglgamaaOps
namespace Go.Proofs.Ytmmcbleoglgamaa
theorem cntLt_succ {n a : Int} : ∀ {q : List Dw} {b : Int}, ascB n b q = true → cntLt (a + 1) q = cntLt a q + (if fndD a q then 1 else 0)
  | [], _, _ => rfl
  | y :: l, b, hq => by
    simp only [ascB, Bool.and_eq_true, decide_eq_true_eq] at hq
    unfold cntLt fndD
    by_cases c : y.1 < a
    · rw [if_pos (by omega), if_pos c, if_pos c, cntLt_succ hq.2]; omega
    · rw [if_neg c, if_neg c]
      by_cases e : y.1 = a
      · rw [if_pos (by omega)]
        have : cntLt (a + 1) l = 0 := by
          cases l with
          | nil => rfl
          | cons z l =>
            simp only [ascB, Bool.and_eq_true, decide_eq_true_eq] at hq
            unfold cntLt
            rw [if_neg (by omega)]
        simp [this, e]
      · rw [if_neg (by omega)]
        simp [e]
theorem cntLt_zero {n : Int} : ∀ {q : List Dw} {b : Int}, -1 ≤ b → ascB n b q = true → cntLt 0 q = 0
  | [], _, _, _ => rfl
  | y :: l, b, hb, hq => by
    simp only [ascB, Bool.and_eq_true, decide_eq_true_eq] at hq
    unfold cntLt
    rw [if_neg (by omega)]
theorem fen_hit {m : List Int} {q : List Dw} {i : Nat} (hq : ascB m.length (-1) q = true) {x : Dw} (hx : q[cntLt i q]? = some x) (he : x.1 = i) (hi : i < m.length) : (fenM m q)[i]? = some (if x.2.2 then x.2.1 else m.getD i 0) := by
  have hm := List.mem_of_getElem? hx
  cases hf : x.2.2 with
  | true =>
    have := fenM_at (by decide) hq rfl x hm hf
    rwa [he] at this
  | false =>
    rw [fenM_far]
    · simp [List.getD, hi]
    · intro y hy hyf e
      have := (ascB_mem hq y hy).1
      have h2 := asc_inj hq y hy x hm (by omega)
      rw [h2, hf] at hyf
      cases hyf
theorem fen_miss {m : List Int} {q : List Dw} {i : Nat} (hq : ascB m.length (-1) q = true) (hn : fndD i q = false) (hi : i < m.length) : (fenM m q)[i]? = some (m.getD i 0) := by
  rw [fenM_far]
  · simp [List.getD, hi]
  · intro y hy _ e
    have h1 := (ascB_mem hq y hy).1
    have := (fnd_iff (a := (i : Int)) hq).2 ⟨y, hy, by omega⟩
    rw [hn] at this
    cases this
/-- The dirty words with the lines of some addresses flushed. -/
def fluN (l q : List Dw) : List Dw := l.foldl (fun s x => fluD x.1 s) q
theorem fluN_succ {q : List Dw} {i : Nat} {x : Dw} (h : q[i]? = some x) : fluN (q.take (i + 1)) q = fluD x.1 (fluN (q.take i) q) := by
  rw [List.take_add_one, h]
  simp [fluN]
theorem fluN_length : ∀ (l q : List Dw), (fluN l q).length = q.length
  | [], _ => rfl
  | x :: l, q => by show (fluN l (fluD x.1 q)).length = _; rw [fluN_length l, fluD_length]
theorem fluN_wrd (m : List Int) : ∀ (l q : List Dw), wrd m (fluN l q) = wrd m q
  | [], _ => rfl
  | x :: l, q => by show wrd m (fluN l (fluD x.1 q)) = _; rw [fluN_wrd m l, wrd_flu]
theorem fluN_asc {n b : Int} : ∀ (l : List Dw) {q : List Dw}, ascB n b q = true → ascB n b (fluN l q) = true
  | [], _, h => h
  | _ :: l, _, h => fluN_asc l (ascB_flu h)
theorem fluN_mem : ∀ (l q : List Dw), ∀ x ∈ fluN l q, (∃ y ∈ q, y.1 = x.1 ∧ (y.2.2 = true → x.2.2 = true)) ∧ (x.2.2 = true ∨ ∀ y ∈ l, y.1 / 8 ≠ x.1 / 8)
  | [], q, x, hx => ⟨⟨x, hx, rfl, id⟩, .inr fun y hy => by cases hy⟩
  | z :: l, q, x, hx => by
    obtain ⟨⟨y, hy, e, hf⟩, h2⟩ := fluN_mem l (fluD z.1 q) x hx
    simp only [fluD, List.mem_map] at hy
    obtain ⟨u, hu, rfl⟩ := hy
    by_cases c : u.1 / 8 = z.1 / 8
    · rw [if_pos c] at e hf
      exact ⟨⟨u, hu, e, fun _ => hf rfl⟩, .inl (hf rfl)⟩
    · rw [if_neg c] at e hf
      refine ⟨⟨u, hu, e, hf⟩, ?_⟩
      rcases h2 with h | h
      · exact .inl h
      · refine .inr fun y hy => ?_
        rcases List.mem_cons.1 hy with rfl | hy
        · rw [← e]; exact fun h => c h.symm
        · exact h y hy
theorem fluN_all (q : List Dw) : ∀ x ∈ fluN q q, x.2.2 = true := fun x hx => by
  obtain ⟨⟨y, hy, e, _⟩, h⟩ := fluN_mem q q x hx
  rcases h with h | h
  · exact h
  · exact absurd (by rw [e]) (h y hy)
theorem fluN_fen (q : List Dw) : fenD (fluN q q) = [] := by
  simp only [fenD, List.filter_eq_nil_iff]
  intro x hx
  simp [fluN_all q x hx]
theorem fluN_img {n : Int} {m : List Int} {q : List Dw} (hq : ascB n (-1) q = true) (hm : (m.length : Int) = n) : fenM m (fluN q q) = wrd m q := by
  have h := wrd_fen (by decide) (fluN_asc q hq) hm
  rw [fluN_fen, fluN_wrd] at h
  exact h
/-- What is left of Left behind i operations, and whether the device is down then. -/
def lefN (left : Int) (i : Nat) : Int := if left < 0 then left else if left < i then 0 else left - i
def dwnN (left : Int) (down : Bool) (i : Nat) : Bool := down || decide (0 ≤ left) && decide (left < i)
theorem lefN_zero (left : Int) : lefN left 0 = left := by unfold lefN; split; rfl; rw [if_neg (by omega)]; omega
theorem dwnN_zero (left : Int) (down : Bool) : dwnN left down 0 = down := by
  unfold dwnN
  cases down
  · simp
  · rfl
theorem step_count {m : List Int} {q : List Dw} {left : Int} {down : Bool} {i : Nat} {o : Dop} (hl : -1 ≤ left) :
    (stepD (m, q, lefN left i, dwnN left down i) o).2.2.1 = lefN left (i + 1) ∧ (stepD (m, q, lefN left i, dwnN left down i) o).2.2.2 = dwnN left down (i + 1) := by
  by_cases h0 : lefN left i = 0
  · have e : stepD (m, q, lefN left i, dwnN left down i) o = (m, q, 0, true) := by simp [stepD, h0]
    rw [e]
    unfold lefN at h0
    have h1 : 0 ≤ left ∧ left ≤ i := by
      split at h0
      · omega
      · split at h0 <;> omega
    refine ⟨?_, ?_⟩
    · unfold lefN; rw [if_neg (by omega), if_pos (by omega)]
    · unfold dwnN
      have h2 : decide (0 ≤ left) = true := by simp; exact h1.1
      have h3 : decide (left < ((i + 1 : Nat) : Int)) = true := by simp; omega
      rw [h2, h3]; simp
  · have e : stepD (m, q, lefN left i, dwnN left down i) o = ((effD (m, q) o).1, (effD (m, q) o).2, spL (lefN left i), dwnN left down i) := by simp [stepD, h0]
    rw [e]
    unfold lefN at h0
    have h1 : left < 0 ∨ (i : Int) < left := by
      split at h0
      · omega
      · split at h0 <;> omega
    refine ⟨?_, ?_⟩
    · rcases h1 with h | h
      · have e1 : ∀ j : Nat, lefN left j = left := fun j => by unfold lefN; rw [if_pos h]
        show spL (lefN left i) = _
        rw [e1, e1]
        unfold spL
        rw [if_neg (by omega)]
      · have e1 : lefN left i = left - i := by unfold lefN; rw [if_neg (by omega), if_neg (by omega)]
        have e2 : lefN left (i + 1) = left - i - 1 := by unfold lefN; rw [if_neg (by omega), if_neg (by omega)]; omega
        show spL (lefN left i) = _
        rw [e1, e2]
        unfold spL
        rw [if_pos (by omega)]
    · unfold dwnN
      rcases h1 with h | h
      · have h2 : decide (0 ≤ left) = false := by simp; omega
        rw [h2]; simp
      · have h3 : decide (left < ((i + 1 : Nat) : Int)) = false := by simp; omega
        have h4 : decide (left < (i : Int)) = false := by simp; omega
        rw [h3, h4]
theorem dwn_left {left : Int} {down : Bool} {i : Nat} (hd : down = true → left = 0) (h : dwnN left down i = true) : lefN left i = 0 := by
  unfold dwnN at h
  simp only [Bool.or_eq_true, Bool.and_eq_true, decide_eq_true_eq] at h
  unfold lefN
  rcases h with h | h
  · have := hd h
    rw [if_neg (by omega)]
    split <;> omega
  · rw [if_neg (by omega), if_pos h.2]
theorem step_down {m : List Int} {q : List Dw} {o : Dop} : stepD (m, q, 0, true) o = (m, q, 0, true) := by simp [stepD]
end Go.Proofs.Ytmmcbleoglgamaa
