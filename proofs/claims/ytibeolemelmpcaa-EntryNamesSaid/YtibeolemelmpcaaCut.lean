/-
  Cuts of slices, and plain laws on applying entries in another order.
-/
import Derived.Test.YtibeolemelmpcaaApply
namespace Go.Proofs.Ytibeolemelmpcaa
open Go.RowKit

theorem Sl.cut {w : World} {A : Option Addr} {n c : Nat} {xs : List Value} (h : Sl w A n c xs) {k size : Nat} (hl : xs.length = n * size) (hk : k ≤ n) :
    Sl w (if c = k then A else A.map (·.add (k * size))) (n - k) (c - k) (xs.drop (k * size)) := by
  have hle := h.le
  have hmax := h.max
  refine ⟨by omega, by unfold maxLen at *; omega, fun h0 => ?_, fun hx => ?_⟩
  · by_cases hc : c = k
    · omega
    · rw [if_neg hc] at h0
      have := h.nil (by simpa using h0)
      omega
  · have hlt : k * size < xs.length := by
      rcases Nat.lt_or_ge (k * size) xs.length with h1 | h1
      · exact h1
      · exact absurd (List.drop_eq_nil_of_le h1) hx
    rw [hl] at hlt
    have hkn : k < n := by
      rcases Nat.lt_or_ge k n with h1 | h1
      · exact h1
      · have := Nat.mul_le_mul_right size h1; omega
    obtain ⟨ad, rfl, hc⟩ := h.cells (by intro h0; rw [h0] at hl; simp only [List.length_nil] at hl; omega)
    rw [if_neg (by omega)]
    refine ⟨ad.add (k * size), rfl, fun j u hu => ?_⟩
    rw [add_of_add]
    exact hc _ u (by rw [← hu, List.getElem?_drop])
theorem Sl.pre {w : World} {A : Option Addr} {n c : Nat} {xs : List Value} (h : Sl w A n c xs) {k size : Nat} (hk : k ≤ n) : Sl w A k c (xs.take (k * size)) := by
  have hle := h.le
  refine ⟨by omega, h.max, h.nil, fun hx => ?_⟩
  obtain ⟨ad, rfl, hc⟩ := h.cells (by intro h0; subst h0; simp at hx)
  refine ⟨ad, rfl, fun j u hu => hc j u ?_⟩
  rw [List.getElem?_take] at hu
  split at hu
  · exact hu
  · cases hu
theorem fE_drop (l : List (Int × Int)) (k : Nat) : fE (l.drop k) = (fE l).drop (k * 2) := by
  induction l generalizing k with
  | nil => simp [fE]
  | cons e l ih =>
    cases k with
    | zero => simp
    | succ k => rw [show (k + 1) * 2 = k * 2 + 1 + 1 from by omega]; simp [fE, ih]
theorem fE_take (l : List (Int × Int)) (k : Nat) : fE (l.take k) = (fE l).take (k * 2) := by
  induction l generalizing k with
  | nil => simp [fE]
  | cons e l ih =>
    cases k with
    | zero => simp [fE]
    | succ k => rw [show (k + 1) * 2 = k * 2 + 1 + 1 from by omega]; simp [fE, ih]
theorem fU_drop (m : List Int) (k : Nat) : fU (m.drop k) = (fU m).drop (k * 1) := by simp [fU, List.map_drop]
theorem fU_take (m : List Int) (k : Nat) : fU (m.take k) = (fU m).take (k * 1) := by simp [fU, List.map_take]
theorem Sl.e_drop {w : World} {A : Option Addr} {c : Nat} {l : List (Int × Int)} (h : Sl w A l.length c (fE l)) {k : Nat} (hk : k ≤ l.length) :
    Sl w (if c = k then A else A.map (·.add (k * 2))) (l.drop k).length (c - k) (fE (l.drop k)) := by
  rw [fE_drop, List.length_drop]
  exact h.cut (fE_length l) hk
theorem Sl.e_take {w : World} {A : Option Addr} {c : Nat} {l : List (Int × Int)} (h : Sl w A l.length c (fE l)) {k : Nat} (hk : k ≤ l.length) : Sl w A (l.take k).length c (fE (l.take k)) := by
  rw [fE_take, List.length_take, Nat.min_eq_left hk]
  exact h.pre hk
theorem Sl.u_drop {w : World} {A : Option Addr} {c : Nat} {m : List Int} (h : Sl w A m.length c (fU m)) {k : Nat} (hk : k ≤ m.length) :
    Sl w (if c = k then A else A.map (·.add (k * 1))) (m.drop k).length (c - k) (fU (m.drop k)) := by
  rw [fU_drop, List.length_drop]
  exact h.cut (by simp) hk
theorem Sl.u_take {w : World} {A : Option Addr} {c : Nat} {m : List Int} (h : Sl w A m.length c (fU m)) {k : Nat} (hk : k ≤ m.length) : Sl w A (m.take k).length c (fU (m.take k)) := by
  rw [fU_take, List.length_take, Nat.min_eq_left hk]
  exact h.pre hk

/- changes, plainly -/
theorem okFrom_iff {words : Int} {l : List (Int × Int)} : ∀ {S : List Int}, okFrom words S l = true ↔ (∀ x ∈ l, mayB x.1 words = true) ∧ (l.map Prod.fst).Nodup ∧ ∀ x ∈ l, x.1 ∉ S := by
  induction l with
  | nil => intro S; simp [okFrom]
  | cons e l ih =>
    intro S
    simp only [okFrom, Bool.and_eq_true, Bool.not_eq_true', ih, List.mem_cons, List.map_cons, List.nodup_cons, List.mem_map]
    constructor
    · rintro ⟨⟨h1, h2⟩, h3, h4, h5⟩
      have h2' : e.1 ∉ S := by simpa using h2
      refine ⟨fun x hx => ?_, ⟨?_, h4⟩, fun x hx => ?_⟩
      · rcases hx with rfl | hx
        · exact h1
        · exact h3 x hx
      · rintro ⟨x, hx, he⟩
        exact h5 x hx (by simp [he])
      · rcases hx with rfl | hx
        · exact h2'
        · intro hS; exact h5 x hx (by simp [hS])
    · rintro ⟨h1, ⟨h2, h3⟩, h4⟩
      refine ⟨⟨h1 e (.inl rfl), by simpa using h4 e (.inl rfl)⟩, fun x hx => h1 x (.inr hx), h3, fun x hx => ?_⟩
      rintro (he | he)
      · exact h2 ⟨x, hx, he⟩
      · exact h4 x (.inr hx) he
theorem chk_iff {l : List (Int × Int)} {words : Int} : chkE l words = 0 ↔ sizeB words = true ∧ l.length ≤ 32 ∧ (∀ x ∈ l, mayB x.1 words = true) ∧ (l.map Prod.fst).Nodup := by
  constructor
  · intro h
    obtain ⟨h1, h2, h3⟩ := chk_ok h
    obtain ⟨a, b, _⟩ := okFrom_iff.1 h3
    exact ⟨h1, h2, a, b⟩
  · rintro ⟨h1, h2, h3, h4⟩
    unfold chkE
    rw [if_pos h1, if_neg (by omega), if_pos (okFrom_iff.2 ⟨h3, h4, fun x _ hx => by cases hx⟩)]
theorem chk_perm {l l' : List (Int × Int)} {words : Int} (h : chkE l words = 0) (hp : l'.Perm l) : chkE l' words = 0 := by
  obtain ⟨h1, h2, h3, h4⟩ := chk_iff.1 h
  exact chk_iff.2 ⟨h1, by rw [hp.length_eq]; exact h2, fun x hx => h3 x (hp.mem_iff.1 hx), (hp.map Prod.fst).nodup_iff.2 h4⟩
theorem chk_sub {l l' : List (Int × Int)} {words : Int} (h : chkE l words = 0) (hp : l'.Sublist l) : chkE l' words = 0 := by
  obtain ⟨h1, h2, h3, h4⟩ := chk_iff.1 h
  exact chk_iff.2 ⟨h1, Nat.le_trans hp.length_le h2, fun x hx => h3 x (hp.subset hx), (hp.map Prod.fst).nodup h4⟩
theorem eq_of_fst {l : List (Int × Int)} (h : (l.map Prod.fst).Nodup) {x y : Int × Int} (hx : x ∈ l) (hy : y ∈ l) (he : x.1 = y.1) : x = y := by
  induction l with
  | nil => cases hx
  | cons e l ih =>
    simp only [List.map_cons, List.nodup_cons, List.mem_map] at h
    rcases List.mem_cons.1 hx with hx1 | hx1 <;> rcases List.mem_cons.1 hy with hy1 | hy1
    · rw [hx1, hy1]
    · subst hx1; exact absurd ⟨y, hy1, he.symm⟩ h.1
    · subst hy1; exact absurd ⟨x, hx1, he⟩ h.1
    · exact ih h.2 hx1 hy1
theorem applied_perm {l l' : List (Int × Int)} {words : Int} (h : chkE l words = 0) (hp : l.Perm l') (m : List Int) : applied m l = applied m l' := by
  obtain ⟨h1, h2, h3, h4⟩ := chk_iff.1 h
  unfold applied
  refine List.Perm.foldl_eq' hp (fun x hx y hy z => ?_) m
  by_cases he : x.1 = y.1
  · rw [eq_of_fst h4 hx hy he]
  · have a := mayB_bd (h3 x hx)
    have b := mayB_bd (h3 y hy)
    exact List.set_comm _ _ (by omega)
theorem applied_append (m : List Int) (l l' : List (Int × Int)) : applied m (l ++ l') = applied (applied m l) l' := by simp [applied]
end Go.Proofs.Ytibeolemelmpcaa
