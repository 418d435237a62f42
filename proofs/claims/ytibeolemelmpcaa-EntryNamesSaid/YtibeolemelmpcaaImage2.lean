/-
  The contracts of 'Get', 'Put' and 'Diff' on images.
-/
import Derived.Test.YtibeolemelmpcaaImage
import Derived.Test.YtibeolemelmpcaaLeaf
import Derived.Deep.Light
import Derived.Deep.RegionLaw
namespace Go.Proofs.Ytibeolemelmpcaa
open Go.RowKit

/-- A slice of its own and 0; or nothing, and the error. -/
def RetS' (w : World) (T size n : Nat) (xs : List Value) (er : Int) (en : Ending) (w' : World) : Prop :=
  (er = 0 ∧ RetOwn2 w T size n xs 0 en w') ∨ (er ≠ 0 ∧ en = .returned (.tuple #[.slice none 0 0, .int .i64 er]) ∧ Ext w w')
theorem rngE_ok {n a k : Int} (h : rngE n a k = 0) : sizeB n = true ∧ 0 ≤ a ∧ 0 ≤ k ∧ a ≤ n ∧ a + k ≤ n := by
  unfold rngE at h
  split at h
  · split at h
    · simp at h
    · refine ⟨by assumption, ?_⟩; omega
  · simp at h
theorem cutU {w : World} {A : Option Addr} {c : Nat} {m : List Int} (h : Sl w A m.length c (fU m)) {a k : Nat} (hk : a + k ≤ m.length) :
    Sl w (if c = a then A else A.map (·.add (a * 1))) k (c - a) (fU ((m.drop a).take k)) := by
  have hle := h.le
  have hmax := h.max
  refine ⟨by omega, by unfold maxLen at *; omega, fun h0 => ?_, fun hx => ?_⟩
  · by_cases hc : c = a
    · omega
    · rw [if_neg hc] at h0
      have := h.nil (by simpa using h0)
      omega
  · have hpos : a < m.length := by
      rcases Nat.lt_or_ge a m.length with h1 | h1
      · exact h1
      · rw [List.drop_eq_nil_of_le h1] at hx
        exact absurd (by simp [fU]) hx
    obtain ⟨ad, rfl, hc⟩ := h.cells (by intro h0; have := congrArg List.length h0; simp at this; subst this; simp at hpos)
    rw [if_neg (by omega)]
    refine ⟨ad.add (a * 1), rfl, fun j u hu => ?_⟩
    rw [add_of_add, Nat.mul_one]
    refine hc _ u ?_
    have hj : j < k := by
      have := (List.getElem?_eq_some_iff.1 hu).1
      simp at this
      omega
    simp only [fU, List.getElem?_map, List.getElem?_take, if_pos hj, List.getElem?_drop] at hu
    simpa [fU] using hu
/-- The addresses at which two images differ, among the first k. -/
def diffN (a b : List Int) (k : Nat) : List Int := ((List.range k).filter fun i => a[i]? != b[i]?).map Int.ofNat
theorem diffN_succ (a b : List Int) (k : Nat) : diffN a b (k + 1) = diffN a b k ++ if a[k]? != b[k]? then [(k : Int)] else [] := by
  simp only [diffN, List.range_succ, List.filter_append, List.map_append]
  congr 1
  by_cases h : a[k]? != b[k]? <;> simp [h]
theorem diffN_length (a b : List Int) (k : Nat) : (diffN a b k).length ≤ k := by
  simp only [diffN, List.length_map]
  exact Nat.le_trans (List.length_filter_le _ _) (by simp)
theorem mem_diffN {a b : List Int} {k : Nat} {x : Int} : x ∈ diffN a b k ↔ ∃ i, i < k ∧ x = (i : Int) ∧ a[i]? ≠ b[i]? := by
  simp only [diffN, List.mem_map, List.mem_filter, List.mem_range]
  constructor
  · rintro ⟨i, ⟨h1, h2⟩, rfl⟩
    exact ⟨i, h1, rfl, by simpa using h2⟩
  · rintro ⟨i, h1, rfl, h2⟩
    exact ⟨i, ⟨h1, by simpa using h2⟩, rfl⟩

set_option maxHeartbeats 800000 in
theorem imageCheck2_any (A : Option Addr) (n c : Nat) (a k : Int) (w : World) (hn : n ≤ 9223372036854775807) :
    Calls Try.prog 45 #[.slice A n c, .int .i64 a, .int .i64 k] w fun e w' => e = .returned (.int .i64 (rngE n a k)) ∧ w = w' := by
  cases hs : sizeB (n : Int) with
  | false =>
    have hi : imgE (n : Int) = 8 := by simp [imgE, hs]
    have hr : Hid (rngE n a k = 8) := Lib.hid (by simp [rngE, hs])
    go_enter Try.func45, Try.ntmps45
    go_wp2_with (go_at_call 39; refine (imageCheck_any _ _ _ _).mono ?_; rintro e w' ⟨rfl, rfl⟩)
    go_ret
    exact ⟨ret_int hr.out.symm, rfl⟩
  | true =>
    have hi : imgE (n : Int) = 0 := by simp [imgE, hs]
    have hr : Hid (rngE n a k = if a < 0 ∨ k < 0 ∨ a > n ∨ k > n - a then 2 else 0) := Lib.hid (by simp only [rngE, hs, if_true])
    by_cases h1 : a < 0
    · go_enter Try.func45, Try.ntmps45
      go_wp2_with (go_at_call 39; refine (imageCheck_any _ _ _ _).mono ?_; rintro e w' ⟨rfl, rfl⟩)
      go_ret
      exact ⟨ret_int (by rw [hr.out, if_pos (by omega)]), rfl⟩
    · by_cases h2 : k < 0
      · go_enter Try.func45, Try.ntmps45
        go_wp2_with (go_at_call 39; refine (imageCheck_any _ _ _ _).mono ?_; rintro e w' ⟨rfl, rfl⟩)
        go_ret
        exact ⟨ret_int (by rw [hr.out, if_pos (by omega)]), rfl⟩
      · by_cases h3 : a > n
        · go_enter Try.func45, Try.ntmps45
          go_wp2_with (go_at_call 39; refine (imageCheck_any _ _ _ _).mono ?_; rintro e w' ⟨rfl, rfl⟩)
          go_ret
          exact ⟨ret_int (by rw [hr.out, if_pos (by omega)]), rfl⟩
        · by_cases h4 : k > n - a
          · go_enter Try.func45, Try.ntmps45
            go_wp2_with (go_at_call 39; refine (imageCheck_any _ _ _ _).mono ?_; rintro e w' ⟨rfl, rfl⟩)
            go_ret
            exact ⟨ret_int (by rw [hr.out, if_pos (by omega)]), rfl⟩
          · go_enter Try.func45, Try.ntmps45
            go_wp2_with (go_at_call 39; refine (imageCheck_any _ _ _ _).mono ?_; rintro e w' ⟨rfl, rfl⟩)
            go_ret
            exact ⟨ret_int (by rw [hr.out, if_neg (by omega)]), rfl⟩
set_option maxHeartbeats 800000 in
theorem imagePut_any (m l : List Int) (A : Option Addr) (c : Nat) (a : Int) (B : Option Addr) (d : Nat) (w : World) (hA : Sl w A m.length c (fU m)) (hB : Sl w B l.length d (fU l)) :
    Calls Try.prog 31 #[.slice A m.length c, .int .i64 a, .slice B l.length d] w (RetS' w 23 1 m.length (fU (splice m a.toNat l)) (rngE m.length a l.length)) := by
  have hle := hA.le
  have hmax := hA.max
  unfold maxLen at hmax
  by_cases h0 : rngE m.length a l.length = 0
  · obtain ⟨hs, h1, h2, h3, h4⟩ := rngE_ok h0
    have hsz := (sizeB_bd hs).2.1
    have hsz1 := (sizeB_bd hs).1
    have H0 := Lib.hid h0
    obtain ⟨x, rfl⟩ := Int.eq_ofNat_of_zero_le h1
    rw [Int.toNat_natCast]
    go_enter Try.func31, Try.ntmps31
    go_wp2_with fail
    refine (imageCheck2_any _ _ _ _ _ _ (by omega)).mono ?_
    rintro e w' ⟨rfl, rfl⟩
    go_wp2_with fail
    refine (imageClone_any m A c w hA (by omega)).mono ?_
    rintro e w1 ⟨A1, c1, rfl, hown, hA1, hx1⟩
    obtain ⟨g, rfl, hg⟩ := own_head' hown (by omega)
    have hc1 := hA1.le
    have hc2 := hA1.max
    unfold maxLen at hc2
    have hB1 := hB.ext hx1
    clear h0
    by_cases hct : c1 = x
    · go_wp2_with ((with_reducible refine wpList_copyU EU rfl (.tmp 22) (.tmp 23) _ rfl hown rfl rfl hB1 x (fU_length l) (by omega) (fun h => by omega) (by omega) (fU_one l) hg ?_); intro w2 hown2 hbel2)
      go_ret2
      rw [fU_splice, hct] at hown2
      exact .inl ⟨H0.out, retOwn2_mk hown2 (Below.trans hx1 hbel2)⟩
    · go_wp2_with (with_reducible refine wpList_copyU EU rfl (.tmp 22) (.tmp 23) _ rfl hown rfl rfl hB1 x (fU_length l) (by omega) (fun h => by simp) (by omega) (fU_one l) hg ?_; intro w2 hown2 hbel2)
      go_ret2
      rw [fU_splice] at hown2
      exact .inl ⟨H0.out, retOwn2_mk hown2 (Below.trans hx1 hbel2)⟩
  · have hb : (rngE m.length a l.length != 0) = true := by simpa using h0
    go_enter Try.func31, Try.ntmps31
    go_wp2_with fail
    refine (imageCheck2_any _ _ _ _ _ _ (by omega)).mono ?_
    rintro e w' ⟨rfl, rfl⟩
    go_wp2_with fail
    go_ret2
    exact .inr ⟨h0, rfl, Ext.refl w⟩
end Go.Proofs.Ytibeolemelmpcaa
