/-
  EntryOnce and EntryBack: the plain laws.
-/
import Derived.Test.YtlhlnenpgcndkaaCut
import Derived.Test.YtlhlnenpgcndkaaRead
import Derived.Test.YtlhlnenpgcndkaaWords
namespace Go.Proofs.Ytlhlnenpgcndkaa
open Go.RowKit

theorem jat_plain {m : List Int} {i : Nat} (h : ¬ (m.length : Int) < m.getD (32 + 2 * i) 0) : jat m i = (m.getD (32 + 2 * i) 0, m.getD (33 + 2 * i) 0) := by
  rw [jat, if_neg h]
theorem listed_jnl {m : List Int} : ∀ {k : Nat}, (∀ i, i < k → ¬ (m.length : Int) < m.getD (32 + 2 * i) 0) → 32 + 2 * k ≤ m.length → listed (jnl m k) = (m.drop 32).take (2 * k) := by
  intro k
  induction k with
  | zero => intro _ _; rfl
  | succ k ih =>
    intro h hk
    rw [jnl_succ, listed_append, ih (fun i hi => h i (by omega)) (by omega), jat_plain (h k (by omega)), show 2 * (k + 1) = 2 * k + 1 + 1 from by omega, List.take_add_one, List.take_add_one, List.append_assoc]
    congr 1
    have e0 : (m.drop 32)[2 * k]? = some (m.getD (32 + 2 * k) 0) := by
      rw [List.getElem?_drop, List.getD, List.getElem?_eq_getElem (by omega)]; rfl
    have e1 : (m.drop 32)[2 * k + 1]? = some (m.getD (33 + 2 * k) 0) := by
      rw [List.getElem?_drop, show 32 + (2 * k + 1) = 33 + 2 * k from by omega, List.getD, List.getElem?_eq_getElem (by omega)]; rfl
    rw [e0, e1]
    rfl
theorem jnl_mem {m : List Int} {k i : Nat} (h : i < k) : jat m i ∈ jnl m k := List.mem_map.2 ⟨i, List.mem_range.2 h, rfl⟩
theorem jnl_words {m : List Int} {k : Nat} (h : chkE (jnl m k) m.length = 0) : listed (jnl m k) = (m.drop 32).take (2 * k) := by
  obtain ⟨hs, hl, hm, _⟩ := chk_iff.1 h
  rw [jnl_length] at hl
  have := sizeB_bd hs
  refine listed_jnl (fun i hi hlt => ?_) (by omega)
  have h2 := mayB_bd (hm _ (jnl_mem hi))
  rw [jat, if_pos hlt] at h2
  exact absurd h2.2.1 (by simp)
theorem listed_inj : ∀ {l o : List (Int × Int)}, listed l = listed o → l = o := by
  intro l
  induction l with
  | nil => intro o h; cases o with
    | nil => rfl
    | cons => simp [listed] at h
  | cons e l ih => intro o h; cases o with
    | nil => simp [listed] at h
    | cons f o =>
      simp only [listed, List.cons.injEq] at h
      rw [ih h.2.2, show e = f from Prod.ext h.1 h.2.1]
theorem listed_iff {l o : List (Int × Int)} : decide (listed l = listed o) = decide (l = o) := by
  by_cases h : l = o
  · simp [h]
  · rw [decide_eq_false h, decide_eq_false (fun he => h (listed_inj he))]
theorem listed_at : ∀ {l : List (Int × Int)} {i : Nat} {x : Int × Int}, l[i]? = some x → (listed l)[2 * i]? = some x.1 ∧ (listed l)[2 * i + 1]? = some x.2 := by
  intro l
  induction l with
  | nil => intro i x h; simp at h
  | cons e l ih =>
    intro i x h
    cases i with
    | zero => simp at h; subst h; exact ⟨rfl, rfl⟩
    | succ i =>
      have := ih (i := i) (x := x) (by simpa using h)
      rw [show 2 * (i + 1) = 2 * i + 1 + 1 from by omega]
      exact this
theorem splice_len {m cs : List Int} {off : Nat} (h : off + cs.length ≤ m.length) : (splice m off cs).length = m.length := by
  simp [splice]; omega
theorem splice_in {m cs : List Int} {off j : Nat} {v : Int} (h : off + cs.length ≤ m.length) (hj : cs[j]? = some v) : (splice m off cs).getD (off + j) 0 = v := by
  obtain ⟨hlt, rfl⟩ := List.getElem?_eq_some_iff.1 hj
  rw [List.getD, splice, List.getElem?_append_right (by simp; omega), List.getElem?_append_left (by simp; omega)]
  have : off + j - (List.take off m).length = j := by simp; omega
  rw [this, List.getElem?_eq_getElem hlt]
  rfl
theorem jnl_back {m : List Int} {l : List (Int × Int)} (h : chkE l m.length = 0) : jnl (splice m 32 (listed l)) l.length = l := by
  obtain ⟨hs, hl, hm, _⟩ := chk_iff.1 h
  have hsz := sizeB_bd hs
  have hll := listed_length l
  apply List.ext_getElem?
  intro i
  by_cases hi : i < l.length
  · have hx : l[i]? = some l[i] := List.getElem?_eq_getElem hi
    obtain ⟨h0, h1⟩ := listed_at hx
    have hb := mayB_bd (hm _ (List.getElem_mem hi))
    have g0 := splice_in (m := m) (off := 32) (by omega) h0
    have g1 := splice_in (m := m) (off := 32) (by omega) h1
    rw [hx, jnl, List.getElem?_map, List.getElem?_range hi]
    simp only [Option.map_some]
    rw [jat_plain (by rw [g0, splice_len (by omega)]; omega), g0, show 33 + 2 * i = 32 + (2 * i + 1) from by omega, g1]
  · rw [List.getElem?_eq_none (by rw [jnl_length]; omega), List.getElem?_eq_none (by omega)]
theorem mem_listed : ∀ {l : List (Int × Int)} {y : Int}, y ∈ listed l → ∃ x ∈ l, y = x.1 ∨ y = x.2 := by
  intro l
  induction l with
  | nil => intro y h; simp [listed] at h
  | cons e l ih =>
    intro y h
    simp only [listed, List.mem_cons] at h
    rcases h with rfl | rfl | h
    · exact ⟨e, List.mem_cons_self .., .inl rfl⟩
    · exact ⟨e, List.mem_cons_self .., .inr rfl⟩
    · obtain ⟨x, hx, h2⟩ := ih h
      exact ⟨x, List.mem_cons_of_mem _ hx, h2⟩
theorem wf_splice {m : List Int} {l : List (Int × Int)} (hm : WfU m) (hl : WfE l) (h : chkE l m.length = 0) : WfU (splice m 32 (listed l)) := by
  intro y hy
  simp only [splice, List.mem_append] at hy
  rcases hy with h1 | h1 | h1
  · exact hm _ (List.mem_of_mem_take h1)
  · obtain ⟨x, hx, h2⟩ := mem_listed h1
    have hx2 := hl x hx
    have hb := mayB_bd ((chk_iff.1 h).2.2.1 x hx)
    have hsz := sizeB_bd (chk_iff.1 h).1
    rcases h2 with rfl | rfl
    · unfold InU; omega
    · exact hx2.2
  · exact hm _ (List.mem_of_mem_drop h1)
theorem rngE_in {n a k : Int} (hs : sizeB n = true) (ha : 0 ≤ a) (hk : 0 ≤ k) (h : a + k ≤ n) : rngE n a k = 0 := by
  rw [rngE, if_pos hs, if_neg (by omega)]
theorem rdE_back {m : List Int} {l : List (Int × Int)} (h : chkE l m.length = 0) : rdE (splice m 32 (listed l)) l.length = 0 := by
  obtain ⟨hs, hl, hm, _⟩ := chk_iff.1 h
  have hsz := sizeB_bd hs
  have hll := listed_length l
  have hlen : (splice m 32 (listed l)).length = m.length := splice_len (by omega)
  rw [rdE, hlen, if_pos hs, if_neg (by omega), Int.toNat_natCast, jnl_back h, if_pos h]
end Go.Proofs.Ytlhlnenpgcndkaa
