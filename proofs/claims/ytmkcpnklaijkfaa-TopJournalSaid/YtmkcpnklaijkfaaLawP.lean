/-
  Put from a device with nothing dirty, wherever it stops: the plain laws.
-/
import Derived.Test.YtmkcpnklaijkfaaWith10
import Derived.Test.YtmkcpnklaijkfaaOp10
import Derived.Test.YtmkcpnklaijkfaaDev10
import Derived.Test.YtmkcpnklaijkfaaGH
namespace Go.Proofs.Ytmkcpnklaijkfaa
open Go.RowKit
/-- The dirty words come from entries. -/
def FromL (l : List (Int × Int)) (q : List Dw) : Prop := ∀ x ∈ q, ∃ e ∈ l, x.1 = e.1 ∧ x.2.1 = e.2
theorem fromL_ins {l : List (Int × Int)} {e : Int × Int} (he : e ∈ l) : ∀ {q : List Dw}, FromL l q → FromL l (insD e.1 e.2 q)
  | [], _, x, hx => by simp [insD] at hx; subst hx; exact ⟨e, he, rfl, rfl⟩
  | y :: q, h, x, hx => by
    have hy := h y (List.mem_cons_self ..)
    have hq : FromL l q := fun z hz => h z (List.mem_cons_of_mem _ hz)
    unfold insD at hx
    split at hx
    · rcases List.mem_cons.1 hx with h1 | h1
      · rw [h1]; exact hy
      · exact fromL_ins he hq x h1
    · split at hx
      · rcases List.mem_cons.1 hx with h1 | h1
        · rw [h1]; exact ⟨e, he, rfl, rfl⟩
        · exact hq x h1
      · rcases List.mem_cons.1 hx with h1 | h1
        · rw [h1]; exact ⟨e, he, rfl, rfl⟩
        · exact h x h1
theorem fromL_flu {l : List (Int × Int)} {a : Int} {q : List Dw} (h : FromL l q) : FromL l (fluD a q) := by
  intro x hx
  obtain ⟨y, hy, rfl⟩ := List.mem_map.1 hx
  obtain ⟨e, he, h1, h2⟩ := h y hy
  refine ⟨e, he, ?_⟩
  split <;> exact ⟨h1, h2⟩
theorem effs_st {l0 : List (Int × Int)} : ∀ {l : List (Int × Int)} {s : List Int × List Dw}, (∀ e ∈ l, e ∈ l0) → FromL l0 s.2 → (effs s (stOps l)).1 = s.1 ∧ FromL l0 (effs s (stOps l)).2
  | [], _, _, h => ⟨rfl, h⟩
  | e :: l, s, hl, h => by
    have := effs_st (l := l) (s := effD s (.st e.1 e.2)) (fun x hx => hl x (List.mem_cons_of_mem _ hx)) (fromL_ins (hl e (List.mem_cons_self ..)) h)
    exact this
theorem effs_fl {l0 : List (Int × Int)} : ∀ {L : List Nat} {s : List Int × List Dw}, FromL l0 s.2 → (effs s (L.map fun i : Nat => Dop.fl (8 * (i : Int)))).1 = s.1 ∧ FromL l0 (effs s (L.map fun i : Nat => Dop.fl (8 * (i : Int)))).2
  | [], _, h => ⟨rfl, h⟩
  | i :: L, s, h => effs_fl (L := L) (s := effD s (.fl (8 * (i : Int)))) (fromL_flu h)
/-- Before its fence a Put leaves the safe words alone. -/
theorem put_part {l : List (Int × Int)} {m : List Int} {k : Nat} (hk : k < (putOps l 256).length) : (effs (m, []) ((putOps l 256).take k)).1 = m ∧ FromL l (effs (m, []) ((putOps l 256).take k)).2 := by
  have hlen : (putOps l 256).length = (stOps l ++ flOps l 256).length + 1 := by simp [putOps]; omega
  have e1 : putOps l 256 = (stOps l ++ flOps l 256) ++ [.fe] := by simp [putOps]
  rw [e1, List.take_append_of_le_length (by omega)]
  by_cases h : k ≤ (stOps l).length
  · rw [List.take_append_of_le_length h, show (stOps l).take k = stOps (l.take k) from by simp [stOps, List.map_take]]
    exact effs_st (fun e he => List.mem_of_mem_take he) (fun x hx => by cases hx)
  · rw [List.take_append, List.take_of_length_le (by omega), effs_append]
    obtain ⟨h1, h2⟩ := effs_st (l := l) (s := (m, [])) (l0 := l) (fun e he => he) (fun x hx => by cases hx)
    have e2 : (flOps l 256).take (k - (stOps l).length) = ((lineL l 256).take (k - (stOps l).length)).map fun i : Nat => Dop.fl (8 * (i : Int)) := by simp [flOps, List.map_take]
    rw [e2]
    obtain ⟨h3, h4⟩ := effs_fl (L := (lineL l 256).take (k - (stOps l).length)) h2
    exact ⟨h3.trans h1, h4⟩
/-- What is loaded after entries were stored. -/
theorem wrd_st {n : Int} : ∀ {l : List (Int × Int)} {s : List Int × List Dw}, DevS n s → (∀ e ∈ l, 0 ≤ e.1 ∧ e.1 < n) → WfE l → wrd (effs s (stOps l)).1 (effs s (stOps l)).2 = applied (wrd s.1 s.2) l ∧ DevS n (effs s (stOps l))
  | [], _, h, _, _ => ⟨rfl, h⟩
  | e :: l, s, h, hr, wf => by
    have ho : OpIn n (.st e.1 e.2) := ⟨(hr e (List.mem_cons_self ..)).1, (hr e (List.mem_cons_self ..)).2, (wf e (List.mem_cons_self ..)).2⟩
    have := wrd_st (l := l) (s := effD s (.st e.1 e.2)) (effD_S h ho) (fun x hx => hr x (List.mem_cons_of_mem _ hx)) (fun x hx => wf x (List.mem_cons_of_mem _ hx))
    rw [wrd_eff h ho] at this
    exact this
theorem flu_all (L : List Nat) : ∀ (s : List Int × List Dw), (effs s (L.map fun i : Nat => Dop.fl (8 * (i : Int)))) = (s.1, s.2.map fun x => if ∃ i ∈ L, x.1 / 8 = (i : Int) then (x.1, x.2.1, true) else x) := by
  induction L with
  | nil => intro s; simp [effs]
  | cons i L ih =>
    intro s
    show effs (effD s (.fl (8 * (i : Int)))) _ = _
    rw [ih]
    simp only [effD, fluD, List.map_map, Prod.mk.injEq, true_and]
    apply List.map_congr_left
    intro x hx
    simp only [Function.comp, List.mem_cons, exists_eq_or_imp]
    have h8 : (8 * (i : Int)) / 8 = (i : Int) := by omega
    rw [h8]
    by_cases h1 : x.1 / 8 = (i : Int)
    · simp [h1]
    · simp [h1]
/-- A whole Put: what is loaded; which words stay dirty. -/
theorem put_all {n : Int} {l : List (Int × Int)} {s : List Int × List Dw} (h : DevS n s) (hn : n ≤ 2048) (h8 : n % 8 = 0) (hr : ∀ e ∈ l, 0 ≤ e.1 ∧ e.1 < n) (wf : WfE l) :
    wrd (effs s (putOps l 256)).1 (effs s (putOps l 256)).2 = applied (wrd s.1 s.2) l ∧ DevS n (effs s (putOps l 256)) ∧ (∀ x ∈ (effs s (putOps l 256)).2, ∀ e ∈ l, x.1 / 8 ≠ e.1 / 8) ∧ (s.2 = [] → (effs s (putOps l 256)).2 = []) := by
  obtain ⟨w1, d1⟩ := wrd_st h hr wf
  obtain ⟨s1, hs1⟩ : ∃ x, effs s (stOps l) = x := ⟨_, rfl⟩
  rw [hs1] at w1 d1
  have hall : ∀ os : List Dop, (∀ o ∈ os, OpIn n o) → (∀ o ∈ os, ∀ a v, o ≠ .st a v) → ∀ t, DevS n t → wrd (effs t os).1 (effs t os).2 = wrd t.1 t.2 ∧ DevS n (effs t os) := by
    intro os
    induction os with
    | nil => intro _ _ t ht; exact ⟨rfl, ht⟩
    | cons o os ih =>
      intro h1 h2 t ht
      have ho := h1 o (List.mem_cons_self ..)
      have := ih (fun x hx => h1 x (List.mem_cons_of_mem _ hx)) (fun x hx => h2 x (List.mem_cons_of_mem _ hx)) _ (effD_S ht ho)
      rw [wrd_eff ht ho] at this
      rw [effs_cons]
      refine ⟨this.1.trans ?_, this.2⟩
      cases o with
      | st a v => exact absurd rfl (h2 _ (List.mem_cons_self ..) a v)
      | fl a => rfl
      | fe => rfl
  obtain ⟨N, rfl⟩ : ∃ N : Nat, n = (N : Int) := ⟨s.1.length, h.1.symm⟩
  have hin : ∀ o ∈ flOps l 256 ++ [Dop.fe], OpIn (N : Int) o := fun o ho => by
    rcases List.mem_append.1 ho with h1 | h1
    · exact flOps_in hr h8 256 o h1
    · simp at h1; subst h1; trivial
  have hns : ∀ o ∈ flOps l 256 ++ [Dop.fe], ∀ a v, o ≠ .st a v := fun o ho a v e => by
    subst e
    rcases List.mem_append.1 ho with h1 | h1
    · simp [flOps] at h1
    · simp at h1
  have hp := hall _ hin hns s1 d1
  have e0 : effs s (putOps l 256) = effs s1 (flOps l 256 ++ [Dop.fe]) := by unfold putOps; rw [effs_append, hs1]
  have e1 : (effs s1 (flOps l 256 ++ [Dop.fe])).2 = fenD (s1.2.map fun x => if ∃ i ∈ lineL l 256, x.1 / 8 = (i : Int) then (x.1, x.2.1, true) else x) := by
    rw [effs_append]
    unfold flOps
    rw [flu_all]
    rfl
  have hgone : ∀ x ∈ (effs s (putOps l 256)).2, ∀ e ∈ l, x.1 / 8 ≠ e.1 / 8 := by
    intro x hx e he hxe
    rw [e0, e1] at hx
    obtain ⟨h1, h2⟩ := List.mem_filter.1 hx
    obtain ⟨y, hy, rfl⟩ := List.mem_map.1 h1
    have hre := hr e he
    have hy1 : (if ∃ i ∈ lineL l 256, y.1 / 8 = (i : Int) then ((y.1, y.2.1, true) : Dw) else y).1 = y.1 := by split <;> rfl
    rw [hy1] at hxe
    have hex : ∃ i ∈ lineL l 256, y.1 / 8 = (i : Int) := by
      refine ⟨(e.1 / 8).toNat, ?_, by omega⟩
      simp only [lineL, List.mem_filter, List.mem_range, List.any_eq_true, decide_eq_true_eq]
      exact ⟨by omega, e, he, by omega⟩
    rw [if_pos hex] at h2
    simp at h2
  refine ⟨by rw [e0]; exact hp.1.trans w1, by rw [e0]; exact hp.2, hgone, fun hq => ?_⟩
  have hf : FromL l s1.2 := by
    have := (effs_st (l := l) (s := s) (l0 := l) (fun e he => he) (by rw [hq]; intro x hx; cases hx)).2
    rw [hs1] at this
    exact this
  cases hc : (effs s (putOps l 256)).2 with
  | nil => rfl
  | cons x r =>
    exfalso
    have hx : x ∈ (effs s (putOps l 256)).2 := by rw [hc]; exact List.mem_cons_self ..
    have hx' := hx
    rw [e0, e1] at hx'
    obtain ⟨h1, _⟩ := List.mem_filter.1 hx'
    obtain ⟨y, hy, hyx⟩ := List.mem_map.1 h1
    obtain ⟨e, he, h2, _⟩ := hf y hy
    have hy1 : x.1 = y.1 := by rw [← hyx]; split <;> rfl
    exact hgone x hx e he (by rw [hy1, h2])
/-- A whole Put from nothing dirty. -/
theorem put_clean {l : List (Int × Int)} {m : List Int} (hs : sizeB m.length = true) (hr : ∀ e ∈ l, 0 ≤ e.1 ∧ e.1 < (m.length : Int)) (wf : WfE l) : effs (m, []) (putOps l 256) = (applied m l, []) := by
  have hsz := sizeB_bd hs
  obtain ⟨h1, _, _, h4⟩ := put_all (s := (m, [])) (n := m.length) ⟨rfl, rfl⟩ (by omega) hsz.2.2 hr wf
  have h5 := h4 rfl
  rw [h5] at h1
  exact Prod.ext h1 h5
theorem putOps_len (l : List (Int × Int)) : (putOps l 256).length = l.length + lnN l 256 + 1 := by
  simp [putOps, stOps, flOps, lnN]; omega
/-- A crash in the middle of a Put: each word is as it was, or an entry's. -/
theorem cr_part {l : List (Int × Int)} {m : List Int} {q : List Dw} (mask : Int) (hf : FromL l q) (hasc : ascB m.length (-1) q = true) :
    (crM mask 0 m q).length = m.length ∧ ∀ j, (crM mask 0 m q)[j]? = m[j]? ∨ ∃ e ∈ l, e.1.toNat = j ∧ (crM mask 0 m q)[j]? = some e.2 := by
  refine ⟨crM_length .., fun j => ?_⟩
  by_cases h : ∃ x ∈ q, x.1.toNat = j
  · obtain ⟨x, hx, rfl⟩ := h
    obtain ⟨k, hk⟩ := List.mem_iff_getElem?.1 hx
    rw [crM_hit (by omega) hasc rfl hk]
    split
    · obtain ⟨e, he, h1, h2⟩ := hf x hx
      exact .inr ⟨e, he, by rw [h1], by rw [h2]⟩
    · exact .inl rfl
  · exact .inl (crM_far fun x hx e => h ⟨x, hx, e⟩)
end Go.Proofs.Ytmkcpnklaijkfaa
