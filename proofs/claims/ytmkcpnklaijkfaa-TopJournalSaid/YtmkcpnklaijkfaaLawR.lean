/-
  A crash while a change is replayed does not matter: the plain law.
-/
import Derived.Test.YtmkcpnklaijkfaaLawP
namespace Go.Proofs.Ytmkcpnklaijkfaa
open Go.RowKit
theorem applied_far {l : List (Int × Int)} {i : Nat} : ∀ {m : List Int}, (∀ e ∈ l, e.1.toNat ≠ i) → (applied m l)[i]? = m[i]? := by
  induction l with
  | nil => intro m _; rfl
  | cons e l ih =>
    intro m h
    have h1 : applied m (e :: l) = applied (m.set e.1.toNat e.2) l := rfl
    rw [h1, ih (fun x hx => h x (List.mem_cons_of_mem _ hx)), List.getElem?_set_ne (h e (List.mem_cons_self ..))]
theorem applied_agree {l : List (Int × Int)} : ∀ {x y : List Int}, y.length = x.length → (∀ j : Nat, y[j]? = x[j]? ∨ ∃ e ∈ l, e.1.toNat = j) → applied y l = applied x l := by
  induction l with
  | nil =>
    intro x y _ h
    exact List.ext_getElem? fun j => by rcases h j with h | ⟨e, he, _⟩; exact h; cases he
  | cons e l ih =>
    intro x y hl h
    show applied (y.set e.1.toNat e.2) l = applied (x.set e.1.toNat e.2) l
    refine ih (by rw [List.length_set, List.length_set]; exact hl) fun j => ?_
    by_cases hj : e.1.toNat = j
    · left
      subst hj
      rw [List.getElem?_set, List.getElem?_set, hl, if_pos rfl, if_pos rfl]
    · rcases h j with h | ⟨e', he', rfl⟩
      · left; rw [List.getElem?_set_ne hj, List.getElem?_set_ne hj, h]
      · rcases List.mem_cons.1 he' with h1 | h1
        · subst h1; exact absurd rfl hj
        · exact .inr ⟨e', h1, rfl⟩
theorem jhas_far {x y : List Int} {l : List (Int × Int)} (hk : l.length ≤ 32) (h : ∀ j : Nat, (j = 24 ∨ 32 ≤ j ∧ j < 96) → y[j]? = x[j]?) (hx : JHas x l) : JHas y l := by
  refine ⟨?_, fun i e he => ?_⟩
  · have := hx.1
    unfold jw at this ⊢
    rw [List.getD, h 24 (.inl rfl)]
    exact this
  · have hi := (List.getElem?_eq_some_iff.1 he).1
    have := hx.2 i e he
    rw [List.getD, List.getD, h _ (.inr (by omega)), h _ (.inr (by omega))]
    exact this
theorem chk_far {l : List (Int × Int)} {n : Int} (h : chkE l n = 0) {e : Int × Int} (he : e ∈ l) {j : Nat} (hj : j = 24 ∨ 32 ≤ j ∧ j < 96) : e.1.toNat ≠ j := by
  have := mayB_bd ((chk_iff.1 h).2.2.1 e he)
  omega
theorem lnN24 : lnN [(24, 0)] 256 = 1 := by decide +kernel
theorem rep_len (l : List (Int × Int)) : (repOps l).length = l.length + lnN l 256 + 4 := by
  unfold repOps
  rw [List.length_append, putOps_len, putOps_len, lnN24]
  simp only [List.length_cons, List.length_nil]
theorem opN_chk {l : List (Int × Int)} {n : Int} (h : chkE l n = 0) (hn : l.length ≠ 0) : opE l = 0 ∧ opN l = (repOps l).length := by
  obtain ⟨hs, hl, hm, _⟩ := chk_iff.1 h
  have hsz := sizeB_bd hs
  have he : opE l = 0 := by
    unfold opE
    rw [if_neg (by omega), if_pos (inrB_iff.2 fun e he => by have := mayB_bd (hm e he); omega)]
  refine ⟨he, ?_⟩
  rw [rep_len, opN, if_pos ⟨he, hn⟩]
  omega
theorem asc_effs {m : List Int} {os : List Dop} (h : ∀ o ∈ os, OpIn (m.length : Int) o) : (effs (m, []) os).1.length = m.length ∧ ascB m.length (-1) (effs (m, []) os).2 = true := by
  have := effs_S (n := (m.length : Int)) (s := (m, [])) ⟨rfl, rfl⟩ h
  exact ⟨by have := this.1; omega, this.2⟩
/-- What replaying gives after a crash in the middle of replaying. -/
theorem rep_crash {x : List Int} {l : List (Int × Int)} (left : Nat) (mask : Int) (hk : chkE l x.length = 0) (hn : l.length ≠ 0) (wf : WfE l) (hj : JHas x l) :
    (crM mask 0 (runD (x, [], (left : Int), false) (repOps l)).1 (runD (x, [], (left : Int), false) (repOps l)).2.1).length = x.length ∧
    crE (crM mask 0 (runD (x, [], (left : Int), false) (repOps l)).1 (runD (x, [], (left : Int), false) (repOps l)).2.1) = 0 ∧
    imgL (crM mask 0 (runD (x, [], (left : Int), false) (repOps l)).1 (runD (x, [], (left : Int), false) (repOps l)).2.1) = (applied x l).set 24 0 ∧
    (runD (x, [], (left : Int), false) (repOps l)).2.2.2 = decide ((left : Int) < opN l) := by
  obtain ⟨hs, hl, hm, _⟩ := chk_iff.1 hk
  have hsz := sizeB_bd hs
  obtain ⟨_, ho⟩ := opN_chk hk hn
  have hr : ∀ e ∈ l, 0 ≤ e.1 ∧ e.1 < (x.length : Int) := fun e he => by have := mayB_bd (hm e he); omega
  obtain ⟨y, hy⟩ : ∃ y, applied x l = y := ⟨_, rfl⟩
  rw [hy]
  have hyl : y.length = x.length := by rw [← hy, applied_length]
  have c1 : effs (x, []) (putOps l 256) = (y, []) := by rw [put_clean hs hr wf, hy]
  have hr24 : ∀ e ∈ [((24 : Int), (0 : Int))], 0 ≤ e.1 ∧ e.1 < (y.length : Int) := fun e he => by simp at he; subst he; simp only; omega
  have c2 : effs (y, []) (putOps [(24, 0)] 256) = (y.set 24 0, []) := by rw [put_clean (by rw [hyl]; exact hs) hr24 wf24]; rfl
  have hzero : ∀ z : List Int, z = y.set 24 0 → z.length = x.length ∧ crE z = 0 ∧ imgL z = y.set 24 0 := by
    rintro z rfl
    have hz : (y.set 24 0).length = x.length := by rw [List.length_set]; exact hyl
    have := img_zero (x := y.set 24 0) (by rw [hz]; exact hs) (jw_at (by rw [List.getElem?_set_self (by omega)]))
    exact ⟨hz, this.1, this.2⟩
  have hhas : ∀ z : List Int, z.length = x.length → (∀ j : Nat, z[j]? = x[j]? ∨ ∃ e ∈ l, e.1.toNat = j) → crE z = 0 ∧ imgL z = y.set 24 0 := by
    intro z hz h
    have hjz : JHas z l := jhas_far hl (fun j hj' => by
      rcases h j with h | ⟨e, he, h1⟩
      · exact h
      · exact absurd h1 (chk_far hk he hj')) hj
    have := img_has (x := z) (by rw [hz]; exact hk) hn hjz
    rw [applied_agree hz h, hy] at this
    exact this
  by_cases h1 : left < (putOps l 256).length
  · have e1 : runD (x, [], (left : Int), false) (repOps l) = ((effs (x, []) ((putOps l 256).take left)).1, (effs (x, []) ((putOps l 256).take left)).2, 0, true) := by
      rw [runD_stop _ _ _ _ _ (by unfold repOps; rw [List.length_append]; omega)]
      unfold repOps
      rw [List.take_append_of_le_length (by omega)]
    rw [e1]
    obtain ⟨p1, p2⟩ := put_part h1 (m := x)
    obtain ⟨a1, a2⟩ := asc_effs (m := x) (os := (putOps l 256).take left) fun o ho => putOps_in hr hsz.2.2 wf 256 o (List.mem_of_mem_take ho)
    obtain ⟨q, hq⟩ : ∃ q, (effs (x, []) ((putOps l 256).take left)).2 = q := ⟨_, rfl⟩
    rw [p1, hq]
    rw [hq] at p2 a2
    obtain ⟨k1, k2⟩ := cr_part mask p2 a2
    have := hhas _ k1 fun j => by
      rcases k2 j with h | ⟨e, he, h, _⟩
      · exact .inl h
      · exact .inr ⟨e, he, h⟩
    refine ⟨k1, this.1, this.2, ?_⟩
    rw [ho, decide_eq_true (by unfold repOps; rw [List.length_append]; omega)]
  · by_cases h2 : left < (repOps l).length
    · have h3 : left - (putOps l 256).length < (putOps [(24, 0)] 256).length := by unfold repOps at h2; rw [List.length_append] at h2; omega
      obtain ⟨k, hkk⟩ : ∃ k, left - (putOps l 256).length = k := ⟨_, rfl⟩
      rw [hkk] at h3
      have e1 : runD (x, [], (left : Int), false) (repOps l) = ((effs (y, []) ((putOps [(24, 0)] 256).take k)).1, (effs (y, []) ((putOps [(24, 0)] 256).take k)).2, 0, true) := by
        rw [runD_stop _ _ _ _ _ h2]
        unfold repOps
        rw [List.take_append, List.take_of_length_le (by omega), effs_append, c1, hkk]
      rw [e1]
      obtain ⟨p1, p2⟩ := put_part h3 (m := y)
      obtain ⟨a1, a2⟩ := asc_effs (m := y) (os := (putOps [(24, 0)] 256).take k) fun o ho => putOps_in hr24 (by rw [hyl]; exact hsz.2.2) wf24 256 o (List.mem_of_mem_take ho)
      obtain ⟨q, hq⟩ : ∃ q, (effs (y, []) ((putOps [(24, 0)] 256).take k)).2 = q := ⟨_, rfl⟩
      rw [p1, hq]
      rw [hq] at p2 a2
      obtain ⟨k1, k2⟩ := cr_part mask p2 a2
      obtain ⟨z, hz⟩ : ∃ z, crM mask 0 y q = z := ⟨_, rfl⟩
      rw [hz] at k1 k2 ⊢
      have hd : (true : Bool) = decide ((left : Int) < opN l) := by rw [ho, decide_eq_true (by omega)]
      have hoth : ∀ j : Nat, j ≠ 24 → z[j]? = y[j]? := fun j hj' => by
        rcases k2 j with h | ⟨e, he, h, _⟩
        · exact h
        · simp at he; subst he; exact absurd h.symm hj'
      by_cases h24 : z[24]? = y[24]?
      · have hzy : z = y := List.ext_getElem? fun j => by
          by_cases hj' : j = 24
          · rw [hj']; exact h24
          · exact hoth j hj'
        have := hhas z (k1.trans hyl) fun j => by
          rw [hzy, ← hy]
          by_cases hex : ∃ e ∈ l, e.1.toNat = j
          · exact .inr hex
          · exact .inl (applied_far fun e he h => hex ⟨e, he, h⟩)
        exact ⟨k1.trans hyl, this.1, this.2, hd⟩
      · have h0 : z[24]? = some 0 := by
          rcases k2 24 with h | ⟨e, he, _, h⟩
          · exact absurd h h24
          · simp at he; subst he; exact h
        have := hzero z (List.ext_getElem? fun j => by
          by_cases hj' : j = 24
          · rw [hj', h0, List.getElem?_set_self (by omega)]
          · rw [hoth j hj', List.getElem?_set_ne (Ne.symm hj')])
        exact ⟨this.1, this.2.1, this.2.2, hd⟩
    · have e1 : runD (x, [], (left : Int), false) (repOps l) = (y.set 24 0, [], (left : Int) - (repOps l).length, false) := by
        rw [runD_left _ _ _ _ _ (by omega)]
        have : effs (x, []) (repOps l) = (y.set 24 0, []) := by unfold repOps; rw [effs_append, c1, c2]
        rw [this]
      rw [e1]
      have := hzero (crM mask 0 (y.set 24 0) []) rfl
      refine ⟨this.1, this.2.1, this.2.2, ?_⟩
      rw [ho, decide_eq_false (by omega)]
theorem runD_W {n : Int} (hn : n ≤ 2048) : ∀ {os : List Dop} {D : List Int × List Dw × Int × Bool}, DevW (D.1, D.2.1) → (∀ o ∈ os, OpIn n o) → DevW ((runD D os).1, (runD D os).2.1)
  | [], _, h, _ => h
  | o :: os, D, h, ho => by
    rw [runD_cons]
    refine runD_W hn (os := os) ?_ fun x hx => ho x (List.mem_cons_of_mem _ hx)
    unfold stepD
    split
    · exact h
    · exact effD_W hn h (ho o (List.mem_cons_self ..))
end Go.Proofs.Ytmkcpnklaijkfaa
