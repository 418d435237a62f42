/-
  A change wherever it crashes: the plain laws.
-/
import Derived.Test.YtmkcpnklaijkfaaAtE
namespace Go.Proofs.Ytmkcpnklaijkfaa
open Go.RowKit
/-- Two images are the same but for the words of the journal. -/
def Out (a b : List Int) : Prop := a.length = b.length ∧ a[24]? = some 0 ∧ b[24]? = some 0 ∧ ∀ j : Nat, (j < 24 ∨ 96 ≤ j) → a[j]? = b[j]?
theorem Out.rfl' {a : List Int} (h : a[24]? = some 0) : Out a a := ⟨rfl, h, h, fun _ _ => rfl⟩
theorem Out.trans {a b c : List Int} (h : Out a b) (k : Out b c) : Out a c := ⟨h.1.trans k.1, h.2.1, k.2.2.1, fun j hj => (h.2.2.2 j hj).trans (k.2.2.2 j hj)⟩
theorem Out.symm {a b : List Int} (h : Out a b) : Out b a := ⟨h.1.symm, h.2.2.1, h.2.1, fun j hj => (h.2.2.2 j hj).symm⟩
theorem applied_cong {P : Nat → Prop} {l : List (Int × Int)} : ∀ {a b : List Int}, a.length = b.length → (∀ j, P j → a[j]? = b[j]?) → ∀ j, P j → (applied a l)[j]? = (applied b l)[j]? := by
  induction l with
  | nil => intro a b _ h; exact h
  | cons e l ih =>
    intro a b hl h
    show ∀ j, P j → (applied (a.set e.1.toNat e.2) l)[j]? = (applied (b.set e.1.toNat e.2) l)[j]?
    refine ih (by rw [List.length_set, List.length_set]; exact hl) fun j hj => ?_
    rw [List.getElem?_set, List.getElem?_set, hl, h j hj]
theorem applied24 {x : List Int} {l : List (Int × Int)} {n : Int} (hk : chkE l n = 0) : (applied x l)[24]? = x[24]? := applied_far (chk_not24 hk)
theorem Out.app {a b : List Int} {l : List (Int × Int)} {n : Int} (hk : chkE l n = 0) (h : Out a b) : Out (applied a l) (applied b l) :=
  ⟨by rw [applied_length, applied_length]; exact h.1, by rw [applied24 hk]; exact h.2.1, by rw [applied24 hk]; exact h.2.2.1, applied_cong (P := fun j => j < 24 ∨ 96 ≤ j) h.1 h.2.2.2⟩
theorem applied_jEnt {m ws : List Int} {a : Nat} : ∀ {k : Nat}, k ≤ ws.length → a + k ≤ m.length → applied m (jEnt a ws k) = splice m a (ws.take k)
  | 0, _, h => by
    show m = _
    simp [splice, List.take_append_drop]
  | k + 1, hk, h => by
    have ih := applied_jEnt (m := m) (ws := ws) (a := a) (k := k) (by omega) (by omega)
    obtain ⟨y, hy⟩ : ∃ y, ws[k]? = some y := ⟨_, List.getElem?_eq_getElem (by omega)⟩
    rw [jEnt_succ, applied_append, ih, ← splice_step hy (by omega)]
    show (splice m a (ws.take k)).set ((a : Int) + (k : Int)).toNat (ws.getD k 0) = _
    rw [show ((a : Int) + (k : Int)).toNat = a + k from by omega, List.getD, hy]
    rfl
theorem applied_jrn {m : List Int} {l : List (Int × Int)} (h : chkE l m.length = 0) : applied m (jrn l) = splice m 32 (listed l) := by
  obtain ⟨hs, hl, _, _⟩ := chk_iff.1 h
  have hsz := sizeB_bd hs
  have h2 := listed_length l
  have := applied_jEnt (m := m) (ws := listed l) (a := 32) (k := (listed l).length) (Nat.le_refl _) (by omega)
  rw [List.take_length] at this
  exact this
theorem lineL_fst {l k : List (Int × Int)} (h : l.map Prod.fst = k.map Prod.fst) (n : Nat) : lineL l n = lineL k n := by
  have e : ∀ (l : List (Int × Int)) (i : Nat), (l.any fun e => decide (e.1 / 8 = (i : Int))) = ((l.map Prod.fst).any fun a => decide (a / 8 = (i : Int))) := fun l i => by rw [List.any_map]; rfl
  unfold lineL
  congr 1
  funext i
  rw [e, e, h]
theorem lineL24 (v : Int) : lineL [(24, v)] 256 = [3] := by
  rw [lineL_fst (l := [(24, v)]) (k := [(24, 0)]) rfl]
  decide +kernel
theorem put24 (v : Int) : putOps [(24, v)] 256 = [.st 24 v, .fl 24, .fe] := by
  unfold putOps flOps
  rw [lineL24]
  rfl
theorem lnN_jrn0 : ∀ n : Fin 33, lnN (jEnt 32 [] (2 * n.1)) 256 = (2 * n.1 + 7) / 8 := by decide +kernel
theorem lnN_jrn {l : List (Int × Int)} (hl : l.length ≤ 32) : lnN (jrn l) 256 = (2 * l.length + 7) / 8 := by
  have h := lnN_jrn0 ⟨l.length, by omega⟩
  have h2 := listed_length l
  unfold lnN at h ⊢
  rw [← h]
  congr 1
  apply lineL_fst
  unfold jrn jEnt
  rw [List.map_map, List.map_map, h2]
  rfl
/-- How many operations write the journal's entries; how many make a change. -/
def nJ (l : List (Int × Int)) : Nat := 2 * l.length + (2 * l.length + 7) / 8 + 1
theorem jrn_len {l : List (Int × Int)} (hl : l.length ≤ 32) : (putOps (jrn l) 256).length = nJ l := by
  rw [putOps_len, jrn_length, lnN_jrn hl, nJ]
theorem ch_len {l : List (Int × Int)} (hl : l.length ≤ 32) : (chOps l).length = nJ l + 3 + (repOps l).length := by
  unfold chOps
  rw [List.length_append, List.length_append, jrn_len hl, put24]
  simp only [List.length_cons, List.length_nil]
  omega
def chN (l : List (Int × Int)) : Nat := (chAll l).length
theorem chN_le {l : List (Int × Int)} {n : Int} (h : chkE l n = 0) : chN l < 1000 := by
  unfold chN chAll
  have hl := (chk_iff.1 h).2.1
  split
  · simp
  · rw [ch_len hl, rep_len]
    have : lnN l 256 ≤ 256 := lnN_le l 256
    unfold nJ
    omega
/-- What Operations counts. -/
theorem chN_ops {l : List (Int × Int)} {n : Int} (h : chkE l n = 0) (hn : l.length ≠ 0) : (chN l : Int) = 2 * l.length + (2 * (l.length : Int) + 7) / 8 + 4 + opN l := by
  have hl := (chk_iff.1 h).2.1
  unfold chN chAll
  rw [if_neg hn, ch_len hl, (opN_chk h hn).2]
  unfold nJ
  push_cast
  omega
section
variable {x : List Int} {l : List (Int × Int)}
theorem old_of (hs : sizeB x.length = true) (h24 : x[24]? = some 0) {z : List Int} (hl : z.length = x.length) (hz : z[24]? = some 0) (h : ∀ j : Nat, (j < 24 ∨ 96 ≤ j) → z[j]? = x[j]?) : crE z = 0 ∧ Out (imgL z) x := by
  obtain ⟨h1, h2⟩ := img_zero (x := z) (by rw [hl]; exact hs) (jw_at hz)
  rw [h2]
  exact ⟨h1, hl, hz, h24, h⟩
theorem new_of (hk : chkE l x.length = 0) (h24 : x[24]? = some 0) {y : List Int} (h : y = (applied (withL x l) l).set 24 0) : Out y (applied x l) := by
  subst h
  obtain ⟨hs, hl, _, _⟩ := chk_iff.1 hk
  have hsz := sizeB_bd hs
  have hwl := withL_length hk
  have h2 := listed_length l
  refine ⟨by rw [List.length_set, applied_length, applied_length, hwl], by rw [List.getElem?_set_self (by rw [applied_length, hwl]; omega)], by rw [applied24 hk]; exact h24, fun j hj => ?_⟩
  rw [List.getElem?_set_ne (by omega)]
  refine applied_cong (P := fun j => j < 24 ∨ 96 ≤ j) hwl (fun j hj => ?_) j hj
  unfold withL
  rw [List.getElem?_set_ne (by omega)]
  exact splice_out (m := x) (off := 32) (cs := listed l) (by omega) (by omega)
theorem jrn_r (hk : chkE l x.length = 0) : ∀ e ∈ jrn l, 0 ≤ e.1 ∧ e.1 < (x.length : Int) := fun e he => by
  obtain ⟨hs, hl, _, _⟩ := chk_iff.1 hk
  have hsz := sizeB_bd hs
  have := jrn_mem he hl
  omega
theorem eff_J (hk : chkE l x.length = 0) (wf : WfE l) : effs (x, []) (putOps (jrn l) 256) = (splice x 32 (listed l), []) := by
  rw [put_clean (chk_iff.1 hk).1 (jrn_r hk) (jrn_wf hk wf), applied_jrn hk]
theorem eff_C (hk : chkE l x.length = 0) (_ : WfE l) : effs (splice x 32 (listed l), []) (putOps [(24, cword l)] 256) = (withL x l, []) := by
  obtain ⟨hs, hl, _, _⟩ := chk_iff.1 hk
  have hsz := sizeB_bd hs
  have h2 := listed_length l
  have hc := cword_in hl
  have hlen : (splice x 32 (listed l)).length = x.length := splice_len (by omega)
  rw [put_clean (by rw [hlen]; exact hs) (fun e he => by simp at he; subst he; simp only; omega) (fun e he => by simp at he; subst he; exact ⟨by unfold InI; simp only; omega, by unfold InU; simp only; omega⟩)]
  rfl
theorem eff_ch (hk : chkE l x.length = 0) (wf : WfE l) : effs (x, []) (chOps l) = ((applied (withL x l) l).set 24 0, []) := by
  obtain ⟨hs, hl, hm, _⟩ := chk_iff.1 hk
  have hsz := sizeB_bd hs
  have hwl := withL_length hk
  unfold chOps repOps
  rw [effs_append, eff_J hk wf, effs_append, eff_C hk wf, effs_append, put_clean (by rw [hwl]; exact hs) (fun e he => by have := mayB_bd (hm e he); omega) wf,
    put_clean (by rw [applied_length, hwl]; exact hs) (fun e he => by simp at he; subst he; simp only; rw [applied_length]; omega) wf24]
  rfl
/-- What a crash leaves, wherever it comes. -/
def Crs (x : List Int) (l : List (Int × Int)) (left : Nat) (mask : Int) (z : List Int) : Prop :=
  (left ≤ nJ l ∧ Out (imgL z) x) ∨
  (nJ l < left ∧ left < nJ l + 3 ∧ (Out (imgL z) x ∨ Out (imgL z) (applied x l)) ∧ (mask = 0 → Out (imgL z) x) ∧ (mask = 18446744073709551615 → Out (imgL z) (applied x l))) ∨
  (nJ l + 3 ≤ left ∧ Out (imgL z) (applied x l))
theorem ch_crash (left : Nat) (mask : Int) (hk : chkE l x.length = 0) (hn : l.length ≠ 0) (wf : WfE l) (h24 : x[24]? = some 0) :
    (crM mask 0 (runD (x, [], (left : Int), false) (chOps l)).1 (runD (x, [], (left : Int), false) (chOps l)).2.1).length = x.length ∧
    crE (crM mask 0 (runD (x, [], (left : Int), false) (chOps l)).1 (runD (x, [], (left : Int), false) (chOps l)).2.1) = 0 ∧
    (runD (x, [], (left : Int), false) (chOps l)).2.2.2 = decide (left < (chOps l).length) ∧
    Crs x l left mask (crM mask 0 (runD (x, [], (left : Int), false) (chOps l)).1 (runD (x, [], (left : Int), false) (chOps l)).2.1) := by
  obtain ⟨hs, hl, hm, _⟩ := chk_iff.1 hk
  have hsz := sizeB_bd hs
  have h2 := listed_length l
  have hlen := ch_len hl
  have hJ := jrn_len hl
  have hxJ : (splice x 32 (listed l)).length = x.length := splice_len (by omega)
  have hout : ∀ j : Nat, (j < 32 ∨ 96 ≤ j) → (splice x 32 (listed l))[j]? = x[j]? := fun j hj => splice_out (m := x) (off := 32) (cs := listed l) (by omega) (by omega)
  by_cases h1 : left < nJ l
  · have e1 : runD (x, [], (left : Int), false) (chOps l) = ((effs (x, []) ((putOps (jrn l) 256).take left)).1, (effs (x, []) ((putOps (jrn l) 256).take left)).2, 0, true) := by
      rw [runD_stop _ _ _ _ _ (by omega)]
      unfold chOps
      rw [List.take_append_of_le_length (by omega)]
    rw [e1]
    obtain ⟨p1, p2⟩ := put_part (l := jrn l) (k := left) (by omega) (m := x)
    obtain ⟨a1, a2⟩ := asc_effs (m := x) (os := (putOps (jrn l) 256).take left) fun o ho => putOps_in (jrn_r hk) hsz.2.2 (jrn_wf hk wf) 256 o (List.mem_of_mem_take ho)
    obtain ⟨q, hq⟩ : ∃ q, (effs (x, []) ((putOps (jrn l) 256).take left)).2 = q := ⟨_, rfl⟩
    rw [p1, hq]
    rw [hq] at p2 a2
    obtain ⟨k1, k2⟩ := cr_part mask p2 a2
    have k3 : ∀ j : Nat, (j < 32 ∨ 96 ≤ j) → (crM mask 0 x q)[j]? = x[j]? := fun j hj => by
      rcases k2 j with h | ⟨e, he, h, _⟩
      · exact h
      · have := jrn_mem he hl
        omega
    obtain ⟨o1, o2⟩ := old_of hs h24 k1 (by rw [k3 24 (by omega)]; exact h24) fun j hj => k3 j (by omega)
    exact ⟨k1, o1, by rw [decide_eq_true (by omega)], .inl ⟨by omega, o2⟩⟩
  · by_cases h3 : left < nJ l + 3
    · obtain ⟨k, hkk⟩ : ∃ k, left - nJ l = k := ⟨_, rfl⟩
      have e1 : runD (x, [], (left : Int), false) (chOps l) = ((effs (splice x 32 (listed l), []) ((putOps [(24, cword l)] 256).take k)).1, (effs (splice x 32 (listed l), []) ((putOps [(24, cword l)] 256).take k)).2, 0, true) := by
        rw [runD_stop _ _ _ _ _ (by omega)]
        unfold chOps
        rw [List.take_append, List.take_of_length_le (by omega), effs_append, eff_J hk wf, hJ, hkk, List.take_append_of_le_length (by rw [put24]; simp only [List.length_cons, List.length_nil]; omega)]
      rw [e1]
      have hk3 : k < (putOps [(24, cword l)] 256).length := by rw [put24]; simp only [List.length_cons, List.length_nil]; omega
      obtain ⟨p1, p2⟩ := put_part hk3 (m := splice x 32 (listed l))
      have hr24 : ∀ e ∈ [((24 : Int), cword l)], 0 ≤ e.1 ∧ e.1 < ((splice x 32 (listed l)).length : Int) := fun e he => by simp at he; subst he; simp only; omega
      have hc := cword_in hl
      have hw24 : WfE [((24 : Int), cword l)] := fun e he => by simp at he; subst he; exact ⟨by unfold InI; simp only; omega, by unfold InU; simp only; omega⟩
      obtain ⟨a1, a2⟩ := asc_effs (m := splice x 32 (listed l)) (os := (putOps [(24, cword l)] 256).take k) fun o ho => putOps_in hr24 (by rw [hxJ]; exact hsz.2.2) hw24 256 o (List.mem_of_mem_take ho)
      have hone : 0 < k → wrd (splice x 32 (listed l)) (effs (splice x 32 (listed l), []) ((putOps [(24, cword l)] 256).take k)).2 = withL x l := fun hk0 => by
        rw [put24]
        have : k = 1 ∨ k = 2 := by omega
        rcases this with rfl | rfl
        · rfl
        · rfl
      have hzero : k = 0 → (effs (splice x 32 (listed l), []) ((putOps [(24, cword l)] 256).take k)).2 = [] := fun h => by subst h; rfl
      obtain ⟨q, hq⟩ : ∃ q, (effs (splice x 32 (listed l), []) ((putOps [(24, cword l)] 256).take k)).2 = q := ⟨_, rfl⟩
      rw [p1, hq]
      rw [hq] at p2 a2 hone hzero
      obtain ⟨k1, k2⟩ := cr_part mask p2 a2
      have hall : mask = 18446744073709551615 → crM mask 0 (splice x 32 (listed l)) q = wrd (splice x 32 (listed l)) q := fun h => by rw [h]; exact crM_all _ _ _
      have hno : mask = 0 → crM mask 0 (splice x 32 (listed l)) q = splice x 32 (listed l) := fun h => by rw [h]; exact crM_none _ _ _
      have hnil : k = 0 → crM mask 0 (splice x 32 (listed l)) q = splice x 32 (listed l) := fun h => by rw [hzero h]; rfl
      obtain ⟨z, hz⟩ : ∃ z, crM mask 0 (splice x 32 (listed l)) q = z := ⟨_, rfl⟩
      rw [hz] at k1 k2 hall hno hnil ⊢
      have hzl : z.length = x.length := k1.trans hxJ
      have hd : (true : Bool) = decide (left < (chOps l).length) := by rw [decide_eq_true (by omega)]
      have hold : z = splice x 32 (listed l) → crE z = 0 ∧ Out (imgL z) x := by
        rintro rfl
        exact old_of hs h24 hxJ (by rw [hout 24 (by omega)]; exact h24) fun j hj => hout j (by omega)
      have hnew : z = withL x l → crE z = 0 ∧ Out (imgL z) (applied x l) := by
        rintro rfl
        obtain ⟨i1, i2⟩ := img_has (x := withL x l) (by rw [hzl]; exact hk) hn (withL_has hk)
        exact ⟨i1, new_of hk h24 i2⟩
      have hoth : ∀ j : Nat, j ≠ 24 → z[j]? = (splice x 32 (listed l))[j]? := fun j hj => by
        rcases k2 j with h | ⟨e, he, h, _⟩
        · exact h
        · simp at he; subst he; exact absurd h.symm hj
      by_cases hk0 : k = 0
      · obtain ⟨o1, o2⟩ := hold (hnil hk0)
        exact ⟨hzl, o1, hd, .inl ⟨by omega, o2⟩⟩
      · have hmid : crE z = 0 ∧ (Out (imgL z) x ∨ Out (imgL z) (applied x l)) := by
          rcases k2 24 with h | ⟨e, he, _, h⟩
          · obtain ⟨o1, o2⟩ := hold (List.ext_getElem? fun j => by
              by_cases hj : j = 24
              · rw [hj]; exact h
              · exact hoth j hj)
            exact ⟨o1, .inl o2⟩
          · simp at he; subst he
            obtain ⟨o1, o2⟩ := hnew (List.ext_getElem? fun j => by
              unfold withL
              by_cases hj : j = 24
              · rw [hj, h, List.getElem?_set_self (by omega)]
              · rw [hoth j hj, List.getElem?_set_ne (Ne.symm hj)])
            exact ⟨o1, .inr o2⟩
        exact ⟨hzl, hmid.1, hd, .inr (.inl ⟨by omega, h3, hmid.2, fun h => (hold (hno h)).2, fun h => (hnew ((hall h).trans (hone (by omega)))).2⟩)⟩
    · obtain ⟨k, hkk⟩ : ∃ k, left - (nJ l + 3) = k := ⟨_, rfl⟩
      have hwl := withL_length hk
      have e1 : runD (x, [], (left : Int), false) (chOps l) = runD (withL x l, [], (k : Int), false) (repOps l) := by
        unfold chOps
        rw [← List.append_assoc, runD_append]
        congr 1
        have hjc : (putOps (jrn l) 256 ++ putOps [(24, cword l)] 256).length = nJ l + 3 := by rw [List.length_append, hJ, put24]; rfl
        rw [runD_left _ _ _ _ _ (by omega), effs_append, eff_J hk wf, eff_C hk wf, hjc]
        simp only [Prod.mk.injEq, true_and, and_true]
        omega
      rw [e1]
      have hk2 : chkE l (withL x l).length = 0 := by rw [hwl]; exact hk
      obtain ⟨r1, r2, r3, r4⟩ := rep_crash k mask hk2 hn wf (withL_has hk)
      refine ⟨r1.trans hwl, r2, ?_, .inr (.inr ⟨by omega, new_of hk h24 r3⟩)⟩
      rw [r4, (opN_chk hk hn).2]
      have : ((k : Int) < ((repOps l).length : Int)) ↔ left < (chOps l).length := by omega
      exact decide_eq_decide.2 this
/-- A change, empty or not, and a crash. -/
theorem at_crash (left : Nat) (mask : Int) (hk : chkE l x.length = 0) (wf : WfE l) (h24 : x[24]? = some 0) :
    (crM mask 0 (runD (x, [], (left : Int), false) (chAll l)).1 (runD (x, [], (left : Int), false) (chAll l)).2.1).length = x.length ∧
    crE (crM mask 0 (runD (x, [], (left : Int), false) (chAll l)).1 (runD (x, [], (left : Int), false) (chAll l)).2.1) = 0 ∧
    (runD (x, [], (left : Int), false) (chAll l)).2.2.2 = decide (left < chN l) ∧
    Crs x l left mask (crM mask 0 (runD (x, [], (left : Int), false) (chAll l)).1 (runD (x, [], (left : Int), false) (chAll l)).2.1) := by
  unfold chN chAll
  split
  · rename_i hn
    have hl0 : l = [] := List.length_eq_zero_iff.1 hn
    subst hl0
    obtain ⟨h1, h2⟩ := old_of (chk_iff.1 hk).1 h24 rfl h24 fun _ _ => rfl
    refine ⟨rfl, h1, by simp [runD], ?_⟩
    show Crs x [] left mask x
    have : applied x [] = x := rfl
    unfold Crs
    rw [this]
    by_cases g1 : left ≤ nJ []
    · exact .inl ⟨g1, h2⟩
    · by_cases g2 : left < nJ [] + 3
      · exact .inr (.inl ⟨by omega, g2, .inl h2, fun _ => h2, fun _ => h2⟩)
      · exact .inr (.inr ⟨by omega, h2⟩)
  · rename_i hn
    exact ch_crash left mask hk hn wf h24
/-- What a change leaves that isn't stopped. -/
def chX (x : List Int) (l : List (Int × Int)) : List Int := if l.length = 0 then x else (applied (withL x l) l).set 24 0
theorem chX_out (hk : chkE l x.length = 0) (h24 : x[24]? = some 0) : Out (chX x l) (applied x l) := by
  unfold chX
  split
  · rename_i hn
    have hl0 : l = [] := List.length_eq_zero_iff.1 hn
    subst hl0
    exact Out.rfl' h24
  · exact new_of hk h24 rfl
theorem eff_all (hk : chkE l x.length = 0) (wf : WfE l) : effs (x, []) (chAll l) = (chX x l, []) := by
  unfold chAll chX
  split
  · rfl
  · exact eff_ch hk wf
theorem at_free (hk : chkE l x.length = 0) (wf : WfE l) : runD (x, [], -1, false) (chAll l) = (chX x l, [], -1, false) := by
  rw [runD_free _ _ _ (by decide), eff_all hk wf]
theorem at_left (left : Nat) (hk : chkE l x.length = 0) (wf : WfE l) (h : chN l ≤ left) : runD (x, [], (left : Int), false) (chAll l) = (chX x l, [], (left : Int) - chN l, false) := by
  rw [runD_left _ _ _ _ _ h, eff_all hk wf]
  rfl
theorem chX_wf (hk : chkE l x.length = 0) (wm : WfU x) (wf : WfE l) : WfU (chX x l) := by
  unfold chX
  split
  · exact wm
  · exact wfU_set (wfU_applied wf (withL_wf hk wm wf)) (by unfold InU; decide)
end
theorem ch_in {n : Int} {l : List (Int × Int)} (hk : chkE l n = 0) (wf : WfE l) : ∀ o ∈ chAll l, OpIn n o := by
  obtain ⟨hs, hl, hm, _⟩ := chk_iff.1 hk
  have hsz := sizeB_bd hs
  obtain ⟨N, rfl⟩ : ∃ N : Nat, n = (N : Int) := ⟨n.toNat, by omega⟩
  intro o ho
  unfold chAll at ho
  split at ho
  · cases ho
  · unfold chOps repOps at ho
    have hc := cword_in hl
    rcases List.mem_append.1 ho with h | h
    · exact putOps_in (fun e he => by have := jrn_mem he hl; omega) hsz.2.2 (jrn_wf hk wf) 256 o h
    · rcases List.mem_append.1 h with h | h
      · exact putOps_in (fun e he => by simp at he; subst he; simp only; omega) hsz.2.2 (fun e he => by simp at he; subst he; exact ⟨by unfold InI; simp only; omega, by unfold InU; simp only; omega⟩) 256 o h
      · rcases List.mem_append.1 h with h | h
        · exact putOps_in (fun e he => by have := mayB_bd (hm e he); omega) hsz.2.2 wf 256 o h
        · exact putOps_in (fun e he => by simp at he; subst he; simp only; omega) hsz.2.2 wf24 256 o h
end Go.Proofs.Ytmkcpnklaijkfaa
