/-
  What is committed in an image whose journal holds a change: the plain laws.
-/
import Derived.Test.YtlhlnenpgcndkaaJour
import Derived.Test.YtlhlnenpgcndkaaLawEB
import Derived.Test.YtlhlnenpgcndkaaDev
namespace Go.Proofs.Ytlhlnenpgcndkaa
open Go.RowKit
/-- The journal of an image holds a change, with its commit word. -/
def JHas (x : List Int) (l : List (Int × Int)) : Prop :=
  jw x = cword l ∧ ∀ i e, l[i]? = some e → x.getD (32 + 2 * i) 0 = e.1 ∧ x.getD (33 + 2 * i) 0 = e.2
theorem jnl_has {x : List Int} {l : List (Int × Int)} (h : chkE l x.length = 0) (hj : ∀ i e, l[i]? = some e → x.getD (32 + 2 * i) 0 = e.1 ∧ x.getD (33 + 2 * i) 0 = e.2) : jnl x l.length = l := by
  obtain ⟨hs, hl, hm, _⟩ := chk_iff.1 h
  apply List.ext_getElem?
  intro i
  by_cases hi : i < l.length
  · have hx : l[i]? = some l[i] := List.getElem?_eq_getElem hi
    obtain ⟨h0, h1⟩ := hj i _ hx
    have hb := mayB_bd (hm _ (List.getElem_mem hi))
    rw [hx, jnl, List.getElem?_map, List.getElem?_range hi]
    simp only [Option.map_some]
    rw [jat_plain (by rw [h0]; omega), h0, h1]
  · rw [List.getElem?_eq_none (by rw [jnl_length]; omega), List.getElem?_eq_none (by omega)]
theorem cw_facts {l : List (Int × Int)} {n : Int} (h : chkE l n = 0) (hn : l.length ≠ 0) : 0 < cword l ∧ cword l % 64 = l.length ∧ cntB (cword l) = true ∧ cwE l n = 0 ∧ InU (cword l) := by
  have hl := (chk_iff.1 h).2.1
  obtain ⟨p0, p1, p2⟩ := cword_pos (l := l) (by omega) hl
  have hi := cword_in hl
  refine ⟨p0, p1, ?_, ?_, ?_⟩
  · simp [cntB, p1]; omega
  · simp [cwE, h, hn]
  · unfold InU; omega
theorem cr_has {x : List Int} {l : List (Int × Int)} (h : chkE l x.length = 0) (hn : l.length ≠ 0) (hj : JHas x l) : crB x = true ∧ crE x = 0 ∧ crL x = l := by
  obtain ⟨p0, p1, p2, _⟩ := cw_facts h hn
  have hs := (chk_iff.1 h).1
  have hc : cn x = l.length := by unfold cn; rw [hj.1, p1]; rfl
  have hjl := jnl_has h hj.2
  have hb : crB x = true := by
    unfold crB
    rw [hc, hjl, hj.1, p2, h]
    simp
  refine ⟨hb, ?_, ?_⟩
  · unfold crE; rw [if_pos hs, if_pos (.inr hb)]
  · unfold crL; rw [if_pos ⟨hs, hb⟩, hc, hjl]
theorem cr_zero {x : List Int} (hs : sizeB x.length = true) (h : jw x = 0) : crB x = false ∧ crE x = 0 ∧ crL x = [] := by
  have hb : crB x = false := by simp [crB, h, cntB_zero]
  refine ⟨hb, ?_, ?_⟩
  · unfold crE; rw [if_pos hs, if_pos (.inl h)]
  · simp [crL, hb]
theorem wf_splice' {m cs : List Int} {off : Nat} (hm : WfU m) (hc : WfU cs) : WfU (splice m off cs) := by
  intro y hy
  simp only [splice, List.mem_append] at hy
  rcases hy with h1 | h1 | h1
  · exact hm _ (List.mem_of_mem_take h1)
  · exact hc _ h1
  · exact hm _ (List.mem_of_mem_drop h1)
theorem wf_jwords {l : List (Int × Int)} {n : Int} (h : chkE l n = 0) (hn : l.length ≠ 0) (wf : WfE l) : WfU (jwords l) := by
  intro y hy
  simp only [jwords, List.cons_append, List.mem_cons, List.mem_append] at hy
  rcases hy with rfl | h1 | h1
  · exact (cw_facts h hn).2.2.2.2
  · have := List.eq_of_mem_replicate h1
    subst this
    unfold InU; decide
  · exact wfU_listed (chk_small h).1 wf y h1
theorem jwords_at {l : List (Int × Int)} {i : Nat} {e : Int × Int} (h : l[i]? = some e) : (jwords l)[8 + 2 * i]? = some e.1 ∧ (jwords l)[9 + 2 * i]? = some e.2 := by
  have := listed_at h
  have e1 : jwords l = (cword l :: List.replicate 7 0) ++ listed l := rfl
  rw [e1, List.getElem?_append_right (by simp <;> omega), List.getElem?_append_right (by simp <;> omega)]
  simp only [List.length_cons, List.length_replicate]
  rw [show 8 + 2 * i - (7 + 1) = 2 * i from by omega, show 9 + 2 * i - (7 + 1) = 2 * i + 1 from by omega]
  exact this
theorem splice_out {m cs : List Int} {off j : Nat} (h : off + cs.length ≤ m.length) (hj : j < off ∨ off + cs.length ≤ j) : (splice m off cs)[j]? = m[j]? := by
  rcases hj with hj | hj
  · rw [splice, List.getElem?_append_left (by simp; omega), List.getElem?_take, if_pos hj]
  · rw [splice, List.getElem?_append_right (by simp; omega), List.getElem?_append_right (by simp; omega), List.getElem?_drop]
    congr 1
    simp
    omega
theorem put_has {m : List Int} {l : List (Int × Int)} (h : chkE l m.length = 0) : (splice m 24 (jwords l)).length = m.length ∧ JHas (splice m 24 (jwords l)) l := by
  obtain ⟨hs, hl, _, _⟩ := chk_iff.1 h
  have hsz := sizeB_bd hs
  have hjl := jwords_length l
  refine ⟨splice_len (by omega), ?_, fun i e he => ?_⟩
  · exact splice_in (j := 0) (by omega) rfl
  · obtain ⟨h0, h1⟩ := jwords_at he
    exact ⟨by rw [show 32 + 2 * i = 24 + (8 + 2 * i) from by omega]; exact splice_in (by omega) h0, by rw [show 33 + 2 * i = 24 + (9 + 2 * i) from by omega]; exact splice_in (by omega) h1⟩
end Go.Proofs.Ytlhlnenpgcndkaa
