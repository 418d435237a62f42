/-
  One byte of the journal's words changed: nothing is read but an error. Plain.
-/
import Derived.Test.YtlhlnenpgcndkaaLawC
import Derived.Test.YtlhlnenpgcndkaaByte
namespace Go.Proofs.Ytlhlnenpgcndkaa
open Go.RowKit
/-- The journal's words with one byte changed. -/
def spoil (l : List (Int × Int)) (i : Nat) (c : Int) (b : Nat) : List Int := (jwords l).set i (xorB ((jwords l).getD i 0) c b)
theorem spoil_length (l : List (Int × Int)) (i : Nat) (c : Int) (b : Nat) : (spoil l i c b).length = 8 + 2 * l.length := by simp [spoil, jwords_length]
theorem splice_cut {m P Q : List Int} (h : 24 + (P ++ Q).length ≤ m.length) (hP : P.length = 8) : ((splice m 24 (P ++ Q)).drop 32).take Q.length = Q := by
  have hL : (P ++ Q).length = 8 + Q.length := by simp [hP]
  apply List.ext_getElem?
  intro j
  by_cases hj : j < Q.length
  · rw [List.getElem?_take, if_pos hj, List.getElem?_drop, List.getElem?_eq_getElem hj, List.getElem?_eq_getElem (by rw [splice_len h]; omega)]
    have h1 : (P ++ Q)[8 + j]? = some Q[j] := by
      rw [List.getElem?_append_right (by omega), hP, Nat.add_sub_cancel_left, List.getElem?_eq_getElem hj]
    have h2 := splice_in h h1
    rw [List.getD, List.getElem?_eq_getElem (by rw [splice_len h]; omega)] at h2
    rw [← h2]
    simp only [Option.getD_some]
    congr 2
    omega
  · rw [List.getElem?_eq_none (by simp; omega), List.getElem?_eq_none (by omega)]
theorem spoil_reads {m : List Int} {l : List (Int × Int)} (wf : WfE l) (h : chkE l m.length = 0) (hn : l.length ≠ 0) {i b : Nat} {c : Int} (hi : i < 8 + 2 * l.length) (hi2 : i = 0 ∨ 8 ≤ i) (hb : b < 8) (hb0 : i = 0 → b ≠ 0) (hc : 0 < c ∧ c < 256) :
    (splice m 24 (spoil l i c b)).length = m.length ∧ WfU (spoil l i c b) ∧ crE (splice m 24 (spoil l i c b)) = 50 ∧ crL (splice m 24 (spoil l i c b)) = [] := by
  obtain ⟨hs, hl, hm, hnd⟩ := chk_iff.1 h
  have hsz := sizeB_bd hs
  have hll := listed_length l
  have hjl := jwords_length l
  have hsl := spoil_length l i c b
  obtain ⟨p0, p1, p2, p3, p4⟩ := cw_facts h hn
  have wj := wf_jwords h hn wf
  have hlen : (splice m 24 (spoil l i c b)).length = m.length := splice_len (by omega)
  have hw : InU ((jwords l).getD i 0) := by
    rw [List.getD, List.getElem?_eq_getElem (by omega)]
    exact wj _ (List.getElem_mem _)
  obtain ⟨hw0, hw1⟩ := hw
  have hxin := xorB_in (w := (jwords l).getD i 0) (c := c) ⟨hw0, by omega⟩ ⟨by omega, hc.2⟩ hb
  have hwf : WfU (spoil l i c b) := wfU_set wj (by unfold InU; omega)
  have h0 : (spoil l i c b)[0]? = some (jw (splice m 24 (spoil l i c b))) := by
    have : (spoil l i c b)[0]? = some ((spoil l i c b)[0]'(by omega)) := List.getElem?_eq_getElem (by omega)
    rw [this]
    have h2 := splice_in (m := m) (off := 24) (by omega) this
    rw [show 24 + 0 = 24 from rfl] at h2
    unfold jw
    rw [h2]
  have key : crB (splice m 24 (spoil l i c b)) = false ∧ jw (splice m 24 (spoil l i c b)) ≠ 0 := by
    rcases Nat.eq_zero_or_pos i with hi0 | hi0
    · subst hi0
      have hg : (jwords l).getD 0 0 = cword l := rfl
      have hj : jw (splice m 24 (spoil l 0 c b)) = xorB (cword l) c b := by
        rw [← Option.some_inj, ← h0, spoil, List.getElem?_set_self (by omega), hg]
      have hm64 : xorB (cword l) c b % 64 = l.length := by rw [mod64_xor (by omega) ⟨by omega, hc.2⟩ (hb0 rfl), p1]
      have hjn : jnl (splice m 24 (spoil l 0 c b)) l.length = l := by
        refine jnl_has (by rw [hlen]; exact h) (fun k e hk => ?_)
        obtain ⟨q0, q1⟩ := jwords_at hk
        have r0 : (spoil l 0 c b)[8 + 2 * k]? = some e.1 := by rw [spoil, List.getElem?_set_ne (by omega)]; exact q0
        have r1 : (spoil l 0 c b)[9 + 2 * k]? = some e.2 := by rw [spoil, List.getElem?_set_ne (by omega)]; exact q1
        exact ⟨by rw [show 32 + 2 * k = 24 + (8 + 2 * k) from by omega]; exact splice_in (by omega) r0, by rw [show 33 + 2 * k = 24 + (9 + 2 * k) from by omega]; exact splice_in (by omega) r1⟩
      have hcn : cn (splice m 24 (spoil l 0 c b)) = l.length := by unfold cn; rw [hj, hm64]; rfl
      refine ⟨?_, by rw [hj]; omega⟩
      unfold crB
      rw [hcn, hjn, hj]
      have : cword l ≠ xorB (cword l) c b := (xorB_ne (by omega) hc b).symm
      simp [this]
    · have hi8 : 8 ≤ i := by omega
      have hj : jw (splice m 24 (spoil l i c b)) = cword l := by
        rw [← Option.some_inj, ← h0, spoil, List.getElem?_set_ne (by omega)]; rfl
      have hcn : cn (splice m 24 (spoil l i c b)) = l.length := by unfold cn; rw [hj, p1]; rfl
      refine ⟨?_, by rw [hj]; omega⟩
      cases hcr : crB (splice m 24 (spoil l i c b)) with
      | false => rfl
      | true =>
        exfalso
        simp only [crB, Bool.and_eq_true, decide_eq_true_eq] at hcr
        rw [hcn, hj] at hcr
        obtain ⟨⟨_, h2⟩, h3⟩ := hcr
        have h4 := jnl_words h2
        have h5 : spoil l i c b = (cword l :: List.replicate 7 0) ++ (listed l).set (i - 8) (xorB ((jwords l).getD i 0) c b) := by
          have e1 : jwords l = (cword l :: List.replicate 7 0) ++ listed l := rfl
          unfold spoil
          conv => lhs; arg 1; rw [e1]
          rw [List.set_append_right _ _ (by simpa using hi8)]
          congr 2
        have h6 : ((splice m 24 (spoil l i c b)).drop 32).take (2 * l.length) = (listed l).set (i - 8) (xorB ((jwords l).getD i 0) c b) := by
          have h7 := splice_cut (m := m) (P := cword l :: List.replicate 7 0) (Q := (listed l).set (i - 8) (xorB ((jwords l).getD i 0) c b)) (by rw [← h5, hsl]; omega) (by simp)
          rw [← h5, List.length_set, hll] at h7
          exact h7
        rw [h6] at h4
        have h8 : (listed l)[i - 8]? = some ((jwords l).getD i 0) := by
          have e1 : jwords l = (cword l :: List.replicate 7 0) ++ listed l := rfl
          have e2 : (jwords l)[i]? = (listed l)[i - 8]? := by
            rw [e1, List.getElem?_append_right (by simpa using hi8)]; rfl
          rw [← e2, List.getD, List.getElem?_eq_getElem (by omega)]; rfl
        have h9 := sum_byte h8 hw0 hb hc
        have h10 : cword (jnl (splice m 24 (spoil l i c b)) l.length) = (sumOf ((listed l).set (i - 8) (xorB ((jwords l).getD i 0) c b)) % 288230376151711744) * 64 + l.length := by
          unfold cword
          rw [h4, jnl_length]
        rw [h10] at h3
        have h11 : cword l = (sumOf (listed l) % 288230376151711744) * 64 + l.length := rfl
        omega
  refine ⟨hlen, hwf, ?_, ?_⟩
  · unfold crE
    rw [hlen, if_pos hs, if_neg]
    rintro (h1 | h1)
    · exact key.2 h1
    · rw [key.1] at h1; cases h1
  · simp [crL, key.1]
end Go.Proofs.Ytlhlnenpgcndkaa
