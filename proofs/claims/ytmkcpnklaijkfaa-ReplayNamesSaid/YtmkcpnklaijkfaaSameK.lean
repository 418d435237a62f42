/-
  Replaying a device that does not crash: the plain law.
-/
import Derived.Test.YtmkcpnklaijkfaaDev10x
import Derived.Test.YtmkcpnklaijkfaaLawR
namespace Go.Proofs.Ytmkcpnklaijkfaa
open Go.RowKit
theorem jw_zero {x : List Int} (h : crE x = 0) (hn : (crL x).length = 0) : jw x = 0 := by
  obtain ⟨hs, _⟩ := cr_ok h
  unfold crE at h
  rw [if_pos hs] at h
  split at h
  · rename_i hb
    rcases hb with hb | hb
    · exact hb
    · exfalso
      have hc : crL x = jnl x (cn x) := by unfold crL; rw [if_pos ⟨hs, hb⟩]
      rw [hc, jnl_length] at hn
      unfold crB at hb
      simp only [Bool.and_eq_true] at hb
      have := cntB_bd hb.1.1
      unfold cn at hn
      omega
  · cases h
theorem rep_in {n : Int} {l : List (Int × Int)} (hk : chkE l n = 0) (wf : WfE l) : ∀ o ∈ repOps l, OpIn n o := by
  obtain ⟨hs, hl, hm, _⟩ := chk_iff.1 hk
  have hsz := sizeB_bd hs
  obtain ⟨N, rfl⟩ : ∃ N : Nat, n = (N : Int) := ⟨n.toNat, by omega⟩
  intro o ho
  unfold repOps at ho
  rcases List.mem_append.1 ho with h | h
  · exact putOps_in (rep_wf hk).2 hsz.2.2 wf 256 o h
  · exact putOps_in (fun e he => by simp at he; subst he; simp only; omega) hsz.2.2 wf24 256 o h
theorem opN_nil {l : List (Int × Int)} (h : l.length = 0) : opE l = 0 ∧ opN l = 0 := by
  have : l = [] := List.length_eq_zero_iff.1 h
  subst this
  exact ⟨by simp [opE, inrB], by simp [opN]⟩
theorem same_key {m : List Int} {q : List Dw} (hd : devB m q 1000 false = true) (wm : WfU m) (wd : WfD q) (h : crE (wrd m q) = 0) :
    dvE m q 1000 false = 0 ∧ wrd (dvV m q 1000 false).1 (dvV m q 1000 false).2.1 = imgL (wrd m q) ∧ (dvV m q 1000 false).2.2.1 = 1000 - opN (crL (wrd m q)) ∧ (dvV m q 1000 false).2.2.2 = false ∧
    opE (crL (wrd m q)) = 0 ∧ (0 ≤ opN (crL (wrd m q)) ∧ opN (crL (wrd m q)) ≤ 1000) ∧ devB (dvV m q 1000 false).1 (dvV m q 1000 false).2.1 (dvV m q 1000 false).2.2.1 (dvV m q 1000 false).2.2.2 = true ∧
    (q = [] → (dvV m q 1000 false).2.1 = [] ∧ (dvV m q 1000 false).1 = imgL (wrd m q)) := by
  have he : dvE m q 1000 false = 0 := by simp only [dvE, hd, if_true]; exact h
  have hww := wfU_wrd wd wm
  obtain ⟨hs, hk⟩ := cr_ok h
  have hwl := wrd_length q m
  refine ⟨he, ?_⟩
  by_cases hn : (crL (wrd m q)).length = 0
  · have e1 : dvV m q 1000 false = (m, q, 1000, false) := by unfold dvV; rw [if_pos he, if_pos hn]
    obtain ⟨o1, o2⟩ := opN_nil hn
    have hi := (img_zero hs (jw_zero h hn)).2
    rw [e1, o2, hi]
    refine ⟨rfl, rfl, rfl, o1, ⟨by decide, by decide⟩, hd, fun hq => ?_⟩
    subst hq
    exact ⟨rfl, rfl⟩
  · have e1 : dvV m q 1000 false = runD (m, q, ((1000 : Nat) : Int), false) (repOps (crL (wrd m q))) := by unfold dvV; rw [if_pos he, if_neg hn]; rfl
    obtain ⟨o1, o2⟩ := opN_chk hk hn
    have hwe := crL_wf hww h
    have hi : imgL (wrd m q) = (applied (wrd m q) (crL (wrd m q))).set 24 0 := by simp [imgL, h, imgX]
    obtain ⟨l, hl⟩ : ∃ l, crL (wrd m q) = l := ⟨_, rfl⟩
    rw [hl] at e1 o1 o2 hi hk hwe ⊢
    have hl32 := (chk_iff.1 hk).2.1
    have hlen := rep_len l
    have hle : lnN l 256 ≤ 256 := lnN_le l 256
    rw [hwl] at hk hs
    have hsz := sizeB_bd hs
    obtain ⟨b1, b2, b3, b4, b5⟩ := devB_bd hd
    have hin := rep_in hk hwe
    have hv := devB_run (left := ((1000 : Nat) : Int)) (down := false) hd hin
    have e2 := runD_left m q false (repOps l) 1000 (by omega)
    rw [e1]
    have hp := put_all (s := (m, q)) (n := (m.length : Int)) ⟨rfl, b5⟩ hsz.2.1 hsz.2.2 (rep_wf hk).2 hwe
    have hp2 := put_all (s := effs (m, q) (putOps l 256)) (n := (m.length : Int)) (l := [(24, 0)]) hp.2.1 hsz.2.1 hsz.2.2 (fun e he => by simp at he; subst he; simp only; omega) wf24
    have hef : effs (m, q) (repOps l) = effs (effs (m, q) (putOps l 256)) (putOps [(24, 0)] 256) := by unfold repOps; rw [effs_append]
    rw [← hef] at hp2
    have hw : wrd (effs (m, q) (repOps l)).1 (effs (m, q) (repOps l)).2 = imgL (wrd m q) := by
      rw [hp2.1, hp.1, hi]; rfl
    rw [e2] at hv ⊢
    refine ⟨hw, by rw [o2]; rfl, rfl, o1, ⟨by rw [o2]; omega, by rw [o2]; omega⟩, hv.1, fun hq => ?_⟩
    have h1 := hp2.2.2.2 (hp.2.2.2 hq)
    refine ⟨h1, ?_⟩
    rw [h1] at hw
    exact hw
end Go.Proofs.Ytmkcpnklaijkfaa
