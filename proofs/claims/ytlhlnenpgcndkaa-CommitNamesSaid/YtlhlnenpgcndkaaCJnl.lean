/-
  The contracts of reading what is committed, and of the words of the journal.
-/
import Derived.Test.YtlhlnenpgcndkaaCWord
import Derived.Test.YtlhlnenpgcndkaaCount
import Derived.Test.YtlhlnenpgcndkaaRead
import Derived.Test.YtlhlnenpgcndkaaRet
namespace Go.Proofs.Ytlhlnenpgcndkaa
open Go.RowKit
/-- The commit word of an image. -/
def jw (m : List Int) : Int := m.getD 24 0
/-- How many entries the commit word says. -/
def cn (m : List Int) : Nat := (jw m % 64).toNat
theorem jw_at {m : List Int} {x : Int} (h : m[24]? = some x) : jw m = x := by simp [jw, List.getD, h]
/-- Is a change committed, and rightly? -/
def crB (m : List Int) : Bool := cntB (jw m) && decide (chkE (jnl m (cn m)) m.length = 0) && decide (cword (jnl m (cn m)) = jw m)
/-- The error of reading what is committed. -/
def crE (m : List Int) : Int := if sizeB m.length then (if jw m = 0 ∨ crB m = true then 0 else 50) else 8
/-- What is committed. -/
def crL (m : List Int) : List (Int × Int) := if sizeB m.length = true ∧ crB m = true then jnl m (cn m) else []
/-- The words of the journal. -/
def jwords (l : List (Int × Int)) : List Int := cword l :: List.replicate 7 0 ++ listed l
theorem cword_in {l : List (Int × Int)} (h : l.length ≤ 32) : 0 ≤ cword l ∧ cword l < 18446744073709551616 := by
  have := sumOf_in (listed l)
  unfold cword
  omega
set_option maxHeartbeats 1600000 in
theorem commitRead_any (m : List Int) (A : Option Addr) (c : Nat) (w : World) (hA : Sl w A m.length c (fU m)) (wf : WfU m) :
    Calls Try.prog 29 #[.slice A m.length c] w (RetE w (crL m) (crE m)) := by
  cases hs : sizeB (m.length : Int) with
  | false =>
    have hi : imgE (m.length : Int) = 8 := by simp [imgE, hs]
    have hr : crE m = 8 := by simp [crE, hs]
    have hl : crL m = [] := by simp [crL, hs]
    rw [hr, hl]
    go_enter Try.func29, Try.ntmps29
    go_wp2_with fail
    refine (imageCheck_any _ _ _ _).mono ?_
    rintro e w' ⟨rfl, rfl⟩
    go_wp2_with fail
    go_ret2
    exact retE_nil (Ext.refl w)
  | true =>
    have hi : imgE (m.length : Int) = 0 := by simp [imgE, hs]
    have hsz := sizeB_bd hs
    obtain ⟨ad, x, rfl, hx, g⟩ := hA.u_at (k := 24) (by omega)
    have hj : jw m = x := jw_at hx
    rw [add_lit_ ad 23] at g
    have hin : InU x := wf x (List.mem_of_getElem? hx)
    by_cases hz : x = 0
    · subst hz
      have hr : crE m = 0 := by simp only [crE, hs, if_true]; rw [if_pos (.inl hj)]
      have hl : crL m = [] := by
        have : crB m = false := by simp [crB, hj, cntB_zero]
        simp [crL, this]
      rw [hr, hl]
      clear hr hl hj hx
      go_enter Try.func29, Try.ntmps29
      go_wp2_with fail
      refine (imageCheck_any _ _ _ _).mono ?_
      rintro e w' ⟨rfl, rfl⟩
      go_wp2_with fail
      refine (count_any _ _ hin).mono ?_
      rintro e w' ⟨rfl, rfl⟩
      go_wp2_with fail
      go_ret2
      exact retE_nil (Ext.refl w)
    · cases hc : cntB x with
      | false =>
        have hce : cntE x = 50 := by simp [cntE, hz, hc]
        have hb : crB m = false := by simp [crB, hj, hc]
        have hr : crE m = 50 := by simp [crE, hs, hb, hj, hz]
        have hl : crL m = [] := by simp [crL, hb]
        rw [hr, hl]
        clear hr hl hj hx hb
        go_enter Try.func29, Try.ntmps29
        go_wp2_with fail
        refine (imageCheck_any _ _ _ _).mono ?_
        rintro e w' ⟨rfl, rfl⟩
        go_wp2_with fail
        refine (count_any _ _ hin).mono ?_
        rintro e w' ⟨rfl, rfl⟩
        go_wp2_with fail
        go_ret2
        exact retE_nil (Ext.refl w)
      | true =>
        obtain ⟨c1, c2⟩ := cntB_bd hc
        have hce : cntE x = 0 := by simp [cntE, hz, hc]
        have hcn : cntN x = x % 64 := by simp [cntN, hc]
        obtain ⟨t, ht⟩ : ∃ t : Nat, x % 64 = (t : Int) := Int.eq_ofNat_of_zero_le (by omega)
        have htn : cn m = t := by unfold cn; rw [hj, ht]; rfl
        have hjl := jnl_length m t
        by_cases h0 : chkE (jnl m t) m.length = 0
        · have hrd : rdE m t = 0 := by simp only [rdE, hs, if_true, Int.toNat_natCast]; rw [if_neg (by omega), if_pos h0]
          have hcw : cwE (jnl m t) m.length = 0 := by unfold cwE; rw [if_pos h0, if_neg (by omega)]
          have hcwi := cword_in (l := jnl m t) (by omega)
          by_cases hw : cword (jnl m t) = x
          · have hb : crB m = true := by simp [crB, htn, hj, hc, h0, hw]
            have hr : crE m = 0 := by simp only [crE, hs, if_true]; rw [if_pos (.inr hb)]
            have hl : crL m = jnl m t := by simp only [crL, hs, hb, htn]; simp
            rw [hr, hl]
            have HH := Lib.hid (And.intro hrd (And.intro hcw (And.intro hw hjl)))
            clear hr hl hj hx hb htn h0 hrd hcw hw hjl hcwi hc
            rw [ht] at hcn c1 c2
            clear ht
            go_enter Try.func29, Try.ntmps29
            go_wp2_with fail
            refine (imageCheck_any _ _ _ _).mono ?_
            rintro e w' ⟨rfl, rfl⟩
            go_wp2_with fail
            refine (count_any _ _ hin).mono ?_
            rintro e w' ⟨rfl, rfl⟩
            go_wp2_with fail
            refine (entryRead_any m t _ c w hA wf).mono ?_
            rintro e w1 h
            rw [HH.out.1] at h
            obtain ⟨A1, c1, rfl, hA1, hx1⟩ := h.toE HH.out.2.2.2
            rw [selL_ok rfl] at hA1 ⊢
            clear h
            go_wp2_with fail
            refine (commitWord_any (jnl m t) m.length A1 c1 w1 hA1 (jnl_wf wf (by omega) t)).mono ?_
            rintro e w2 ⟨rfl, hx2⟩
            rw [HH.out.2.1, if_pos rfl, HH.out.2.2.1]
            go_wp2_with fail
            go_ret2
            exact ⟨_, _, rfl, hA1.ext hx2, hx1.trans hx2⟩
          · have hb : crB m = false := by simp [crB, htn, hj, hw]
            have hr : crE m = 50 := by simp [crE, hs, hb, hj, hz]
            have hl : crL m = [] := by simp [crL, hb]
            rw [hr, hl]
            have hw' : (cword (jnl m t) != x) = true := by simpa using hw
            have HH := Lib.hid (And.intro hrd (And.intro hcw hjl))
            clear hr hl hj hx hb htn h0 hrd hcw hjl hcwi hc
            rw [ht] at hcn c1 c2
            clear ht
            go_enter Try.func29, Try.ntmps29
            go_wp2_with fail
            refine (imageCheck_any _ _ _ _).mono ?_
            rintro e w' ⟨rfl, rfl⟩
            go_wp2_with fail
            refine (count_any _ _ hin).mono ?_
            rintro e w' ⟨rfl, rfl⟩
            go_wp2_with fail
            refine (entryRead_any m t _ c w hA wf).mono ?_
            rintro e w1 h
            rw [HH.out.1] at h
            obtain ⟨A1, c1, rfl, hA1, hx1⟩ := h.toE HH.out.2.2
            rw [selL_ok rfl] at hA1 ⊢
            clear h
            go_wp2_with fail
            refine (commitWord_any (jnl m t) m.length A1 c1 w1 hA1 (jnl_wf wf (by omega) t)).mono ?_
            rintro e w2 ⟨rfl, hx2⟩
            rw [HH.out.2.1, if_pos rfl]
            go_wp2_with fail
            go_ret2
            exact retE_nil (hx1.trans hx2)
        · have hrd : rdE m t = 50 := by simp only [rdE, hs, if_true, Int.toNat_natCast]; rw [if_neg (by omega), if_neg h0]
          have hb : crB m = false := by simp [crB, htn, hj, h0]
          have hr : crE m = 50 := by simp [crE, hs, hb, hj, hz]
          have hl : crL m = [] := by simp [crL, hb]
          rw [hr, hl]
          have HH := Lib.hid (And.intro hrd hjl)
          clear hr hl hj hx hb htn h0 hrd hjl hc
          rw [ht] at hcn c1 c2
          clear ht
          go_enter Try.func29, Try.ntmps29
          go_wp2_with fail
          refine (imageCheck_any _ _ _ _).mono ?_
          rintro e w' ⟨rfl, rfl⟩
          go_wp2_with fail
          refine (count_any _ _ hin).mono ?_
          rintro e w' ⟨rfl, rfl⟩
          go_wp2_with fail
          refine (entryRead_any m t _ c w hA wf).mono ?_
          rintro e w1 h
          rw [HH.out.1] at h
          obtain ⟨A1, c1, rfl, hA1, hx1⟩ := h.toE HH.out.2
          rw [selL_no (by decide)] at hA1 ⊢
          clear h
          go_wp2_with fail
          go_ret2
          exact retE_nil hx1
end Go.Proofs.Ytlhlnenpgcndkaa
