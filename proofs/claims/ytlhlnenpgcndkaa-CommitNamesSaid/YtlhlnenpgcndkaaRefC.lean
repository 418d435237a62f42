/-
  The contracts of the reference's commit words, and of reading what is committed.
-/
import Derived.Test.YtlhlnenpgcndkaaRefBeh
import Derived.Test.YtlhlnenpgcndkaaCJnl
import Derived.Test.YtlhlnenpgcndkaaRefRead
namespace Go.Proofs.Ytlhlnenpgcndkaa
open Go.RowKit
theorem wfU_listed {l : List (Int × Int)} (hs : Small l) (wf : WfE l) : WfU (listed l) := by
  induction l with
  | nil => intro x hx; cases hx
  | cons e l ih =>
    intro x hx
    simp only [listed, List.mem_cons] at hx
    have h1 := hs e (List.mem_cons_self ..)
    have h2 := wf e (List.mem_cons_self ..)
    rcases hx with rfl | rfl | hx
    · exact ⟨h1.1, by omega⟩
    · exact h2.2
    · exact ih (fun y hy => hs y (List.mem_cons_of_mem _ hy)) (fun y hy => wf y (List.mem_cons_of_mem _ hy)) x hx
theorem refPart_at (l : List Int) (n : Nat) (hn : l.length = n) (A : Option Addr) (c : Nat) (w : World) (hA : Sl w A n c (fU l)) (wf : WfU l) :
    Calls Try.prog 53 #[.slice A n c, .int .i64 58] w fun e w' => e = .returned (.int .u64 (sumOf l % 288230376151711744)) ∧ Ext w w' := by
  subst hn
  exact refPart_any l A c w hA wf
set_option maxHeartbeats 800000 in
theorem refOf_any (l : List (Int × Int)) (A : Option Addr) (c : Nat) (w : World) (hA : Sl w A l.length c (fE l)) (hs : Small l) (hl : l.length ≤ 32) (wf : WfE l) :
    Calls Try.prog 42 #[.slice A l.length c] w fun e w' => e = .returned (.int .u64 (cword l)) ∧ Ext w w' := by
  have hi := sumOf_in (listed l)
  have hwl := wfU_listed hs wf
  have hll := listed_length l
  obtain ⟨S, hS⟩ : ∃ S, sumOf (listed l) % 288230376151711744 = S := ⟨_, rfl⟩
  have hpa := fun A c W (h : Sl W A (2 * l.length) c (fU (listed l))) => refPart_at (listed l) _ hll A c W h hwl
  rw [hS] at hpa
  have hS0 : 0 ≤ S ∧ S < 288230376151711744 := by omega
  have w1 : IntKind.u64.wrap (S * 64) = S * 64 := by simp [IntKind.wrap, IntKind.bits, IntKind.signed]; omega
  have w2 : IntKind.u64.wrap (l.length : Int) = l.length := by simp [IntKind.wrap, IntKind.bits, IntKind.signed]; omega
  have w3 : IntKind.u64.wrap (S * 64 + l.length) = S * 64 + l.length := by simp [IntKind.wrap, IntKind.bits, IntKind.signed]; omega
  have hcw : cword l = S * 64 + l.length := by unfold cword; rw [hS]
  have HH := Lib.hid (And.intro hpa hcw)
  clear hpa hcw hS hwl hll hi
  go_enter Try.func42, Try.ntmps42
  go_wp2_with fail
  refine (refListed_any l A c w hA hs (by omega)).mono ?_
  rintro e w1 ⟨A1, c1, rfl, _, hA1, hx1⟩
  go_wp2_with fail
  refine (HH.out.1 A1 c1 w1 hA1).mono ?_
  rintro e w2 ⟨rfl, hx2⟩
  go_wp2_with fail
  go_ret
  exact ⟨ret_int HH.out.2.symm, hx1.trans hx2⟩
set_option maxHeartbeats 800000 in
theorem refCWord_any (l : List (Int × Int)) (words : Int) (A : Option Addr) (c : Nat) (w : World) (hA : Sl w A l.length c (fE l)) (wf : WfE l) :
    Calls Try.prog 21 #[.slice A l.length c, .int .i64 words] w fun e w' => e = .returned (.tuple #[.int .u64 (if cwE l words = 0 then cword l else 0), .int .i64 (cwE l words)]) ∧ Ext w w' := by
  by_cases h0 : chkE l words = 0
  · obtain ⟨hs, hl⟩ := chk_small h0
    by_cases hn : l.length = 0
    · have hc : cwE l words = 6 := by simp [cwE, h0, hn]
      rw [hc, if_neg (by decide)]
      have hb : ((l.length : Int) == 0) = true := by simpa using hn
      clear hc hs hn
      go_enter Try.func21, Try.ntmps21
      go_wp2_with fail
      refine (refCheck8_any l words A c w hA).mono ?_
      rintro e w1 ⟨rfl, hd1⟩
      go_wp2_with fail
      go_ret2
      exact ⟨rfl, hd1.ext⟩
    · have hc : cwE l words = 0 := by simp [cwE, h0, hn]
      rw [hc, if_pos rfl]
      have hb : ((l.length : Int) == 0) = false := by simpa using hn
      clear hc
      go_enter Try.func21, Try.ntmps21
      go_wp2_with fail
      refine (refCheck8_any l words A c w hA).mono ?_
      rintro e w1 ⟨rfl, hd1⟩
      go_wp2_with fail
      refine (refOf_any l A c w1 (hA.ext hd1.ext) hs hl wf).mono ?_
      rintro e w2 ⟨rfl, hx2⟩
      go_wp2_with fail
      go_ret2
      exact ⟨rfl, hd1.ext.trans hx2⟩
  · have hc : cwE l words = chkE l words := by simp [cwE, h0]
    rw [hc, if_neg h0]
    have hb : (chkE l words != 0) = true := by simpa using h0
    clear hc
    go_enter Try.func21, Try.ntmps21
    go_wp2_with fail
    refine (refCheck8_any l words A c w hA).mono ?_
    rintro e w1 ⟨rfl, hd1⟩
    go_wp2_with fail
    refine (refCheck8_any l words A c w1 (hA.ext hd1.ext)).mono ?_
    rintro e w2 ⟨rfl, hd2⟩
    go_wp2_with fail
    go_ret2
    exact ⟨rfl, hd1.ext.trans hd2.ext⟩
set_option maxHeartbeats 3200000 in
theorem refCRead_any (m : List Int) (A : Option Addr) (c : Nat) (w : World) (hA : Sl w A m.length c (fU m)) (wf : WfU m) :
    Calls Try.prog 30 #[.slice A m.length c] w (RetE w (crL m) (crE m)) := by
  cases hs : sizeB (m.length : Int) with
  | false =>
    have hi : imgE (m.length : Int) = 8 := by simp [imgE, hs]
    have hr : crE m = 8 := by simp [crE, hs]
    have hl : crL m = [] := by simp [crL, hs]
    rw [hr, hl]
    clear hr hl
    go_enter Try.func30, Try.ntmps30
    go_wp2_with fail
    refine (refCheck2_any _ _ _ _).mono ?_
    rintro e w' ⟨rfl, rfl⟩
    go_wp2_with fail
    go_ret2
    exact retE_nil (Ext.refl w)
  | true =>
    have hi : imgE (m.length : Int) = 0 := by simp [imgE, hs]
    have hsz := sizeB_bd hs
    obtain ⟨ad, x, rfl, hx, g⟩ := hA.u_at (k := 24) (by omega)
    have hj : jw m = x := jw_at hx
    rw [add_lit_ ad 23] at g
    have hin : InU x := wf x (List.mem_of_getElem? hx)
    by_cases hz : x = 0
    · subst hz
      have hr : crE m = 0 := by simp only [crE, hs, if_true]; rw [if_pos (.inl hj)]
      have hl : crL m = [] := by
        have : crB m = false := by simp [crB, hj, cntB_zero]
        simp [crL, this]
      rw [hr, hl]
      clear hr hl hj hx
      go_enter Try.func30, Try.ntmps30
      go_wp2_with fail
      refine (refCheck2_any _ _ _ _).mono ?_
      rintro e w' ⟨rfl, rfl⟩
      go_wp2_with fail
      refine (refCount_any _ _ hin).mono ?_
      rintro e w' ⟨rfl, rfl⟩
      go_wp2_with fail
      go_ret2
      exact retE_nil (Ext.refl w)
    · cases hc : cntB x with
      | false =>
        have hce : cntE x = 50 := by simp [cntE, hz, hc]
        have hb : crB m = false := by simp [crB, hj, hc]
        have hr : crE m = 50 := by simp [crE, hs, hb, hj, hz]
        have hl : crL m = [] := by simp [crL, hb]
        rw [hr, hl]
        clear hr hl hj hx hb
        go_enter Try.func30, Try.ntmps30
        go_wp2_with fail
        refine (refCheck2_any _ _ _ _).mono ?_
        rintro e w' ⟨rfl, rfl⟩
        go_wp2_with fail
        refine (refCount_any _ _ hin).mono ?_
        rintro e w' ⟨rfl, rfl⟩
        go_wp2_with fail
        go_ret2
        exact retE_nil (Ext.refl w)
      | true =>
        obtain ⟨c1, c2⟩ := cntB_bd hc
        have hce : cntE x = 0 := by simp [cntE, hz, hc]
        have hcn : cntN x = x % 64 := by simp [cntN, hc]
        obtain ⟨t, ht⟩ : ∃ t : Nat, x % 64 = (t : Int) := Int.eq_ofNat_of_zero_le (by omega)
        have htn : cn m = t := by unfold cn; rw [hj, ht]; rfl
        have hjl := jnl_length m t
        have hjw := jnl_wf wf (by omega) t
        have hRJ := fun W (h : Sl W (some ad) m.length c (fU m)) => refJournal_any m t (some ad) c W h wf hs (by omega)
        by_cases h0 : chkE (jnl m t) m.length = 0
        · obtain ⟨hsm, _⟩ := chk_small h0
          by_cases hw : cword (jnl m t) = x
          · have hb : crB m = true := by simp [crB, htn, hj, hc, h0, hw]
            have hr : crE m = 0 := by simp only [crE, hs, if_true]; rw [if_pos (.inr hb)]
            have hl : crL m = jnl m t := by simp only [crL, hs, hb, htn]; simp
            rw [hr, hl]
            have hw' : (cword (jnl m t) != x) = false := by simpa using hw
            have HH := Lib.hid (And.intro hRJ (And.intro h0 (And.intro hw hjl)))
            clear hr hl hj hx hb htn h0 hRJ hw hjl hc
            rw [ht] at hcn c1 c2
            clear ht
            go_enter Try.func30, Try.ntmps30
            go_wp2_with fail
            refine (refCheck2_any _ _ _ _).mono ?_
            rintro e w' ⟨rfl, rfl⟩
            go_wp2_with fail
            refine (refCount_any _ _ hin).mono ?_
            rintro e w' ⟨rfl, rfl⟩
            go_wp2_with fail
            refine (HH.out.1 w hA).mono ?_
            rintro e w1 (⟨_, A1, c1', rfl, _, hA1, hx1⟩ | ⟨hne, _⟩)
            case inr => exact absurd HH.out.2.1 hne
            have hOf := fun W (h : Sl W A1 (jnl m t).length c1' (fE (jnl m t))) => refOf_any (jnl m t) A1 c1' W h hsm (by omega) hjw
            rw [HH.out.2.2.2] at hOf
            have HO := Lib.hid hOf
            have g1 := hx1.cell g
            have i24 : (24 : Int) < m.length := by omega
            clear hOf
            go_wp2_with fail
            go_region_with (go_at_call 42; refine (HO.out _ (hA1.ext (by repeat (first | assumption | exact Ext.refl _ | refine Ext.drewN ?_ _ | refine Ext.drew ?_ | refine Ext.alloc ?_ _ | refine Ext.trans ?_ (by assumption))))).mono ?_; rintro e w2 ⟨rfl, hx2⟩; have g2 := hx2.cell (by assumption))
            all_goals
              go_wp2_with fail
              go_ret2
              exact retE_at HH.out.2.2.2 (hA1.ext (by repeat (first | assumption | exact Ext.refl _ | refine Ext.drewN ?_ _ | refine Ext.drew ?_ | refine Ext.alloc ?_ _ | refine Ext.trans ?_ (by assumption)))) (by repeat (first | assumption | exact Ext.refl _ | refine Ext.drewN ?_ _ | refine Ext.drew ?_ | refine Ext.alloc ?_ _ | refine Ext.trans ?_ (by assumption)))
          · have hb : crB m = false := by simp [crB, htn, hj, hw]
            have hr : crE m = 50 := by simp [crE, hs, hb, hj, hz]
            have hl : crL m = [] := by simp [crL, hb]
            rw [hr, hl]
            have hw' : (cword (jnl m t) != x) = true := by simpa using hw
            have HH := Lib.hid (And.intro hRJ (And.intro h0 hjl))
            clear hr hl hj hx hb htn h0 hRJ hw hjl hc
            rw [ht] at hcn c1 c2
            clear ht
            go_enter Try.func30, Try.ntmps30
            go_wp2_with fail
            refine (refCheck2_any _ _ _ _).mono ?_
            rintro e w' ⟨rfl, rfl⟩
            go_wp2_with fail
            refine (refCount_any _ _ hin).mono ?_
            rintro e w' ⟨rfl, rfl⟩
            go_wp2_with fail
            refine (HH.out.1 w hA).mono ?_
            rintro e w1 (⟨_, A1, c1', rfl, _, hA1, hx1⟩ | ⟨hne, _⟩)
            case inr => exact absurd HH.out.2.1 hne
            have hOf := fun W (h : Sl W A1 (jnl m t).length c1' (fE (jnl m t))) => refOf_any (jnl m t) A1 c1' W h hsm (by omega) hjw
            rw [HH.out.2.2] at hOf
            have HO := Lib.hid hOf
            have g1 := hx1.cell g
            have i24 : (24 : Int) < m.length := by omega
            clear hOf
            go_wp2_with fail
            go_region_with (go_at_call 42; refine (HO.out _ (hA1.ext (by repeat (first | assumption | exact Ext.refl _ | refine Ext.drewN ?_ _ | refine Ext.drew ?_ | refine Ext.alloc ?_ _ | refine Ext.trans ?_ (by assumption))))).mono ?_; rintro e w2 ⟨rfl, hx2⟩; have g2 := hx2.cell (by assumption))
            all_goals
              go_wp2_with fail
              go_ret2
              exact retE_nil (by repeat (first | assumption | exact Ext.refl _ | refine Ext.drewN ?_ _ | refine Ext.drew ?_ | refine Ext.alloc ?_ _ | refine Ext.trans ?_ (by assumption)))
        · have hb : crB m = false := by simp [crB, htn, hj, h0]
          have hr : crE m = 50 := by simp [crE, hs, hb, hj, hz]
          have hl : crL m = [] := by simp [crL, hb]
          rw [hr, hl]
          have HH := Lib.hid (And.intro hRJ h0)
          clear hr hl hj hx hb htn h0 hRJ hjl hc
          rw [ht] at hcn c1 c2
          clear ht
          go_enter Try.func30, Try.ntmps30
          go_wp2_with fail
          refine (refCheck2_any _ _ _ _).mono ?_
          rintro e w' ⟨rfl, rfl⟩
          go_wp2_with fail
          refine (refCount_any _ _ hin).mono ?_
          rintro e w' ⟨rfl, rfl⟩
          go_wp2_with fail
          refine (HH.out.1 w hA).mono ?_
          rintro e w1 (⟨heq, _⟩ | ⟨_, A1, k1, c1', rfl, hx1⟩)
          · exact absurd heq HH.out.2
          go_wp2_with fail
          go_quiet (fail)
          go_wp2_with fail
          go_ret2
          exact retE_nil (by repeat (first | assumption | exact Ext.refl _ | refine Ext.drewN ?_ _ | refine Ext.drew ?_ | refine Ext.alloc ?_ _ | refine Ext.trans ?_ (by assumption)))
end Go.Proofs.Ytlhlnenpgcndkaa
