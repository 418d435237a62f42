/-
  The contracts of where an address is among the dirty words.
-/
import Derived.Test.YtmmcbleoglgamaaDRefCk
namespace Go.Proofs.Ytmmcbleoglgamaa
open Go.RowKit
theorem box4 {w w1 : World} {T : TypeId} {v0 v1 v2 v3 : Value} (hx : Ext (w.alloc (Obj.cells #[v0, v1, v2, v3] T)) w1) :
    w1.cell? ⟨w.heap.size, 0, none⟩ = some v0 ∧ w1.cell? ⟨w.heap.size, 1, none⟩ = some v1 ∧ w1.cell? ⟨w.heap.size, 2, none⟩ = some v2 ∧ w1.cell? ⟨w.heap.size, 3, none⟩ = some v3 ∧ w.heap.size < w1.heap.size ∧ Ext w w1 :=
  ⟨hx.cell (by simp [go_sem]), hx.cell (by simp [go_sem]), hx.cell (by simp [go_sem]), hx.cell (by simp [go_sem]), by have := hx.size; simp at this; omega, Ext.trans ((Ext.refl w).alloc _) hx⟩
theorem box4f {w w1 : World} {T : TypeId} {v0 v1 v2 v3 : Value} (hx : Ext (w.alloc (Obj.cells #[v0, v1, v2, v3] T)) w1) (o : Nat) : w1.frozen? ⟨w.heap.size, o, none⟩ = false := by
  rw [hx.bcell.2 _ _ (by simp)]
  simp [go_sem]
set_option maxHeartbeats 800000 in
theorem dAsk_any (m : List Int) (q : List Dw) (left : Int) (down : Bool) (a : Int) (A : Option Addr) (c : Nat) (B : Option Addr) (d : Nat) (w : World) (hB : Sl w B q.length d (fD q)) :
    Calls Try.prog 52 #[.agg #[.slice A m.length c, .slice B q.length d, .int .i64 left, .bool down], .int .i64 a] w fun e w' => e = .returned (.int .i64 (askE m q left down a)) ∧ Ext w w' := by
  cases hd : devB m q left down with
  | false =>
    have he := devE_no hd
    have ha : askE m q left down a = 8 := by simp [askE, hd]
    rw [ha]
    have HE := Lib.hid he
    clear ha he hd
    go_enter Try.func52, Try.ntmps52
    go_wp2_with fail
    refine (dCheck_any m q left down A c B d _ (hB.alloc _)).mono ?_
    rintro e w1 ⟨rfl, hx⟩
    rw [HE.out]
    go_wp2_with fail
    go_ret
    exact ⟨rfl, (by repeat (first | assumption | exact Ext.refl _ | refine Ext.drewN ?_ _ | refine Ext.drew ?_ | refine Ext.alloc ?_ _ | refine Ext.trans ?_ (by assumption)))⟩
  | true =>
    have he := devE_yes hd
    have HE := Lib.hid he
    by_cases h1 : a < 0
    · have ha : askE m q left down a = 2 := by simp [askE, hd, h1]
      rw [ha]
      clear ha he hd
      go_enter Try.func52, Try.ntmps52
      go_wp2_with fail
      refine (dCheck_any m q left down A c B d _ (hB.alloc _)).mono ?_
      rintro e w1 ⟨rfl, hx⟩
      rw [HE.out]
      obtain ⟨b0, b1, b2, b3, bs, hX⟩ := box4 hx
      go_wp2_with fail
      go_ret
      exact ⟨rfl, hX⟩
    · by_cases h2 : (m.length : Int) ≤ a
      · have ha : askE m q left down a = 2 := by simp [askE, hd, h2]
        rw [ha]
        clear ha he hd
        go_enter Try.func52, Try.ntmps52
        go_wp2_with fail
        refine (dCheck_any m q left down A c B d _ (hB.alloc _)).mono ?_
        rintro e w1 ⟨rfl, hx⟩
        rw [HE.out]
        obtain ⟨b0, b1, b2, b3, bs, hX⟩ := box4 hx
        go_wp2_with fail
        go_ret
        exact ⟨rfl, hX⟩
      · have ha : askE m q left down a = 0 := by simp [askE, hd, h1, h2]
        rw [ha]
        clear ha he hd
        go_enter Try.func52, Try.ntmps52
        go_wp2_with fail
        refine (dCheck_any m q left down A c B d _ (hB.alloc _)).mono ?_
        rintro e w1 ⟨rfl, hx⟩
        rw [HE.out]
        obtain ⟨b0, b1, b2, b3, bs, hX⟩ := box4 hx
        go_wp2_with fail
        go_ret
        exact ⟨rfl, hX⟩
/-- The comparison of two numbers. -/
def cmpI (a b : Int) : Int := if a < b then -1 else if b < a then 1 else 0
theorem cmpI_lt {a b : Int} : cmpI a b < 0 ↔ a < b := by unfold cmpI; (repeat' split) <;> omega
theorem cmpI_eq {a b : Int} : cmpI a b = 0 ↔ a = b := by unfold cmpI; (repeat' split) <;> omega
theorem cmp_any (a b : Int) (w : World) :
    Calls Try.prog 68 #[.int .i64 a, .int .i64 b] w fun e w' => e = .returned (.int .i64 (cmpI a b)) ∧ w = w' := by
  go_enter Try.func68, Try.ntmps68
  go_wp2
  all_goals go_ret
  all_goals refine ⟨ret_int ?_, rfl⟩
  all_goals unfold cmpI
  all_goals simp_all
  all_goals omega
theorem findF_any (a x v : Int) (f : Bool) (w : World) :
    Calls Try.prog 67 #[.agg #[.int .i64 x, .int .u64 v, .bool f], .int .i64 a] w fun e w' => e = .returned (.int .i64 (cmpI x a)) ∧ Ext w w' := by
  go_enter Try.func67, Try.ntmps67
  go_wp2_with fail
  refine (cmp_any _ _ _).mono ?_
  rintro e w1 ⟨rfl, rfl⟩
  go_wp2_with fail
  go_ret
  exact ⟨rfl, (by repeat (first | assumption | exact Ext.refl _ | refine Ext.drewN ?_ _ | refine Ext.drew ?_ | refine Ext.alloc ?_ _ | refine Ext.trans ?_ (by assumption)))⟩
set_option maxHeartbeats 3200000 in
theorem bsf_any (n : Int) (q : List Dw) (a : Int) (A : Option Addr) (c : Nat) (w : World) (hA : Sl w A q.length c (fD q)) (hq : ascB n (-1) q = true) (hl : q.length ≤ 100000) :
    Calls Try.prog 66 #[.slice A q.length c, .int .i64 a, .func (Fn.func 67) #[] #[]] w fun e w' => e = .returned (.tuple #[.int .i64 (cntLt a q), .bool (fndD a q)]) ∧ Ext w w' := by
  have hlm := hA.max
  unfold maxLen at hlm
  have hlc := hA.le
  have hcl := cntLt_le a q
  have HQ := Lib.hid hq
  clear hq
  go_enter Try.func66, Try.ntmps66
  go_wp2_with fail
  go_loopw [9, 10] (fun u v wr => ∃ i j : Nat, i ≤ cntLt a q ∧ cntLt a q ≤ j ∧ j ≤ q.length ∧ u = .int .i64 i ∧ v = .int .i64 j ∧ Ext w wr) (fun u v _ => (intOf v).toNat - (intOf u).toNat)
  case atStart => exact ⟨0, q.length, Nat.zero_le _, hcl, Nat.le_refl _, rfl, rfl, Ext.refl w⟩
  case round =>
    obtain ⟨i, j, h1, h2, h3, rfl, rfl, hx⟩ := hrel
    by_cases hij : i < j
    · obtain ⟨h, hh⟩ : ∃ h, (i + j) / 2 = h := ⟨_, rfl⟩
      have hb1 : i ≤ h := by omega
      have hb2 : h < j := by omega
      obtain ⟨ad, x, rfl, hat, g0, g1, g2⟩ := (hA.ext hx).d_at (k := h) (by omega)
      have hiff := cntLt_iff (a := a) HQ.out hat
      have he : ((i : Int) + (j : Int)) / 2 = (h : Int) := by omega
      have i0 : (h : Int) < q.length := by omega
      have w1 : IntKind.i64.wrap ((i : Int) + (j : Int)) = (i : Int) + (j : Int) := by simp [IntKind.wrap, IntKind.bits, IntKind.signed]; omega
      have w2 : IntKind.u64.wrap ((i : Int) + (j : Int)) = (i : Int) + (j : Int) := by simp [IntKind.wrap, IntKind.bits, IntKind.signed]; omega
      have w3 : IntKind.i64.wrap (h : Int) = (h : Int) := by simp [IntKind.wrap, IntKind.bits, IntKind.signed]; omega
      have HI := Lib.hid (And.intro hat hiff)
      clear hh hat hiff
      by_cases hc : x.1 < a
      · have hcm : decide (cmpI x.1 a < 0) = true := decide_eq_true (cmpI_lt.2 hc)
        have hlt := HI.out.2.1 hc
        go_wp2_with fail
        refine (findF_any a x.1 x.2.1 x.2.2 _).mono ?_
        rintro e w1 ⟨rfl, hx1⟩
        go_wp2_with fail
        go_roundw
        case rel => exact ⟨h + 1, j, by omega, by omega, by omega, by go_num, rfl, hx.trans hx1⟩
        case measure => simp [intOf]; omega
      · have hcm : decide (cmpI x.1 a < 0) = false := decide_eq_false (fun h => hc (cmpI_lt.1 h))
        have hlt : ¬ h < cntLt a q := fun h => hc (HI.out.2.2 h)
        go_wp2_with fail
        refine (findF_any a x.1 x.2.1 x.2.2 _).mono ?_
        rintro e w1 ⟨rfl, hx1⟩
        go_wp2_with fail
        go_roundw
        case rel => exact ⟨i, h, by omega, by omega, by omega, rfl, rfl, hx.trans hx1⟩
        case measure => simp [intOf]; omega
    · obtain rfl : i = j := by omega
      have hi : i = cntLt a q := by omega
      subst hi
      by_cases hn : cntLt a q < q.length
      · obtain ⟨ad, x, rfl, hat, g0, g1, g2⟩ := (hA.ext hx).d_at (k := cntLt a q) hn
        have hf : fndD a q = decide (x.1 = a) := by
          cases hf : fndD a q with
          | true =>
            obtain ⟨y, h1, h2⟩ := fnd_at hf
            rw [hat] at h1; injection h1 with h1; subst h1
            exact (decide_eq_true h2).symm
          | false => exact (decide_eq_false (fnd_not hf hat)).symm
        have hcm : (cmpI x.1 a == 0) = decide (x.1 = a) := by
          rw [Bool.eq_iff_iff]; simp [cmpI_eq]
        have hi2 : (cntLt a q : Int) < q.length := by omega
        obtain ⟨t, ht⟩ : ∃ t, cntLt a q = t := ⟨_, rfl⟩
        rw [ht] at g0 g1 g2 hi2 ⊢
        have HF := Lib.hid (And.intro hf (And.intro hcm ht))
        clear hat hf hcm ht
        go_wp2_with fail
        refine (findF_any a x.1 x.2.1 x.2.2 _).mono ?_
        rintro e w1 ⟨rfl, hx1⟩
        go_wp2_with fail
        go_ret2
        rw [HF.out.1, HF.out.2.1, HF.out.2.2]
        exact ⟨rfl, hx.trans hx1⟩
      · have hf : fndD a q = false := by
          cases hf : fndD a q with
          | true =>
            obtain ⟨y, h1, h2⟩ := fnd_at hf
            exact absurd (List.getElem?_eq_some_iff.1 h1).1 hn
          | false => rfl
        have hi2 : ¬ (cntLt a q : Int) < q.length := by omega
        have HF := Lib.hid hf
        obtain ⟨t, ht⟩ : ∃ t, cntLt a q = t := ⟨_, rfl⟩
        rw [ht] at hi2 ⊢
        have HT := Lib.hid ht
        clear hf ht
        go_wp2_with fail
        go_ret2
        rw [HF.out, HT.out]
        exact ⟨rfl, hx⟩
theorem dFind_any (m : List Int) (q : List Dw) (left : Int) (down : Bool) (a : Int) (A : Option Addr) (c : Nat) (B : Option Addr) (d : Nat) (w : World) (hB : Sl w B q.length d (fD q)) (hq : ascB m.length (-1) q = true) (hl : q.length ≤ 100000) :
    Calls Try.prog 53 #[.agg #[.slice A m.length c, .slice B q.length d, .int .i64 left, .bool down], .int .i64 a] w fun e w' => e = .returned (.tuple #[.int .i64 (cntLt a q), .bool (fndD a q)]) ∧ Ext w w' := by
  go_enter Try.func53, Try.ntmps53
  go_wp2_with fail
  refine (bsf_any _ q a B d _ (hB.alloc _) hq hl).mono ?_
  rintro e w1 ⟨rfl, hx⟩
  go_wp2_with fail
  go_ret2
  exact ⟨rfl, (by repeat (first | assumption | exact Ext.refl _ | refine Ext.drewN ?_ _ | refine Ext.drew ?_ | refine Ext.alloc ?_ _ | refine Ext.trans ?_ (by assumption)))⟩
end Go.Proofs.Ytmmcbleoglgamaa
