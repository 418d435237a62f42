/-
  PhaseSet, for every image and every phase: the law returns true. No condition.
-/
import Derived.Test.YthnonfmaamchkaaOpen
import Derived.Test.YthnonfmaamchkaaLawPC
import Derived.Test.YthnonfmaamchkaaPhRead
namespace Go.Proofs.Ythnonfmaamchkaa
open Go.ChangeShapes Go.WideShapes Go.ChangeAt Go.RowKit

/-- Are the words from 19 to k - 1 nothing but 0? -/
def zs (m : List Int) (k : Nat) : Bool := (List.range (k - 19)).all fun j => decide (m.getD (19 + j) 0 = 0)
theorem zs_succ {m : List Int} {k : Nat} (h : 19 ≤ k) : zs m (k + 1) = (zs m k && decide (m.getD k 0 = 0)) := by
  rw [zs, zs, show k + 1 - 19 = (k - 19) + 1 from by omega, List.range_succ, List.all_append]
  simp only [List.all_cons, List.all_nil, Bool.and_true]
  rw [show 19 + (k - 19) = k from by omega]
theorem zs_all {m : List Int} : zs m 24 = true ↔ m.getD 19 0 = 0 ∧ m.getD 20 0 = 0 ∧ m.getD 21 0 = 0 ∧ m.getD 22 0 = 0 ∧ m.getD 23 0 = 0 := by
  rw [show (24 : Nat) = 19 + 1 + 1 + 1 + 1 + 1 from rfl, zs_succ (by omega), zs_succ (by omega), zs_succ (by omega), zs_succ (by omega), zs_succ (by omega)]
  simp only [Bool.and_eq_true, decide_eq_true_eq]
  constructor
  · rintro ⟨⟨⟨⟨⟨_, a⟩, b⟩, c⟩, d⟩, e⟩; exact ⟨a, b, c, d, e⟩
  · rintro ⟨a, b, c, d, e⟩; exact ⟨⟨⟨⟨⟨rfl, a⟩, b⟩, c⟩, d⟩, e⟩
theorem setP_out {m : List Int} {a b c : Int} (h : 19 ≤ m.length) {i : Nat} (hi : i < 16 ∨ 19 ≤ i) : (setP m a b c)[i]? = m[i]? := by
  rw [← setP_sets h, List.getElem?_set_ne (by omega), List.getElem?_set_ne (by omega), List.getElem?_set_ne (by omega)]
theorem setP_out' {m : List Int} {a b c : Int} (h : 19 ≤ m.length) {i : Nat} (hi : i < 16 ∨ 19 ≤ i) : (setP m a b c).getD i 0 = m.getD i 0 := by
  rw [List.getD, setP_out h hi, List.getD]
theorem setP_in {m : List Int} {a b c : Int} (h : 19 ≤ m.length) : (setP m a b c).getD 16 0 = a ∧ (setP m a b c).getD 17 0 = b ∧ (setP m a b c).getD 18 0 = c := by
  rw [← setP_sets h]
  refine ⟨?_, ?_, ?_⟩
  · rw [List.getD, List.getElem?_set_ne (by omega), List.getElem?_set_ne (by omega), List.getElem?_set_self (by omega)]; rfl
  · rw [List.getD, List.getElem?_set_ne (by omega), List.getElem?_set_self (by simp; omega)]; rfl
  · rw [List.getD, List.getElem?_set_self (by simp; omega)]; rfl
theorem okP_setP {m : List Int} {a b c : Int} (hs : sizeB (m.length : Int) = true) (hp : phB a b c = true) : okP (setP m a b c) = (zs m 24 && decide (b ≤ (m.length : Int))) := by
  have hsz := sizeB_bd hs
  have h : 19 ≤ m.length := by omega
  have hb := phB_bd hp
  obtain ⟨e0, e1, e2⟩ := setP_in (a := a) (b := b) (c := c) h
  rw [Bool.eq_iff_iff, okP_iff, setP_len h, e0, e1, e2, setP_out' h (by omega), setP_out' h (by omega), setP_out' h (by omega), setP_out' h (by omega), setP_out' h (by omega), Bool.and_eq_true, zs_all, decide_eq_true_eq]
  constructor
  · rintro ⟨⟨_, y, _⟩, z, _⟩; exact ⟨z, y⟩
  · rintro ⟨z, y⟩; exact ⟨⟨by omega, y, by omega⟩, z, hp⟩
set_option maxHeartbeats 6400000 in
set_option maxRecDepth 100000 in
theorem phaseSet_any (m : List Int) (A : Option Addr) (k : Nat) (a b c : Int) (w : World) (hA : Sl w A m.length k (fU m)) (wm : WfU m) :
    Calls Try.prog 12 #[.slice A m.length k, .agg #[.int .i64 a, .int .i64 b, .int .i64 c]] w fun en w' => en = .returned (.bool true) ∧ Ext w w' := by
  cases hs : sizeB (m.length : Int) with
  | false =>
    have hi : imgE (m.length : Int) = 8 := by simp [imgE, hs]
    go_enter Try.func12, Try.ntmps12
    go_wp2_with fail
    refine (refCheck2_any _ _ _ _).mono ?_
    rintro en w1 ⟨rfl, rfl⟩
    go_wp2_with fail
    refine (alive11_any _).mono ?_
    rintro en w2 ⟨rfl, hx⟩
    go_wp2_with fail
    go_ret
    exact ⟨rfl, Ext.trans (by (repeat (first | assumption | exact Ext.refl _ | refine Ext.drewN ?_ _ | refine Ext.drew ?_ | refine Ext.alloc ?_ _ | refine Ext.trans ?_ (by assumption)))) hx⟩
  | true =>
    have hi : imgE (m.length : Int) = 0 := by simp [imgE, hs]
    have hsz := sizeB_bd hs
    cases hp : phB a b c with
    | false =>
      have he : phE a b c = 8 := by simp [phE, hp]
      go_enter Try.func12, Try.ntmps12
      go_wp2_with fail
      refine (refCheck2_any _ _ _ _).mono ?_
      rintro en w1 ⟨rfl, rfl⟩
      go_wp2_with fail
      refine (refCheck11_any _ _ _ _).mono ?_
      rintro en w2 ⟨rfl, hx2⟩
      go_wp2_with fail
      refine (alive11_any _).mono ?_
      rintro en w3 ⟨rfl, hx3⟩
      go_wp2_with fail
      go_ret
      exact ⟨rfl, Ext.trans (Ext.trans (by (repeat (first | assumption | exact Ext.refl _ | refine Ext.drewN ?_ _ | refine Ext.drew ?_ | refine Ext.alloc ?_ _ | refine Ext.trans ?_ (by assumption)))) hx2) hx3⟩
    | true =>
      have he : phE a b c = 0 := by simp [phE, hp]
      have hbd := phB_bd hp
      have sp1 : spE m.length a b c = 0 := by simp [spE, hs, he]
      have l1 := setP_len (m := m) (a := a) (b := b) (c := c) (by omega)
      have hok := okP_setP (m := m) hs hp
      have hin := setP_in (m := m) (a := a) (b := b) (c := c) (by omega)
      have hout := fun (i : Nat) (hi : i < 16 ∨ 19 ≤ i) => setP_out (m := m) (a := a) (b := b) (c := c) (by omega) hi
      have wX : WfU (setP m a b c) := by
        intro y hy
        simp only [setP, splice, List.mem_append, List.mem_cons, List.not_mem_nil, or_false] at hy
        rcases hy with h1 | (rfl | rfl | rfl) | h1
        · exact wm _ (List.mem_of_mem_take h1)
        · unfold InU; omega
        · unfold InU; omega
        · unfold InU; omega
        · exact wm _ (List.mem_of_mem_drop h1)
      obtain ⟨X, hX⟩ : ∃ X, setP m a b c = X := ⟨_, rfl⟩
      rw [hX] at l1 hok hin wX
      have hdm : ∀ y ∈ diffN m X m.length, 16 ≤ y ∧ y ≤ 18 := by
        intro y hy
        obtain ⟨i, _, rfl, hne⟩ := mem_diffN.1 hy
        refine Classical.byContradiction fun hno => hne ?_
        rw [← hX, hout i (by omega)]
      obtain ⟨D, hD⟩ : ∃ D, diffN m X m.length = D := ⟨_, rfl⟩
      rw [hD] at hdm
      have hpr : prE X = if okP X then 0 else 50 := by simp [prE, l1, hs]
      obtain ⟨r0, r1, r2, er, hr0, hr1, hr2, her, hgood, hbad⟩ : ∃ r0 r1 r2 er, prA X 16 = r0 ∧ prA X 17 = r1 ∧ prA X 18 = r2 ∧ prE X = er ∧ (zs m 24 = true → b ≤ (m.length : Int) → er = 0 ∧ r0 = a ∧ r1 = b ∧ r2 = c) ∧ (zs m 24 = false ∨ ¬ b ≤ (m.length : Int) → er = 50) := by
        refine ⟨_, _, _, _, rfl, rfl, rfl, rfl, ?_, ?_⟩
        · intro z y
          have h0 : prE X = 0 := by rw [hpr, hok, z, decide_eq_true y]; rfl
          refine ⟨h0, ?_, ?_, ?_⟩ <;> rw [prA, h0, if_pos rfl]
          · exact hin.1
          · exact hin.2.1
          · exact hin.2.2
        · rintro (z | y)
          · rw [hpr, hok, z]; rfl
          · rw [hpr, hok, decide_eq_false y, Bool.and_false]; rfl
      have hz0 : zs m 19 = true := rfl
      have hzs := fun (j : Nat) (h : 19 ≤ j) => zs_succ (m := m) h
      have HH := Lib.hid (And.intro sp1 (And.intro l1 (And.intro hX (And.intro hD (And.intro hdm (And.intro hs (And.intro wX (And.intro hr0 (And.intro hr1 (And.intro hr2 her))))))))))
      have HG := Lib.hid (And.intro hgood (And.intro hbad (And.intro hz0 hzs)))
      clear sp1 l1 hX hD hdm hs wX hr0 hr1 hr2 her hgood hbad hz0 hzs hok hin hout hpr hp
      go_enter Try.func12, Try.ntmps12
      go_wp2_with fail
      refine (refCheck2_any _ _ _ _).mono ?_
      rintro en w1 ⟨rfl, rfl⟩
      go_wp2_with fail
      refine (refCheck11_any _ _ _ _).mono ?_
      rintro en w2 ⟨rfl, hx2⟩
      obtain ⟨hc, hf⟩ := hx2.bcell
      have hX2 : Ext w w2 := Ext.trans (by (repeat (first | assumption | exact Ext.refl _ | refine Ext.drewN ?_ _ | refine Ext.drew ?_ | refine Ext.alloc ?_ _ | refine Ext.trans ?_ (by assumption)))) hx2
      go_wp2_with fail
      refine (phSet_any m A k a b c w2 (hA.ext hX2)).mono ?_
      rintro en w3 (⟨_, A3, c3, rfl, _, hA3, hx3⟩ | ⟨hne, _⟩)
      case inr => exact absurd HH.out.1 hne
      rw [HH.out.2.2.1] at hA3
      have hx23 := hx2.trans hx3
      have hX3 := hX2.trans hx3
      clear hc hf
      have sp1' := HH.out.1
      have hdf := imageDiff_any m X A k A3 c3 w3 (hA.ext hX3) (by rw [HH.out.2.1]; exact hA3) HH.out.2.2.2.2.2.1 HH.out.2.1
      rw [HH.out.2.1, HH.out.2.2.2.1] at hdf
      have HF := Lib.hid hdf
      clear hdf
      go_wp2_with fail
      clear sp1'
      refine HF.out.mono ?_
      rintro en w4 ⟨A4, c4, rfl, _, hA4, hx4⟩
      have hx24 := hx23.trans hx4
      have hX4 := hX3.trans hx4
      have hrd := phRead_any X A3 c3 w4 (by rw [HH.out.2.1]; exact hA3.ext hx4) HH.out.2.2.2.2.2.2.1
      unfold RdP at hrd
      rw [HH.out.2.1, HH.out.2.2.2.2.2.2.2.1, HH.out.2.2.2.2.2.2.2.2.1, HH.out.2.2.2.2.2.2.2.2.2.1, HH.out.2.2.2.2.2.2.2.2.2.2] at hrd
      have HR := Lib.hid hrd
      clear hrd
      go_wp2_with fail
      refine HR.out.mono ?_
      rintro en w5 ⟨rfl, hx5⟩
      have hx25 := hx24.trans hx5
      have hX5 := hX4.trans hx5
      obtain ⟨hc, hf⟩ := hx25.bcell
      have hbl : w.heap.size < w5.heap.size := by have := hx25.size; simp at this; omega
      have hA5 := (hA.ext hX5).alloc (Obj.cells #[.int .i64 r0, .int .i64 r1, .int .i64 r2] 23)
      have hD5 := (hA4.ext hx5).alloc (Obj.cells #[.int .i64 r0, .int .i64 r1, .int .i64 r2] 23)
      have hD1 := hA4.le
      have hD2 := hA4.max
      unfold maxLen at hD2
      clear hA3 hA4 hA hx2 hx3 hx4 hx5 hx23 hx24 hX2 hX3 hX4
      go_wp2_with fail
      go_loopw [11] (fun i wr => ∃ k : Nat, k ≤ D.length ∧ i = .int .i64 k ∧ wr = w5.alloc (Obj.cells #[.int .i64 r0, .int .i64 r1, .int .i64 r2] 23)) (fun i _ => D.length - (intOf i).toNat)
      case atStart => exact ⟨0, Nat.zero_le _, rfl, rfl⟩
      case round =>
        obtain ⟨q, hq, rfl, rfl⟩ := hrel
        by_cases hlt : q < D.length
        · obtain ⟨a4, y, rfl, hy, g4⟩ := hD5.i_at hlt
          obtain ⟨y1, y2⟩ := HH.out.2.2.2.2.1 y (mem_of_at hy)
          have Hy := Lib.hid hy
          clear hy
          go_wp2_with fail
          go_roundw
          case rel => exact ⟨q + 1, by omega, by go_num, trivial⟩
          case measure => simp [intOf]; omega
        · go_wp2_with fail
          go_loopw [12, 13] (fun v i wr => ∃ k : Nat, 19 ≤ k ∧ k ≤ 24 ∧ i = .int .i64 k ∧ v = .bool (zs m k) ∧ wr = w5.alloc (Obj.cells #[.int .i64 r0, .int .i64 r1, .int .i64 r2] 23)) (fun _ i _ => 24 - (intOf i).toNat)
          case atStart => exact ⟨19, by omega, by omega, rfl, rfl, rfl⟩
          case round =>
            obtain ⟨q2, hq2, hq3, rfl, hv, rfl⟩ := hrel
            by_cases hlt2 : q2 < 24
            · have hlt3 : (q2 : Int) < 24 := by omega
              have hql : q2 < m.length := by omega
              obtain ⟨aA, x, rfl, hx, g⟩ := hA5.u_at hql
              have hxd : m.getD q2 0 = x := by simp [List.getD, hx]
              have HT := Lib.hid (HG.out.2.2.2 q2 hq2)
              rw [hxd] at HT
              clear hx hxd
              cases hbb : zs m q2 with
              | true =>
                rw [hbb] at hv
                subst hv
                have HBB := Lib.hid hbb
                clear hbb
                go_wp2_with fail
                go_roundw
                case rel => exact ⟨q2 + 1, by omega, by omega, by go_num, by rw [HT.out, HBB.out]; rfl, trivial⟩
                case measure => simp [intOf]; omega
              | false =>
                rw [hbb] at hv
                subst hv
                have HBB := Lib.hid hbb
                clear hbb
                go_wp2_with fail
                go_roundw
                case rel => exact ⟨q2 + 1, by omega, by omega, by go_num, by rw [HT.out, HBB.out]; rfl, trivial⟩
                case measure => simp [intOf]; omega
            · obtain rfl : q2 = 24 := by omega
              cases hz : zs m 24 with
              | false =>
                rw [hz] at hv
                subst hv
                obtain rfl := HG.out.2.1 (.inl hz)
                clear hz
                go_wp2_with fail
                refine (alive11_any _).mono ?_
                rintro en w6 ⟨rfl, hx6⟩
                go_wp2_with fail
                go_ret
                exact ⟨rfl, Ext.trans (hX5.alloc _) hx6⟩
              | true =>
                rw [hz] at hv
                subst hv
                by_cases hbl2 : b ≤ (m.length : Int)
                · obtain ⟨rfl, rfl, rfl, rfl⟩ := HG.out.1 hz hbl2
                  clear hz
                  have hes := eqP_self r0 r1 r2
                  go_wp2_with fail
                  refine (alive11_any _).mono ?_
                  rintro en w6 ⟨rfl, hx6⟩
                  go_wp2_with fail
                  go_ret
                  exact ⟨rfl, Ext.trans (hX5.alloc _) hx6⟩
                · obtain rfl := HG.out.2.1 (.inr (by omega))
                  clear hz
                  go_wp2_with fail
                  refine (alive11_any _).mono ?_
                  rintro en w6 ⟨rfl, hx6⟩
                  go_wp2_with fail
                  go_ret
                  exact ⟨rfl, Ext.trans (hX5.alloc _) hx6⟩
set_option maxRecDepth 100000 in
theorem phaseSet_lifted (os : Os) (started : os.Started) (H : Type) (enc : TypeId × Value → H) :
    ReturnsInHanded {} Try.checked os 12 .any (Rows.phaseSetSpec.pre6 enc Try.prog Try.f12 Rows.phaseSetRow.domain false) (Rows.phaseSetSpec.post enc Try.prog Try.f12 false true false false) := by
  refine returnsInHanded_of_change (C := Try.checked) own_knob started (by kernel_rfl) Try.func12
    (ChangeSpec.witness6 (enc := enc) (C := Try.checked) false ⟨#[], #[.slice none 0 0, .agg #[.int .i64 0, .int .i64 0, .int .i64 0]], []⟩ 8 (by kernel_rfl) (by kernel_rfl) (by kernel_rfl) (by kernel_rfl)) ?_
  intro W base args ds gs before hval0 hW hcnd _
  have hval : ∀ (j : Nat) t v, Try.f12.params[j]? = some t → args[j]? = some v → Value.okWide Try.prog W .any base t v := hval0
  have hW' := hW
  obtain ⟨p, q, hA0, hV, rfl, hfz, hnd⟩ := hW
  have hA : DataW.TrodAll enc Try.prog W 0 (fun _ => true) true Try.f12.params.toList args.toList ds p := hA0
  rw [Try.params12] at hA hval
  obtain ⟨v0, vs0, d0, ds0, p0, q0, hargs, rfl, rfl, h0, r0⟩ := trodAll_cons hA
  obtain ⟨v1, vs1, d1, ds1, p1, q1, rfl, rfl, rfl, h1, r1⟩ := trodAll_cons r0
  obtain ⟨rfl, rfl, rfl⟩ := trodAll_nil r1
  obtain rfl : args = #[v0, v1] := by cases args; simp_all
  obtain ⟨rfl, rfl⟩ := trodVars_none hV
  obtain ⟨A0, c0, m0, rfl, hS0, wA0⟩ := op_U (hval 0 41 v0 rfl rfl) h0
  obtain ⟨a1, b1, c1, rfl, ha1, hb1, hc1⟩ := op_P (hval 1 23 v1 rfl rfl) h1
  clear hA0 hval0 hval hA
  refine (phaseSet_any m0 A0 c0 a1 b1 c1 W hS0 wA0).mono fun e W' ⟨he, hx⟩ => ?_
  subst he
  exact ⟨_, rfl, post_law laid_out (by kernel_rfl) hW' rfl rfl rfl Try.underlying4 hx⟩
theorem phaseSet_holds : Rows.PhaseSetSaid :=
  OpenClaim.holds_of_wide 12 Try.f12 rfl rfl rfl rfl rfl rfl rfl ⟨rfl, rfl, rfl, rfl, rfl⟩ rfl rfl rfl rfl rfl (by kernel_rfl) Try.func12 (by kernel_rfl)
    (of_decide_eq_true (by kernel_rfl)) (by unfold Func.isWrapper; first | (rw [if_pos (by decide +kernel)]; kernel_rfl) | (rw [if_neg (by decide +kernel)]; exact ⟨rfl, rfl⟩))
    (fun os started H enc _ => phaseSet_lifted os started H enc)
end Go.Proofs.Ythnonfmaamchkaa
