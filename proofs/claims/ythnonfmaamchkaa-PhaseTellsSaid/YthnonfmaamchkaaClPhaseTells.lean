/-
  PhaseTells, for every phase and every list of words: the law returns true. No condition.
-/
import Derived.Test.YthnonfmaamchkaaOpen
import Derived.Test.YthnonfmaamchkaaPhRead
import Derived.Test.YthnonfmaamchkaaPhRef
import Derived.Test.YthnonfmaamchkaaSel
import Derived.Test.YthnonfmaamchkaaPhSet
import Derived.Test.YthnonfmaamchkaaAt
namespace Go.Proofs.Ythnonfmaamchkaa
open Go.ChangeShapes Go.WideShapes Go.ChangeAt Go.RowKit

theorem retS_set {w w' : World} {T : Nat} {m : List Int} {a b c : Int} {en : Ending} (h : RetS w T 1 m.length (fU (setP m a b c)) (spE m.length a b c) en w') :
    ∃ A k, en = .returned (.tuple #[.slice A (selL (spE m.length a b c) (setP m a b c)).length k, .int .i64 (spE m.length a b c)]) ∧ Sl w' A (selL (spE m.length a b c) (setP m a b c)).length k (fU (selL (spE m.length a b c) (setP m a b c))) ∧ Ext w w' := by
  by_cases h19 : 19 ≤ m.length
  · exact h.genU (setP_len h19)
  · have hs : sizeB (m.length : Int) = false := by
      cases hs : sizeB (m.length : Int) with
      | false => rfl
      | true => have := sizeB_bd hs; omega
    have h8 : spE m.length a b c = 8 := by simp [spE, hs]
    rcases h with ⟨h0, _⟩ | ⟨h0, rfl, hx⟩
    · rw [h8] at h0; cases h0
    · refine ⟨none, 0, ?_, ?_, hx⟩
      · simp [selL, h0]
      · simp only [selL, if_neg h0]; exact Sl.nil_ _
/-- The entries of a phase, or none. -/
def phX (a b c : Int) : List (Int × Int) := if phB a b c then phL a b c else []
theorem PhW.gen {w w' : World} {T : Nat} {a b c : Int} {en : Ending} (h : PhW w T a b c en w') :
    ∃ A k, en = .returned (.tuple #[.slice A (phX a b c).length k, .int .i64 (phE a b c)]) ∧ Sl w' A (phX a b c).length k (fE (phX a b c)) ∧ Ext w w' := by
  rcases h with ⟨hb, A, k, rfl, _, hs, hx⟩ | ⟨hb, rfl, hx⟩
  · refine ⟨A, k, ?_, ?_, hx⟩
    · simp [phX, phE, hb, phL]
    · rw [phX, if_pos hb]; exact hs
  · refine ⟨none, 0, ?_, ?_, hx⟩
    · simp [phX, phE, hb]
    · rw [phX, hb]; exact Sl.nil_ _
set_option maxHeartbeats 12800000 in
set_option maxRecDepth 100000 in
theorem phaseTells_any (a b c : Int) (m : List Int) (A : Option Addr) (k : Nat) (w : World) (hA : Sl w A m.length k (fU m)) (wm : WfU m) :
    Calls Try.prog 7 #[.agg #[.int .i64 a, .int .i64 b, .int .i64 c], .slice A m.length k] w fun e w' => e = .returned (.bool true) ∧ Ext w w' := by
  by_cases hg : 2100 < m.length
  · have hd : decide (2100 < m.length) = true := decide_eq_true hg
    clear hA
    go_enter Try.func7, Try.ntmps7
    go_wp2_with fail
    refine (great2_any _ _ _ _).mono ?_
    rintro e w' ⟨rfl, rfl⟩
    go_wp2_with fail
    go_ret
    exact ⟨rfl, (Ext.refl w).alloc _⟩
  have hd : decide (2100 < m.length) = false := decide_eq_false hg
  have hm5 : m.length ≤ 100000 := by omega
  have heq := run_eqlP (prA m 16) (prA m 17) (prA m 18) (prA m 16) (prA m 17) (prA m 18)
  have hself : eqP (prA m 16) (prA m 17) (prA m 18) (prA m 16) (prA m 17) (prA m 18) = true := by simp [eqP]
  have h1 := fun W (ha : Sl W A m.length k (fU m)) => twin2_any m A k W ha hm5
  have h2 := fun W => phWrite_any a b c W
  have h3 := fun W => refWrite_any a b c W
  have h4 := fun A k W (ha : Sl W A m.length k (fU m)) => phRead_any m A k W ha wm
  have h5 := fun W (ha : Sl W A m.length k (fU m)) => refRead11_any m A k W ha wm
  have h6 := fun A k W (ha : Sl W A m.length k (fU m)) => phSet_any m A k a b c W ha
  have h7 := fun W (ha : Sl W A m.length k (fU m)) => refSet_any m A k a b c W ha
  have h8 := fun W => phCheck_any a b c W
  have h9 := fun W => refCheck11_any a b c W
  unfold RdP at h4 h5
  rw [hself] at heq
  obtain ⟨z0, e0⟩ : ∃ x, prA m 16 = x := ⟨_, rfl⟩
  obtain ⟨z1, e1⟩ : ∃ x, prA m 17 = x := ⟨_, rfl⟩
  obtain ⟨z2, e2⟩ : ∃ x, prA m 18 = x := ⟨_, rfl⟩
  obtain ⟨er2, e3⟩ : ∃ x, prE m = x := ⟨_, rfl⟩
  rw [e0, e1, e2, e3] at h4 h5
  rw [e0, e1, e2] at heq
  obtain ⟨er1, e4⟩ : ∃ x, phE a b c = x := ⟨_, rfl⟩
  rw [e4] at h8 h9
  have HW : ∀ {W W' : World} {en : Ending}, PhW W 33 a b c en W' → ∃ A k, en = .returned (.tuple #[.slice A (phX a b c).length k, .int .i64 er1]) ∧ Sl W' A (phX a b c).length k (fE (phX a b c)) ∧ Ext W W' := fun h => by rw [← e4]; exact h.gen
  have HS : ∀ {W W' : World} {en : Ending}, RetS W 31 1 m.length (fU (setP m a b c)) (spE m.length a b c) en W' → ∃ A k, en = .returned (.tuple #[.slice A (selL (spE m.length a b c) (setP m a b c)).length k, .int .i64 (spE m.length a b c)]) ∧ Sl W' A (selL (spE m.length a b c) (setP m a b c)).length k (fU (selL (spE m.length a b c) (setP m a b c))) ∧ Ext W W' := fun h => retS_set h
  obtain ⟨L, e5⟩ : ∃ x, phX a b c = x := ⟨_, rfl⟩
  obtain ⟨er3, e6⟩ : ∃ x, spE m.length a b c = x := ⟨_, rfl⟩
  rw [e6] at h6 h7 HS
  obtain ⟨X, e7⟩ : ∃ x, selL er3 (setP m a b c) = x := ⟨_, rfl⟩
  rw [e5] at HW
  rw [e7] at HS
  have G2 := fun W => (h2 W).mono fun en W' h => HW h
  have G3 := fun W => (h3 W).mono fun en W' h => HW h
  have G6 := fun A k W ha => (h6 A k W ha).mono fun en W' h => HS h
  have G7 := fun W ha => (h7 W ha).mono fun en W' h => HS h
  have HH := Lib.hid (And.intro h1 (And.intro G2 (And.intro G3 (And.intro h4 (And.intro h5 (And.intro G6 (And.intro G7 (And.intro h8 h9))))))))
  clear h1 h2 h3 h4 h5 h6 h7 h8 h9 G2 G3 G6 G7 HW HS e0 e1 e2 e3 e4 e5 e6 e7 hself hg hm5 wm
  go_enter Try.func7, Try.ntmps7
  go_wp2_with fail
  refine (great2_any _ _ _ _).mono ?_
  rintro e w' ⟨rfl, rfl⟩
  have hP := Box3.new w (.int .i64 a) (.int .i64 b) (.int .i64 c) 23
  have hX := (Ext.refl w).alloc (Obj.cells #[.int .i64 a, .int .i64 b, .int .i64 c] 23)
  replace hA := hA.ext hX
  obtain ⟨W0, hW0⟩ : ∃ W, W = w.alloc (Obj.cells #[.int .i64 a, .int .i64 b, .int .i64 c] 23) := ⟨_, rfl⟩
  obtain ⟨gP, hgP⟩ : ∃ g, w.heap.size = g := ⟨_, rfl⟩
  rw [← hW0] at hP hX hA ⊢
  rw [hgP] at hP ⊢
  clear hW0 hgP
  go_wp2_with fail
  refine (HH.out.1 W0 hA).mono ?_
  rintro e W101 ⟨A1, c1, rfl, -, hA1, hxx⟩
  replace hA := hA.ext hxx
  replace hP := hP.ext hxx
  replace hX := hX.trans hxx
  clear hxx
  have h9 := hP
  obtain ⟨p0, p1, p2, pf, pl⟩ := h9
  go_wp2_with fail
  refine (HH.out.2.1 W101).mono ?_
  rintro e W102 ⟨A2, c2, rfl, hA2, hxx⟩
  replace hA := hA.ext hxx
  replace hP := hP.ext hxx
  replace hA1 := hA1.ext hxx
  replace hX := hX.trans hxx
  clear hxx
  clear p0 p1 p2 pf pl
  have h9 := hP
  obtain ⟨p0, p1, p2, pf, pl⟩ := h9
  go_wp2_with fail
  refine (HH.out.2.2.1 W102).mono ?_
  rintro e W103 ⟨A3, c3, rfl, hA3, hxx⟩
  replace hA := hA.ext hxx
  replace hP := hP.ext hxx
  replace hA1 := hA1.ext hxx
  replace hA2 := hA2.ext hxx
  replace hX := hX.trans hxx
  clear hxx
  clear p0 p1 p2 pf pl
  go_wp2_with fail
  refine (HH.out.2.2.2.1 _ _ W103 hA1).mono ?_
  rintro e W104 ⟨rfl, hxx⟩
  replace hA := hA.ext hxx
  replace hP := hP.ext hxx
  replace hA1 := hA1.ext hxx
  replace hA2 := hA2.ext hxx
  replace hA3 := hA3.ext hxx
  replace hX := hX.trans hxx
  clear hxx
  go_upto_region 7 with fail
  have hC := Box3.new W104 (.int .i64 z0) (.int .i64 z1) (.int .i64 z2) 23
  have hxx := (Ext.refl W104).alloc (Obj.cells #[.int .i64 z0, .int .i64 z1, .int .i64 z2] 23)
  obtain ⟨WC, hW⟩ : ∃ W, W = W104.alloc (Obj.cells #[.int .i64 z0, .int .i64 z1, .int .i64 z2] 23) := ⟨_, rfl⟩
  obtain ⟨gC, hg⟩ : ∃ g, W104.heap.size = g := ⟨_, rfl⟩
  rw [← hW] at hC hxx ⊢
  rw [hg] at hC ⊢
  clear hW hg
  replace hA := hA.ext hxx
  replace hP := hP.ext hxx
  replace hA1 := hA1.ext hxx
  replace hA2 := hA2.ext hxx
  replace hA3 := hA3.ext hxx
  replace hX := hX.trans hxx
  clear hxx
  go_wp2_with fail
  refine (HH.out.2.2.2.2.1 WC hA).mono ?_
  rintro e W105 ⟨rfl, hxx⟩
  replace hA := hA.ext hxx
  replace hP := hP.ext hxx
  replace hA1 := hA1.ext hxx
  replace hA2 := hA2.ext hxx
  replace hA3 := hA3.ext hxx
  replace hC := hC.ext hxx
  replace hX := hX.trans hxx
  clear hxx
  go_upto_region 8 with fail
  have hD := Box3.new W105 (.int .i64 z0) (.int .i64 z1) (.int .i64 z2) 23
  have hxx := (Ext.refl W105).alloc (Obj.cells #[.int .i64 z0, .int .i64 z1, .int .i64 z2] 23)
  obtain ⟨WD, hW⟩ : ∃ W, W = W105.alloc (Obj.cells #[.int .i64 z0, .int .i64 z1, .int .i64 z2] 23) := ⟨_, rfl⟩
  obtain ⟨gD, hg⟩ : ∃ g, W105.heap.size = g := ⟨_, rfl⟩
  rw [← hW] at hD hxx ⊢
  rw [hg] at hD ⊢
  clear hW hg
  replace hA := hA.ext hxx
  replace hP := hP.ext hxx
  replace hA1 := hA1.ext hxx
  replace hA2 := hA2.ext hxx
  replace hA3 := hA3.ext hxx
  replace hC := hC.ext hxx
  replace hX := hX.trans hxx
  clear hxx
  have h9 := hP
  obtain ⟨p0, p1, p2, pf, pl⟩ := h9
  go_wp2_with fail
  refine (HH.out.2.2.2.2.2.1 _ _ WD hA1).mono ?_
  rintro e W106 ⟨A4, c4, rfl, hA4, hxx⟩
  replace hA := hA.ext hxx
  replace hP := hP.ext hxx
  replace hA1 := hA1.ext hxx
  replace hA2 := hA2.ext hxx
  replace hA3 := hA3.ext hxx
  replace hC := hC.ext hxx
  replace hD := hD.ext hxx
  replace hX := hX.trans hxx
  clear hxx
  clear p0 p1 p2 pf pl
  have h9 := hP
  obtain ⟨p0, p1, p2, pf, pl⟩ := h9
  go_wp2_with fail
  refine (HH.out.2.2.2.2.2.2.1 W106 hA).mono ?_
  rintro e W107 ⟨A5, c5, rfl, hA5, hxx⟩
  replace hA := hA.ext hxx
  replace hP := hP.ext hxx
  replace hA1 := hA1.ext hxx
  replace hA2 := hA2.ext hxx
  replace hA3 := hA3.ext hxx
  replace hC := hC.ext hxx
  replace hD := hD.ext hxx
  replace hA4 := hA4.ext hxx
  replace hX := hX.trans hxx
  clear hxx
  clear p0 p1 p2 pf pl
  go_upto_region 10 with fail
  have HP := Lib.hid hP
  have HC := Lib.hid hC
  have HD := Lib.hid hD
  obtain ⟨p0, p1, p2, pf, pl⟩ := hP
  obtain ⟨q0, q1, q2, qf, ql⟩ := hC
  obtain ⟨r0, r1, r2, rf, rl⟩ := hD
  have HX3 := Lib.hid (fun W (e : Ext W107 W) => same7_yes L L rfl A2 A3 c2 c3 W (hA2.ext e) (hA3.ext e))
  have HX4 := Lib.hid (fun W (e : Ext W107 W) => same2_yes X X rfl A4 A5 c4 c5 W (hA4.ext e) (hA5.ext e))
  have HX5 := Lib.hid (fun W (e : Ext W107 W) => same2_yes m m rfl A1 A c1 k W (hA1.ext e) (hA.ext e))
  go_region_held3 (fun w' => w'.cell? ⟨gP, 0, none⟩ = some (.int .i64 a) ∧ w'.cell? ⟨gP, 1, none⟩ = some (.int .i64 b) ∧ w'.cell? ⟨gP, 2, none⟩ = some (.int .i64 c) ∧ w'.cell? ⟨gC, 0, none⟩ = some (.int .i64 z0) ∧ w'.cell? ⟨gC, 1, none⟩ = some (.int .i64 z1) ∧ w'.cell? ⟨gC, 2, none⟩ = some (.int .i64 z2) ∧ w'.cell? ⟨gD, 0, none⟩ = some (.int .i64 z0) ∧ w'.cell? ⟨gD, 1, none⟩ = some (.int .i64 z1) ∧ w'.cell? ⟨gD, 2, none⟩ = some (.int .i64 z2)) (go_keep)
    (first
      | (go_at_call 16; with_reducible refine (HH.out.2.2.2.2.2.2.2.1 _).mono ?_; rintro e wn ⟨rfl, hxn⟩; have hxw : Ext W107 wn := (by repeat (first | assumption | exact Ext.refl _ | refine Ext.drewN ?_ _ | refine Ext.drew ?_ | refine Ext.alloc ?_ _ | refine Ext.trans ?_ (by assumption))); obtain ⟨s0, s1, s2, sf, sl⟩ := HP.out.ext hxw; obtain ⟨t0, t1, t2, tf, tl⟩ := HC.out.ext hxw; obtain ⟨u0, u1, u2, uf, ul⟩ := HD.out.ext hxw)
      | (go_at_call 38; with_reducible refine (HH.out.2.2.2.2.2.2.2.2 _).mono ?_; rintro e wn ⟨rfl, hxn⟩; have hxw : Ext W107 wn := (by repeat (first | assumption | exact Ext.refl _ | refine Ext.drewN ?_ _ | refine Ext.drew ?_ | refine Ext.alloc ?_ _ | refine Ext.trans ?_ (by assumption))); obtain ⟨s0, s1, s2, sf, sl⟩ := HP.out.ext hxw; obtain ⟨t0, t1, t2, tf, tl⟩ := HC.out.ext hxw; obtain ⟨u0, u1, u2, uf, ul⟩ := HD.out.ext hxw)
      | (go_at_call 18; with_reducible refine (HX3.out _ (by repeat (first | assumption | exact Ext.refl _ | refine Ext.drewN ?_ _ | refine Ext.drew ?_ | refine Ext.alloc ?_ _ | refine Ext.trans ?_ (by assumption)))).mono ?_; rintro e wn ⟨rfl, hdn⟩; have hxn := hdn.ext; have hxw : Ext W107 wn := (by repeat (first | assumption | exact Ext.refl _ | refine Ext.drewN ?_ _ | refine Ext.drew ?_ | refine Ext.alloc ?_ _ | refine Ext.trans ?_ (by assumption))); obtain ⟨s0, s1, s2, sf, sl⟩ := HP.out.ext hxw; obtain ⟨t0, t1, t2, tf, tl⟩ := HC.out.ext hxw; obtain ⟨u0, u1, u2, uf, ul⟩ := HD.out.ext hxw)
      | (go_at_call 27; with_reducible refine (HX4.out _ (by repeat (first | assumption | exact Ext.refl _ | refine Ext.drewN ?_ _ | refine Ext.drew ?_ | refine Ext.alloc ?_ _ | refine Ext.trans ?_ (by assumption)))).mono ?_; rintro e wn ⟨rfl, hdn⟩; have hxn := hdn.ext; have hxw : Ext W107 wn := (by repeat (first | assumption | exact Ext.refl _ | refine Ext.drewN ?_ _ | refine Ext.drew ?_ | refine Ext.alloc ?_ _ | refine Ext.trans ?_ (by assumption))); obtain ⟨s0, s1, s2, sf, sl⟩ := HP.out.ext hxw; obtain ⟨t0, t1, t2, tf, tl⟩ := HC.out.ext hxw; obtain ⟨u0, u1, u2, uf, ul⟩ := HD.out.ext hxw)
      | (go_at_call 27; with_reducible refine (HX5.out _ (by repeat (first | assumption | exact Ext.refl _ | refine Ext.drewN ?_ _ | refine Ext.drew ?_ | refine Ext.alloc ?_ _ | refine Ext.trans ?_ (by assumption)))).mono ?_; rintro e wn ⟨rfl, hdn⟩; have hxn := hdn.ext; have hxw : Ext W107 wn := (by repeat (first | assumption | exact Ext.refl _ | refine Ext.drewN ?_ _ | refine Ext.drew ?_ | refine Ext.alloc ?_ _ | refine Ext.trans ?_ (by assumption))); obtain ⟨s0, s1, s2, sf, sl⟩ := HP.out.ext hxw; obtain ⟨t0, t1, t2, tf, tl⟩ := HC.out.ext hxw; obtain ⟨u0, u1, u2, uf, ul⟩ := HD.out.ext hxw))
  all_goals
    go_wp2_with fail
    go_ret
    exact ⟨rfl, Ext.trans (a := w) (b := W107) (by assumption) (by repeat (first | assumption | exact Ext.refl _ | refine Ext.drewN ?_ _ | refine Ext.drew ?_ | refine Ext.alloc ?_ _ | refine Ext.trans ?_ (by assumption)))⟩
set_option maxRecDepth 100000 in
theorem phaseTells_lifted (os : Os) (started : os.Started) (H : Type) (enc : TypeId × Value → H) :
    ReturnsInHanded {} Try.checked os 7 .any (Rows.phaseTellsSpec.pre6 enc Try.prog Try.f7 Rows.phaseTellsRow.domain false) (Rows.phaseTellsSpec.post enc Try.prog Try.f7 false true false false) := by
  refine returnsInHanded_of_change (C := Try.checked) own_knob started (by kernel_rfl) Try.func7
    (ChangeSpec.witness6 (enc := enc) (C := Try.checked) false ⟨#[], #[.agg #[.int .i64 0, .int .i64 0, .int .i64 0], .slice none 0 0], []⟩ 8 (by kernel_rfl) (by kernel_rfl) (by kernel_rfl) (by kernel_rfl)) ?_
  intro W base args ds gs before hval0 hW hcnd _
  have hval : ∀ (j : Nat) t v, Try.f7.params[j]? = some t → args[j]? = some v → Value.okWide Try.prog W .any base t v := hval0
  have hW' := hW
  obtain ⟨p, q, hA0, hV, rfl, hfz, hnd⟩ := hW
  have hA : DataW.TrodAll enc Try.prog W 0 (fun _ => true) true Try.f7.params.toList args.toList ds p := hA0
  rw [Try.params7] at hA hval
  obtain ⟨v0, vs0, d0, ds0, p0, q0, hargs, rfl, rfl, h0, r0⟩ := trodAll_cons hA
  obtain ⟨v1, vs1, d1, ds1, p1, q1, rfl, rfl, rfl, h1, r1⟩ := trodAll_cons r0
  obtain ⟨rfl, rfl, rfl⟩ := trodAll_nil r1
  obtain rfl : args = #[v0, v1] := by cases args; simp_all
  obtain ⟨rfl, rfl⟩ := trodVars_none hV
  obtain ⟨a0, b0, c0, rfl, ha0, hb0, hc0⟩ := op_P (hval 0 23 v0 rfl rfl) h0
  obtain ⟨A1, c1, m1, rfl, hS1, wA1⟩ := op_U (hval 1 41 v1 rfl rfl) h1
  clear hA0 hval0 hval hA
  refine (phaseTells_any a0 b0 c0 m1 A1 c1 W hS1 wA1).mono fun e W' ⟨he, hx⟩ => ?_
  subst he
  exact ⟨_, rfl, post_law laid_out (by kernel_rfl) hW' rfl rfl rfl Try.underlying4 hx⟩
theorem phaseTells_holds : Rows.PhaseTellsSaid :=
  OpenClaim.holds_of_wide 7 Try.f7 rfl rfl rfl rfl rfl rfl rfl ⟨rfl, rfl, rfl, rfl, rfl⟩ rfl rfl rfl rfl rfl (by kernel_rfl) Try.func7 (by kernel_rfl)
    (of_decide_eq_true (by kernel_rfl)) (by unfold Func.isWrapper; first | (rw [if_pos (by decide +kernel)]; kernel_rfl) | (rw [if_neg (by decide +kernel)]; exact ⟨rfl, rfl⟩))
    (fun os started H enc _ => phaseTells_lifted os started H enc)
end Go.Proofs.Ythnonfmaamchkaa
