/-
  CommitNames: the law returns true. No condition.
-/
import Derived.Test.YtlhlnenpgcndkaaAlive09
import Derived.Test.YtlhlnenpgcndkaaMakeE
import Derived.Test.YtlhlnenpgcndkaaOpen
namespace Go.Proofs.Ytlhlnenpgcndkaa
open Go.ChangeShapes Go.WideShapes Go.ChangeAt Go.RowKit

theorem n9_a : cwE [] 256 = 6 := by decide +kernel
theorem n9_b : cwE [(130, 1)] 255 = 2 := by decide +kernel
theorem n9_c : cwE [(0, 0)] 256 = 8 := by decide +kernel
theorem n9_d : cwE (zerosE 33) 256 = 4 := by decide +kernel
theorem n9_f : cwE [(130, 1)] 0 = 2 := by decide +kernel
theorem n9_j : cwE [(130, 1)] 256 = 0 := by decide +kernel
def n9w : List Int := [0, 64, 33, 63, 9223372036854775848]
def n9e : List Int := [6, 50, 50, 50, 50]
theorem n9_loop : ∀ (k : Nat) (x y : Int), n9w[k]? = some x → n9e[k]? = some y → cntE x = y ∧ InU x := by
  intro k x y hx hy
  have hk : k < 5 := by
    have := (List.getElem?_eq_some_iff.1 hx).1
    simpa [n9w] using this
  have key : ∀ k : Fin 5, cntE (n9w.getD k.val 0) = n9e.getD k.val 0 ∧ 0 ≤ n9w.getD k.val 0 ∧ n9w.getD k.val 0 ≤ 18446744073709551615 := by decide +kernel
  have h := key ⟨k, hk⟩
  simp only [List.getD, hx, hy, Option.getD_some] at h
  exact h
theorem n9_big : cntN 18446744073709551584 = 32 ∧ cntL 18446744073709551584 = 288230376151711743 ∧ cntE 18446744073709551584 = 0 := by decide +kernel
theorem n9_one : cntN 1 = 1 ∧ cntL 1 = 0 ∧ cntE 1 = 0 := by decide +kernel
theorem n9_read : crE (zerosU 8) = 8 ∧ crL (zerosU 8) = [] := by decide +kernel
theorem n9_w1 : WfE [(130, 1)] := by unfold WfE InI InU; decide
theorem n9_w0 : WfE [(0, 0)] := by unfold WfE InI InU; decide
theorem n9_wn : WfE [] := fun x hx => by cases hx
set_option maxRecDepth 100000 in
set_option maxHeartbeats 6400000 in
theorem commitNames_any (w : World) :
    Calls Try.prog 8 #[] w fun e w' => e = .returned (.bool true) ∧ Ext w w' := by
  have c1 := fun W => commitWord_any [] 256 none 0 W (Sl.nil_ W) n9_wn
  have c2 := fun W A c (h : Sl W A 1 c (fE [(130, 1)])) => commitWord_any [(130, 1)] 255 A c W h n9_w1
  have c3 := fun W A c (h : Sl W A 1 c (fE [(0, 0)])) => commitWord_any [(0, 0)] 256 A c W h n9_w0
  have c4 := fun W A c (h : Sl W A 33 c (fE (zerosE 33))) => commitWord_any (zerosE 33) 256 A c W h (wf_zerosE 33)
  have c5 := fun W => journal_any [] 256 none 0 W (Sl.nil_ W) n9_wn
  have c6 := fun W A c (h : Sl W A 1 c (fE [(130, 1)])) => journal_any [(130, 1)] 0 A c W h n9_w1
  have c7 := fun W A c (h : Sl W A 1 c (fE [(130, 1)])) => journal_any [(130, 1)] 256 A c W h n9_w1
  rw [n9_a, if_neg (by decide)] at c1
  rw [n9_b, if_neg (by decide)] at c2
  rw [n9_c, if_neg (by decide)] at c3
  rw [n9_d, if_neg (by decide)] at c4
  rw [n9_a, show jrL [] 256 = [] from by simp [jrL, n9_a]] at c5
  rw [n9_f, show jrL [(130, 1)] 0 = [] from by simp [jrL, n9_f]] at c6
  rw [n9_j, show jrL [(130, 1)] 256 = jwords [(130, 1)] from by simp [jrL, n9_j]] at c7
  obtain ⟨J, hJ, j8, j9, jl⟩ : ∃ J, jwords [(130, 1)] = J ∧ J[8]? = some 130 ∧ J[9]? = some 1 ∧ J.length = 10 := ⟨_, rfl, rfl, rfl, rfl⟩
  rw [hJ] at c7
  have c8 := fun W => count_any 18446744073709551584 W (by unfold InU; decide)
  have c9 := fun W => count_any 1 W (by unfold InU; decide)
  rw [n9_big.1, n9_big.2.1, n9_big.2.2] at c8
  rw [n9_one.1, n9_one.2.1, n9_one.2.2] at c9
  have c10 := fun W A c (h : Sl W A 8 c (fU (zerosU 8))) => commitRead_at (zerosU 8) 8 rfl A c W h (wf_zeros 8)
  rw [n9_read.1, n9_read.2] at c10
  have HC := Lib.hid (And.intro c8 (And.intro c9 c10))
  clear c8 c9 c10
  have HH := Lib.hid (And.intro c1 (And.intro c2 (And.intro c3 (And.intro c4 (And.intro c5 (And.intro c6 c7))))))
  have HJ := Lib.hid (And.intro j8 (And.intro j9 jl))
  clear c1 c2 c3 c4 c5 c6 c7 hJ j8 j9 jl
  go_enter Try.func8, Try.ntmps8
  go_wp2_with fail
  refine (HH.out.1 _).mono ?_
  rintro e w1 ⟨rfl, hx1⟩
  have hOne : Sl w1 (some ⟨w.heap.size, 0, none⟩) 1 1 (fE [(130, 1)]) := (Sl.lit' #[.int .i64 130, .int .u64 1] _ _ 1 rfl (by decide)).ext hx1
  have hX1 : Ext w w1 := Ext.trans ((Ext.refl w).alloc _) hx1
  go_wp2_with fail
  refine (HH.out.2.1 w1 _ _ hOne).mono ?_
  rintro e w2 ⟨rfl, hx2⟩
  go_wp2_with fail
  refine (HH.out.2.2.1 _ _ _ (Sl.lit' _ _ _ _ rfl (by decide))).mono ?_
  rintro e w3 ⟨rfl, hx3⟩
  have hX3 : Ext w1 w3 := (by repeat (first | assumption | exact Ext.refl _ | refine Ext.drewN ?_ _ | refine Ext.drew ?_ | refine Ext.alloc ?_ _ | refine Ext.trans ?_ (by assumption)))
  clear hx2 hx3
  go_wp2_with (at_make; refine wpList_zerosE rfl _ _ rfl 33 (by decide) _ _ _ _ rfl rfl rfl rfl (madeE 33) ?_; intro w4 hown4 hx4 hz4)
  refine (HH.out.2.2.2.1 w4 _ _ (own_sl hown4)).mono ?_
  rintro e w5 ⟨rfl, hx5⟩
  go_wp2_with fail
  refine (HH.out.2.2.2.2.1 w5).mono ?_
  rintro e w6 ⟨A6, c6, rfl, hA6, hx6⟩
  have hX6 : Ext w1 w6 := (by repeat (first | assumption | exact Ext.refl _ | refine Ext.drewN ?_ _ | refine Ext.drew ?_ | refine Ext.alloc ?_ _ | refine Ext.trans ?_ (by assumption)))
  go_wp2_with fail
  refine (HH.out.2.2.2.2.2.1 w6 _ _ (hOne.ext hX6)).mono ?_
  rintro e w7 ⟨A7, c7, rfl, hA7, hx7⟩
  have hX7 : Ext w w7 := hX1.trans (hX6.trans hx7)
  have hOne7 := hOne.ext (hX6.trans hx7)
  clear hX3 hx4 hx5 hx6 hx7 hX6 hown4 hz4 hA6 hA7 hx1 hOne
  go_wp2_with fail
  go_loopw [16] (fun i wr => ∃ k : Nat, k ≤ 5 ∧ i = .int .i64 k ∧ Sl wr (some ⟨w7.heap.size, 0, none⟩) 5 5 (fU n9w) ∧ Sl wr (some ⟨w7.heap.size + 1, 0, none⟩) 5 5 (fI n9e) ∧ Ext w7 wr) (fun i _ => 5 - (intOf i).toNat)
  case atStart => exact ⟨0, by omega, rfl, (Sl.lit' _ _ _ _ rfl (by decide)).alloc _, Sl.lit' _ _ _ _ (by simp) (by decide), ((Ext.refl w7).alloc _).alloc _⟩
  case round =>
    obtain ⟨k, hk, rfl, hS, hE, hx8⟩ := hrel
    by_cases hlt : k < 5
    · obtain ⟨ad, x, had, hx, g1⟩ := hS.u_at (k := k) hlt
      injection had with had
      subst had
      obtain ⟨ad, y, had, hy, g2⟩ := hE.i_at (k := k) hlt
      injection had with had
      subst had
      obtain ⟨hce, hin⟩ := n9_loop k x y hx hy
      have hce' : (cntE x != y) = false := by rw [hce]; simp
      simp only [Addr.add_lit, Nat.zero_add] at g1 g2
      clear hx hy hce
      go_wp2_with fail
      refine (count_any x _ hin).mono ?_
      rintro e w8 ⟨rfl, rfl⟩
      go_wp2_with fail
      go_roundw
      case rel => exact ⟨k + 1, by omega, by go_num, hS, hE, hx8⟩
      case measure => simp [intOf]; omega
    · obtain rfl : k = 5 := by omega
      have hX8 : Ext w wr := hX7.trans hx8
      have hOne8 := hOne7.ext hx8
      clear hS hE hx8 hX7 hOne7
      go_wp2_with fail
      refine (HC.out.1 _).mono ?_
      rintro e w8 ⟨rfl, rfl⟩
      go_wp2_with fail
      refine (HC.out.2.1 _).mono ?_
      rintro e w8 ⟨rfl, rfl⟩
      go_wp2_with (at_make; refine wpList_zeros rfl _ _ rfl 8 (by decide) _ _ _ _ rfl rfl rfl rfl ?_; intro w9 hown9 hx9 hz9)
      refine (HC.out.2.2 w9 _ _ (own_sl hown9)).mono ?_
      rintro e w10 ⟨A10, c10, rfl, hA10, hx10⟩
      have hX10 := hx9.trans hx10
      clear hown9 hz9 hx9 hx10
      go_wp2_with fail
      refine (HH.out.2.2.2.2.2.2 w10 _ _ (hOne8.ext hX10)).mono ?_
      rintro e w11 ⟨A11, c11, rfl, hA11, hx11⟩
      obtain ⟨ad, x, rfl, hx, g8⟩ := hA11.u_at (k := 8) (by rw [HJ.out.2.2]; decide)
      obtain ⟨ad', y, had, hy, g9⟩ := hA11.u_at (k := 9) (by rw [HJ.out.2.2]; decide)
      injection had with had
      subst had
      rw [HJ.out.1] at hx
      rw [HJ.out.2.1] at hy
      injection hx with hx
      injection hy with hy
      subst hx hy
      rw [HJ.out.2.2] at hA11 ⊢
      rw [add_lit_ ad 7] at g8
      rw [add_lit_ ad 8] at g9
      go_wp2_with fail
      refine (alive09_any _).mono ?_
      rintro e w12 ⟨rfl, hx12⟩
      go_wp2_with fail
      go_ret
      exact ⟨rfl, hX8.trans (hX10.trans (hx11.trans hx12))⟩
set_option maxRecDepth 100000 in
theorem commitNames_lifted (os : Os) (started : os.Started) (H : Type) (enc : TypeId × Value → H) :
    ReturnsInHanded {} Try.checked os 8 .any (Rows.commitNamesSpec.pre6 enc Try.prog Try.f8 Rows.commitNamesRow.domain false) (Rows.commitNamesSpec.post enc Try.prog Try.f8 false true false false) := by
  refine returnsInHanded_of_change (C := Try.checked) own_knob started (by kernel_rfl) Try.func8
    (ChangeSpec.witness6 (enc := enc) (C := Try.checked) false ⟨#[], #[], []⟩ 8 (by kernel_rfl) (by kernel_rfl) (by kernel_rfl) (by kernel_rfl)) ?_
  intro W base args ds gs before hval0 hW hcnd _
  have hval : ∀ (j : Nat) t v, Try.f8.params[j]? = some t → args[j]? = some v → Value.okWide Try.prog W .any base t v := hval0
  have hW' := hW
  obtain ⟨p, q, hA0, hV, rfl, hfz, hnd⟩ := hW
  have hA : DataW.TrodAll enc Try.prog W 0 (fun _ => true) true Try.f8.params.toList args.toList ds p := hA0
  rw [Try.params8] at hA hval
  obtain ⟨rfl, rfl, rfl⟩ := trodAll_none hA
  obtain ⟨rfl, rfl⟩ := trodVars_none hV
  clear hA0 hval0 hval hA
  refine (commitNames_any W).mono fun e W' ⟨he, hx⟩ => ?_
  subst he
  exact ⟨_, rfl, post_law laid_out (by kernel_rfl) hW' rfl rfl rfl Try.underlying4 hx⟩
theorem commitNames_holds : Rows.CommitNamesSaid :=
  OpenClaim.holds_of_wide 8 Try.f8 rfl rfl rfl rfl rfl rfl rfl ⟨rfl, rfl, rfl, rfl, rfl⟩ rfl rfl rfl rfl rfl (by kernel_rfl) Try.func8 (by kernel_rfl)
    (of_decide_eq_true (by kernel_rfl)) (by unfold Func.isWrapper; first | (rw [if_pos (by decide +kernel)]; kernel_rfl) | (rw [if_neg (by decide +kernel)]; exact ⟨rfl, rfl⟩))
    (fun os started H enc _ => commitNames_lifted os started H enc)
end Go.Proofs.Ytlhlnenpgcndkaa
