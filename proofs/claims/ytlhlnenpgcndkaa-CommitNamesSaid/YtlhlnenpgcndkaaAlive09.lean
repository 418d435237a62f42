/-
  The chapter's examples on commit words hold.
-/
import Derived.Test.YtlhlnenpgcndkaaJour
import Derived.Test.YtlhlnenpgcndkaaDev
namespace Go.Proofs.Ytlhlnenpgcndkaa
open Go.RowKit
theorem ex9_1 : crE (zerosU 256) = 0 ∧ crL (zerosU 256) = [] := by decide +kernel
theorem ex9_2 : cwE [(130, 1), (131, 2)] 256 = 0 ∧ cword [(130, 1), (131, 2)] % 64 = 2 := by decide +kernel
theorem ex9_3 : crE ((zerosU 256).set 24 2) = 50 ∧ crL ((zerosU 256).set 24 2) = [] := by decide +kernel
theorem commitRead_at (m : List Int) (n : Nat) (hn : m.length = n) (A : Option Addr) (c : Nat) (w : World) (hA : Sl w A n c (fU m)) (wf : WfU m) :
    Calls Try.prog 29 #[.slice A n c] w (RetE w (crL m) (crE m)) := by
  subst hn
  exact commitRead_any m A c w hA wf
theorem own_sl {w : World} {base : Nat} {e : TypeId} {size : Nat} {A : Option Addr} {c n : Nat} {xs : List Value} (h : w.ownsRow base e size (.slice A n c) n xs) : Sl w A n c xs := by
  obtain ⟨A', c', hv, hs⟩ := Sl.of_own h
  injection hv with h1 h2 h3
  subst h1 h3
  exact hs
set_option maxRecDepth 100000 in
set_option maxHeartbeats 1600000 in
theorem alive09_any (w : World) :
    Calls Try.prog 32 #[] w fun e w' => e = .returned (.bool true) ∧ Ext w w' := by
  obtain ⟨C, hC⟩ : ∃ C, cword [(130, 1), (131, 2)] = C := ⟨_, rfl⟩
  have hCi := cword_in (l := [(130, 1), (131, 2)]) (by decide)
  have hC2 := ex9_2.2
  have hcw := fun W A c (h : Sl W A 2 c (fE [(130, 1), (131, 2)])) => commitWord_any [(130, 1), (131, 2)] 256 A c W h (by unfold WfE InI InU; decide)
  rw [ex9_2.1, if_pos rfl] at hcw
  rw [hC] at hCi hC2 hcw
  have ha := and63 C hCi
  rw [hC2] at ha
  have HH := Lib.hid hcw
  clear hcw hC hC2
  go_enter Try.func32, Try.ntmps32
  go_wp2_with (at_make; refine wpList_zeros rfl _ _ rfl 256 (by decide) _ _ _ _ rfl rfl rfl rfl ?_; intro w1 hown hx1 hz1)
  refine (commitRead_at (zerosU 256) 256 rfl _ _ w1 (own_sl hown) (wf_zeros _)).mono ?_
  rintro e w2 ⟨A2, c2, rfl, hA2, hx2⟩
  rw [ex9_1.1, ex9_1.2] at *
  go_wp2_with fail
  refine (HH.out _ _ _ (Sl.lit' _ _ _ _ (by simp) (by decide))).mono ?_
  rintro e w3 ⟨rfl, hx3⟩
  have hX : Ext w1 w3 := Ext.trans (hx2.alloc _) hx3
  have hown3 := own_ext hown hX
  obtain ⟨y, hy, hcl, hfz⟩ := own_at_U hown3 (i := 24) (by decide)
  have hown4 := own_set_U hown3 24 2
  have hx4 : Ext w (w3.setCell ⟨w.heap.size, 24, none⟩ (.int .u64 2)) := (hx1.trans hX).setCell (Nat.le_refl _) _
  clear hy
  go_wp2_with fail
  refine (commitRead_at ((zerosU 256).set 24 2) 256 rfl _ _ _ (own_sl hown4) (wfU_set (wf_zeros _) (by unfold InU; decide))).mono ?_
  rintro e w5 ⟨A5, c5, rfl, hA5, hx5⟩
  rw [ex9_3.1, ex9_3.2] at *
  go_wp2_with fail
  go_ret
  exact ⟨rfl, hx4.trans hx5⟩
end Go.Proofs.Ytlhlnenpgcndkaa
