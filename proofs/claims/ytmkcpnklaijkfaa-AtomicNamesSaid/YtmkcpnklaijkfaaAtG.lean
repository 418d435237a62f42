/-
  Facts that the laws of chapter 12 share.
-/
import Derived.Test.YtmkcpnklaijkfaaAtB
namespace Go.Proofs.Ytmkcpnklaijkfaa
open Go.RowKit
theorem Crs.all {x l : List _} {n : Int} {left : Nat} {mask : Int} {z : List Int} (h : Crs x l left mask z) (hk : chkE l n = 0) (hl : chN l ≤ left) : Out (imgL z) (applied x l) := by
  by_cases hn : l.length = 0
  · have hl0 : l = [] := List.length_eq_zero_iff.1 hn
    subst hl0
    exact h.either.elim id id
  · refine h.done ?_
    unfold chN chAll at hl
    rw [if_neg hn, ch_len (chk_iff.1 hk).2.1] at hl
    omega
section
variable {m : List Int} {l : List (Int × Int)}
theorem cl_len (m : List Int) : (m.set 24 0).length = m.length := List.length_set ..
theorem cl_24 (hs : sizeB m.length = true) : (m.set 24 0)[24]? = some 0 := by
  have := sizeB_bd hs
  rw [List.getElem?_set_self (by omega)]
theorem cl_chk (hk : chkE l m.length = 0) : chkE l (m.set 24 0).length = 0 := by rw [cl_len]; exact hk
theorem cl_wf (wm : WfU m) : WfU (m.set 24 0) := wfU_set wm (by unfold InU; decide)
end
theorem apply_ok {m : List Int} {l : List (Int × Int)} (hk : chkE l m.length = 0) (wf : WfE l) (A : Option Addr) (c : Nat) (B : Option Addr) (d : Nat) (w : World) (hA : Sl w A m.length c (fU m)) (hB : Sl w B l.length d (fE l)) :
    Calls Try.prog 45 #[.slice A m.length c, .slice B l.length d] w (RetU w (applied m l) 0) := by
  have := (entryApply_any m l A c B d w hA hB wf).mono fun _ _ h => h.toU (applied_length ..)
  rw [if_pos (chk_iff.1 hk).1, hk, selL_ok rfl] at this
  exact this
theorem outside_at {a b : List Int} (hl : b.length = a.length) (h128 : 128 ≤ a.length) (ha : a[24]? = some 0) (hb : b[24]? = some 0) (A : Option Addr) (c : Nat) (B : Option Addr) (d : Nat) (w : World) (hA : Sl w A a.length c (fU a)) (hB : Sl w B b.length d (fU b)) :
    Calls Try.prog 63 #[.slice A a.length c, .slice B b.length d] w fun e w' => e = .returned (.bool (outB a b)) ∧ Ext w w' := by
  rw [hl] at hB ⊢
  exact outside_any rfl hl h128 ha hb A c B d w hA hB
end Go.Proofs.Ytmkcpnklaijkfaa
