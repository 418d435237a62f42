/-
  EntryOrder where there is a change and an index: the walk.
-/
import Derived.Test.YthnonfmaamchkaaCut
import Derived.Test.YthnonfmaamchkaaAt
import Derived.Test.YthnonfmaamchkaaAlive08
namespace Go.Proofs.Ythnonfmaamchkaa
open Go.RowKit

set_option maxHeartbeats 1600000 in
theorem entryOrder_main (m : List Int) (l : List (Int × Int)) (t : Nat) (A : Option Addr) (c : Nat) (B : Option Addr) (d : Nat) (w : World) (hA : Sl w A m.length c (fU m)) (hB : Sl w B l.length d (fE l)) (wf : WfE l)
    (hs : sizeB (m.length : Int) = true) (h0 : chkE l m.length = 0) (htl : t ≤ l.length) :
    Calls Try.prog 5 #[.slice A m.length c, .slice B l.length d, .int .i64 (t : Int)] w fun e w' => e = .returned (.bool true) ∧ Ext w w' := by
  have hBle := hB.le
  have hBmax := hB.max
  unfold maxLen at hBmax
  have hi : imgE (m.length : Int) = 0 := by simp [imgE, hs]
  have h1 : 0 ≤ (t : Int) := by omega
  have h2 : (t : Int) ≤ l.length := by omega
  go_enter Try.func5, Try.ntmps5
  go_wp2_with fail
  refine (refCheck2_any _ _ _ _).mono ?_
  rintro e w1 ⟨rfl, rfl⟩
  go_wp2_with fail
  refine (refCheck8_any l _ B d w hB).mono ?_
  rintro e w1 ⟨rfl, hd1⟩
  have hB1 := hB.ext hd1.ext
  obtain ⟨D, hD⟩ : ∃ D, (if d = t then B else B.map (·.add (t * 2))) = D := ⟨_, rfl⟩
  have hcut : Sl (w1.alloc (.cells #[] 33)).drew D (l.length - t) (d - t) (fE (l.drop t)) := by
    have := ((hB1.e_drop htl).alloc (.cells #[] 33)).drew
    rwa [hD, List.length_drop] at this
  have hpre : Sl w1 B t d (fE (l.take t)) := by
    have := hB1.e_take htl
    rwa [List.length_take, Nat.min_eq_left htl] at this
  have hl1 : (fE (l.drop t)).length = (l.length - t) * 2 := by rw [fE_length, List.length_drop]
  have hl2 : (fE (l.take t)).length = t * 2 := by rw [fE_length, List.length_take, Nat.min_eq_left htl]
  have hl3 := (chk_small h0).2
  have htd : t ≤ d := by omega
  have HL1 := Lib.hid hl1; have HL2 := Lib.hid hl2; have H0 := Lib.hid h0
  clear hl1 hl2
  go_wp2_with fail
  clear h0
  go_region_law (first
    | (refine step_app EE rfl (.tmp 37) (.tmp 40) rfl rfl (own_lit (w := w1) (base := w1.heap.size) (e := 33) (size := 2) #[] _ 0 rfl (Nat.le_refl _) (by decide) rfl).drew rfl hcut HL1.out (fE_one _) (by omega) (by simp) ?_; intro v1 w2 hown1 hbel1 _ _)
    | (refine step_app EE rfl (.tmp 41) (.tmp 44) rfl rfl hown1 rfl (hpre.ext (Below.trans ((Ext.refl w1).alloc _).drew hbel1)) HL2.out (fE_one _) (by omega) (by have := hbel1.size; simp at this; omega) ?_; intro v2 w3 hown2 hbel2 _ _))
  have hX3 : Ext w1 w3 := Below.trans (Below.trans ((Ext.refl w1).alloc _).drew hbel1) hbel2
  have hXX := hd1.ext.trans hX3
  obtain ⟨T, hTl, hperm, hTx, hown3⟩ : ∃ T : List (Int × Int), T.length = l.length ∧ T.Perm l ∧ applied m l = applied m T ∧ w3.ownsRow w1.heap.size 33 2 v2 l.length (fE T) := by
    have hperm : (l.drop t ++ l.take t).Perm l := List.perm_append_comm.trans (by rw [List.take_append_drop])
    refine ⟨l.drop t ++ l.take t, hperm.length_eq, hperm, applied_perm H0.out hperm.symm m, ?_⟩
    rw [fE_append]
    simpa [Nat.sub_add_cancel htl] using hown2
  have wf2 : WfE T := fun x hx => wf x (hperm.mem_iff.1 hx)
  have hTk : chkE T m.length = 0 := chk_perm H0.out hperm
  obtain ⟨P, hPl, hPw, hPs, hPk, hPx⟩ : ∃ P : List (Int × Int), P.length = t ∧ WfE P ∧ Sl w1 B t d (fE P) ∧ chkE P m.length = 0 ∧ P = l.take t :=
    ⟨l.take t, by simp; omega, fun x hx => wf x (List.mem_of_mem_take hx), hpre, chk_sub H0.out (List.take_sublist t l), rfl⟩
  obtain ⟨R, hRl, hRw, hRs, hRk, hRx⟩ : ∃ R : List (Int × Int), R.length = l.length - t ∧ WfE R ∧ Sl w1 D (l.length - t) (d - t) (fE R) ∧ chkE R m.length = 0 ∧ R = l.drop t :=
    ⟨l.drop t, by simp, fun x hx => wf x (List.mem_of_mem_drop hx), by have := hB1.e_drop htl; rwa [hD, List.length_drop] at this, chk_sub H0.out (List.drop_sublist t l), rfl⟩
  have hXR : applied m l = applied (applied m P) R := by rw [← applied_append, hPx, hRx, List.take_append_drop]
  obtain ⟨A2, c2, hv, hs2⟩ := Sl.of_own hown3
  subst hv
  have HH := Lib.hid (And.intro hTl (And.intro hTx (And.intro hTk (And.intro hPl (And.intro hPk (And.intro hRl (And.intro hRk hXR)))))))
  have HW := Lib.hid (And.intro wf2 (And.intro hPw hRw))
  clear hown1 hown2 hbel1 hbel2 hcut hpre hown3 hperm hTl hTx wf2 hTk hPl hPw hPk hPx hRl hRw hRk hRx hXR
  go_wp2_with fail
  refine (entryApply_any m l A c B d w3 (hA.ext hXX) (hB.ext hXX) wf).mono ?_
  rintro e w4 (⟨_, A4, c4, rfl, _, hA4, hx4⟩ | ⟨hne, _⟩)
  case inr => exact absurd (by rw [if_pos hs]; exact H0.out) hne
  go_wp2_with fail
  refine (entryApply_at m T _ _ rfl HH.out.1 A c A2 c2 w4 (hA.ext (hXX.trans hx4)) (hs2.ext hx4) HW.out.1).mono ?_
  rintro e w5 (⟨_, A5, c5, rfl, _, hA5, hx5⟩ | ⟨hne, _⟩)
  case inr => exact absurd (by rw [if_pos hs]; exact HH.out.2.2.1) hne
  go_wp2_with fail
  refine (entryApply_at m P _ _ rfl HH.out.2.2.2.1 A c B d w5 (hA.ext (hXX.trans (hx4.trans hx5))) (hPs.ext (hX3.trans (hx4.trans hx5))) HW.out.2.1).mono ?_
  rintro e w6 (⟨_, A6, c6, rfl, _, hA6, hx6⟩ | ⟨hne, _⟩)
  case inr => exact absurd (by rw [if_pos hs]; exact HH.out.2.2.2.2.1) hne
  go_wp2_with fail
  refine (entryApply_at (applied m P) R _ _ (applied_length _ _) HH.out.2.2.2.2.2.1 A6 c6 _ _ w6 hA6 (hRs.ext (hX3.trans (hx4.trans (hx5.trans hx6)))) HW.out.2.2).mono ?_
  rintro e w7 (⟨_, A7, c7, rfl, _, hA7, hx7⟩ | ⟨hne, _⟩)
  case inr => exact absurd (by rw [if_pos hs]; exact HH.out.2.2.2.2.2.2.1) hne
  go_wp2_with fail
  refine (same2_at_yes (applied m l) (applied m T) HH.out.2.1 _ _ (applied_length _ _) (applied_length _ _) _ _ _ _ w7 (hA4.ext (hx5.trans (hx6.trans hx7))) (hA5.ext (hx6.trans hx7))).mono ?_
  rintro e w8 ⟨rfl, hd8⟩
  go_wp2_with fail
  refine (same2_at_yes (applied m l) (applied (applied m P) R) HH.out.2.2.2.2.2.2.2 _ _ (applied_length _ _) (by rw [applied_length, applied_length]) _ _ _ _ w8 (hA4.ext (hx5.trans (hx6.trans (hx7.trans hd8.ext)))) (hA7.ext hd8.ext)).mono ?_
  rintro e w9 ⟨rfl, hd9⟩
  have hx9 := hx4.trans (hx5.trans (hx6.trans (hx7.trans (hd8.ext.trans hd9.ext))))
  have hw9 := hXX.trans hx9
  have hT9 : Sl w9 A2 T.length c2 (fE T) := by rw [HH.out.1]; exact hs2.ext hx9
  have hck := entryCheck_any T m.length A2 c2 w9 hT9 HW.out.1
  rw [HH.out.1] at hck
  have HK := Lib.hid hck; have HX := Lib.hid hw9; have HT := Lib.hid HH.out.2.2.1
  clear hck hT9 hs2 hA4 hA5 hA6 hA7 hRs hPs hx4 hx5 hx6 hx7 hx9 hd8 hd9 hXX hX3 hd1 hw9 hA hB hB1
  go_wp2_with fail
  refine HK.out.mono ?_
  rintro e w10 ⟨rfl, hx10⟩
  have hck0 := HT.out
  go_wp2_with fail
  refine (alive08_any _).mono ?_
  rintro e w11 ⟨rfl, hx11⟩
  go_wp2_with fail
  go_ret
  exact ⟨rfl, HX.out.trans (hx10.trans hx11)⟩
end Go.Proofs.Ythnonfmaamchkaa
