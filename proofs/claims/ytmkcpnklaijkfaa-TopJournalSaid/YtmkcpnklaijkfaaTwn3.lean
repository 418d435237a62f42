/-
  twin.View on an image of the right size.
-/
import Derived.Test.YtmkcpnklaijkfaaTwn2
import Derived.Test.YtmkcpnklaijkfaaGA
namespace Go.Proofs.Ytmkcpnklaijkfaa
open Go.RowKit
theorem fU_splice' (m : List Int) (i : Nat) (l : List Int) : fU (splice m i l) = splice (fU m) i (fU l) := by simp [fU, splice, List.map_append, List.map_take, List.map_drop]
theorem rtS_sup {m : List Int} {k : Nat} (h : rtS m k = true) : supB (fnS m k 2) (fnS m k 3) = true := by
  have h2 : supB (m.getD (k + 2) 0) (m.getD (k + 3) 0) = true := by
    unfold rtS rdS at h
    rw [Bool.and_eq_true] at h
    exact h.1
  simpa [fnS, h] using h2
theorem twF_sup {m : List Int} (h : twE m = 0) : supB (twF m 2) (twF m 3) = true := by
  cases h0 : rtB m 0 with
  | true =>
    have h1 : rtS m 0 = true := by rw [rtB, Bool.and_eq_true] at h0; exact h0.1
    simp only [twF, h0, if_true]
    exact rtS_sup h1
  | false =>
    cases h8 : rtB m 8 with
    | true =>
      have h1 : rtS m 8 = true := by rw [rtB, Bool.and_eq_true] at h8; exact h8.1
      simp only [twF, h0, h8, if_true, Bool.false_eq_true, if_false]
      exact rtS_sup h1
    | false => simp [twE, h0, h8] at h
/-- The image with the superblock at both places, behind k of the two. -/
def twC (m : List Int) (k : Nat) : List Int :=
  if k = 0 then m else if k = 1 then splice m 0 (supW (twF m 2) (twF m 3)) else splice (splice m 0 (supW (twF m 2) (twF m 3))) 8 (supW (twF m 2) (twF m 3))
set_option maxRecDepth 100000 in
set_option maxHeartbeats 12800000 in
theorem twView_any (m : List Int) (A : Option Addr) (c : Nat) (w : World) (hA : Sl w A m.length c (fU m)) (hs : sizeB m.length = true) :
    Calls Try.prog 32 #[.slice A m.length c] w fun e w' => (twE m = 0 ∧ (∃ g c, e = .returned (.tuple #[.slice (some ⟨g, 0, none⟩) m.length c, .int .i64 0]) ∧ Sl w' (some ⟨g, 0, none⟩) m.length c (fU (twC m 2))) ∧ Ext w w') ∨ (twE m = 50 ∧ e = .returned (.tuple #[.slice none 0 0, .int .i64 50]) ∧ Ext w w') := by
  have hsz := sizeB_bd hs
  have hrd := twRead_any m A c w hA hs
  have hix0 : ∀ w, (Instr.index 114 (.agg #[.int .i64 0, .int .i64 8]) (.int .i64 0)).run Try.prog w = .ok (.int .i64 0) w := fun w => by kernel_rfl
  have hix1 : ∀ w, (Instr.index 114 (.agg #[.int .i64 0, .int .i64 8]) (.int .i64 1)).run Try.prog w = .ok (.int .i64 8) w := fun w => by kernel_rfl
  have hsup := fun (h : twE m = 0) W => supWrite_any (twF m 2) (twF m 3) W
  have hok : ∀ h : twE m = 0, supB (twF m 2) (twF m 3) = true := twF_sup
  obtain ⟨a, ha⟩ : ∃ a, twF m 2 = a := ⟨_, rfl⟩
  obtain ⟨b, hb⟩ : ∃ b, twF m 3 = b := ⟨_, rfl⟩
  rw [ha, hb] at hrd hsup hok
  have HAB := Lib.hid (And.intro ha hb)
  clear ha hb
  by_cases h0 : twE m = 0
  · rw [h0] at hrd
    have HH := Lib.hid (And.intro hrd (And.intro (hsup h0) (And.intro (hok h0) h0)))
    clear hrd hsup hok h0
    go_enter Try.func32, Try.ntmps32
    go_wp2_with fail
    refine HH.out.1.mono ?_
    rintro e w1 ⟨rfl, hx⟩
    have HX := Lib.hid hx
    clear hx
    go_wp2_with fail
    refine (HH.out.2.1 _).mono ?_
    rintro e w2 (⟨_, ⟨gl, cl, rfl, hl, _⟩, hx2⟩ | ⟨hn, _, _⟩)
    rotate_left
    · have := HH.out.2.2.1
      rw [hn] at this
      cases this
    have hX := HX.out.trans (Ext.trans (((Ext.refl w1).alloc _).alloc _) hx2)
    clear HX hx2
    go_wp2_with fail
    refine (cloneU_any m A c _ (hA.ext hX) (by omega)).mono ?_
    rintro e w3 ⟨A3, c3, rfl, hown, -, hx3⟩
    obtain ⟨gO, rfl, hgO⟩ := own_head hown (by omega)
    have hle := (own_sl hown).le
    have hmx := (own_sl hown).max
    unfold maxLen at hmx
    have HL := Lib.hid (And.intro hl hX)
    clear hX hl
    go_wp2_with fail
    refine (twStarts_any _).mono ?_
    rintro e w4 ⟨rfl, hx4⟩
    have hown4 : w4.ownsRow w2.heap.size 24 1 (.slice (some ⟨gO, 0, none⟩) m.length c3) m.length (fU (twC m 0)) := own_ext hown hx4
    have HO := Lib.hid (And.intro hown4 (hx3.trans hx4))
    clear hown hown4 hx3 hx4
    go_wp2_with fail
    go_loopw [31] (fun v wr => ∃ k : Nat, k ≤ 2 ∧ v = .int .i64 k ∧ wr.ownsRow w2.heap.size 24 1 (.slice (some ⟨gO, 0, none⟩) m.length c3) m.length (fU (twC m k)) ∧ Ext w2 wr) (fun v _ => 2 - (intOf v).toNat)
    case atStart => exact ⟨0, by omega, rfl, HO.out⟩
    case round =>
      clear HO
      obtain ⟨k, hk, rfl, hown, hx⟩ := hrel
      have hl := HL.out.1.ext hx
      have hc8 : ¬ c3 = 8 := by omega
      rcases (by omega : k = 0 ∨ k = 1 ∨ k = 2) with rfl | rfl | rfl
      · rw [show ((0 : Nat) : Int) = 0 from rfl]
        go_wp2_with ((with_reducible refine wpList_copyU EU rfl (.tmp 36) (.tmp 37) _ rfl hown rfl rfl hl 0 rfl (by omega) (fun _ => rfl) (by omega) (fU_one _) hgO ?_); intro w5 hown5 hbel5)
        go_roundw
        case rel =>
          refine ⟨1, by omega, by go_num, ?_, Below.trans hx hbel5⟩
          have e : fU (twC m 1) = splice (fU (twC m 0)) 0 (fU (supW a b)) := by rw [← fU_splice', ← HAB.out.1, ← HAB.out.2]; rfl
          rw [e]; exact hown5
        case measure => simp [intOf]
      · rw [show ((1 : Nat) : Int) = 1 from rfl]
        go_wp2_with ((with_reducible refine wpList_copyU EU rfl (.tmp 36) (.tmp 37) _ rfl hown rfl rfl hl 8 rfl (by omega) (fun _ => by simp) (by omega) (fU_one _) hgO ?_); intro w5 hown5 hbel5)
        go_roundw
        case rel =>
          refine ⟨2, by omega, by go_num, ?_, Below.trans hx hbel5⟩
          have e : fU (twC m 2) = splice (fU (twC m 1)) 8 (fU (supW a b)) := by rw [← fU_splice', ← HAB.out.1, ← HAB.out.2]; rfl
          rw [e]; exact hown5
        case measure => simp [intOf]
      · rw [show ((2 : Nat) : Int) = 2 from rfl]
        have HF := Lib.hid (And.intro (own_sl hown) (HL.out.2.trans hx))
        clear hown hx hl
        go_wp2_with fail
        exact bodyPost_ret (v := .tuple #[.slice (some ⟨gO, 0, none⟩) m.length c3, .int .i64 0]) (by simp [results, Try.results32, go_sem]) rfl (.inl ⟨HH.out.2.2.2, ⟨_, _, rfl, HF.out.1⟩, HF.out.2⟩)
  · have h5 : twE m = 50 := by unfold twE at h0 ⊢; split; simp_all; rfl
    rw [h5] at hrd
    have HH := Lib.hid (And.intro hrd h5)
    clear hrd hsup hok h0 h5
    go_enter Try.func32, Try.ntmps32
    go_wp2_with fail
    refine HH.out.1.mono ?_
    rintro e w1 ⟨rfl, hx⟩
    go_wp2_with fail
    exact bodyPost_ret (v := .tuple #[.slice none 0 0, .int .i64 50]) (by simp [results, Try.results32, go_sem]) rfl (.inr ⟨HH.out.2, rfl, (hx.alloc _).alloc _⟩)
end Go.Proofs.Ytmkcpnklaijkfaa
