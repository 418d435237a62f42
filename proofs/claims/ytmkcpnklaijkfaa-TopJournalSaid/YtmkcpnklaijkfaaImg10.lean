/-
  The contracts of replaying an image.
-/
import Derived.Test.YtmkcpnklaijkfaaGE
import Derived.Test.YtmkcpnklaijkfaaGB
namespace Go.Proofs.Ytmkcpnklaijkfaa
open Go.RowKit
/-- An image after replaying; what the call gives. -/
def imgX (m : List Int) : List Int := (applied m (crL m)).set 24 0
def imgL (m : List Int) : List Int := if crE m = 0 then imgX m else []
theorem cr_ok {m : List Int} (h : crE m = 0) : sizeB m.length = true ∧ chkE (crL m) m.length = 0 := by
  unfold crE at h
  split at h
  · rename_i hs
    refine ⟨hs, ?_⟩
    split at h
    · unfold crL
      split
      · rename_i hb
        have := hb.2
        unfold crB at this
        simp only [Bool.and_eq_true, decide_eq_true_eq] at this
        exact this.1.2
      · simp [chkE, hs, okFrom]
    · cases h
  · cases h
theorem crL_wf {m : List Int} (wf : WfU m) (h : crE m = 0) : WfE (crL m) := by
  obtain ⟨hs, _⟩ := cr_ok h
  have := sizeB_bd hs
  unfold crL
  split
  · exact jnl_wf wf (by omega) _
  · intro x hx; cases hx
theorem imgX_length (m : List Int) : (imgX m).length = m.length := by simp [imgX, applied_length]
theorem imgX_wf {m : List Int} (wf : WfU m) (h : crE m = 0) : WfU (imgX m) := wfU_set (wfU_applied (crL_wf wf h) wf) (by unfold InU; decide)
theorem retU_own {w0 w' : World} {l : List Int} {n : Nat} {er : Int} {A : Option Addr} {c : Nat} {base : Nat} {e : TypeId} (hn : l.length = n) (hs : w'.ownsRow base e 1 (.slice A n c) n (fU l)) (hx : Ext w0 w') : RetU w0 l er (.returned (.tuple #[.slice A n c, .int .i64 er])) w' := retU_at hn (own_sl hs) hx
set_option maxRecDepth 100000 in
set_option maxHeartbeats 3200000 in
theorem image10_any (m : List Int) (A : Option Addr) (c : Nat) (w : World) (hA : Sl w A m.length c (fU m)) (wf : WfU m) :
    Calls Try.prog 33 #[.slice A m.length c] w (RetU w (imgL m) (crE m)) := by
  have h1 := fun A c W (ha : Sl W A m.length c (fU m)) => commitRead_any m A c W ha wf
  by_cases h0 : crE m = 0
  · obtain ⟨hs, hk⟩ := cr_ok h0
    have hsz := sizeB_bd hs
    have hwl := crL_wf wf h0
    have hv : imgL m = (applied m (crL m)).set 24 0 := by simp [imgL, h0, imgX]
    have h2 : ∀ A c B d W, Sl W A m.length c (fU m) → Sl W B (crL m).length d (fE (crL m)) → Calls Try.prog 45 #[.slice A m.length c, .slice B (crL m).length d] W (RetU W (applied m (crL m)) 0) := fun A c B d W ha hb => by
      have := (entryApply_any m (crL m) A c B d W ha hb hwl).mono fun _ _ h => h.toU (applied_length ..)
      rw [if_pos hs, hk, selL_ok rfl] at this
      exact this
    rw [h0] at h1
    have hxl := applied_length (crL m) m
    rw [hv, h0]
    obtain ⟨l, hl⟩ : ∃ l, crL m = l := ⟨_, rfl⟩
    rw [hl] at h1 h2 hxl ⊢
    obtain ⟨x, hx⟩ : ∃ x, applied m l = x := ⟨_, rfl⟩
    rw [hx] at h2 hxl ⊢
    obtain ⟨i, z, hi, hz, hsize, hby, hzs⟩ := EU.inf
    have HH := Lib.hid (And.intro h1 h2)
    have hxn : 24 < x.length := by omega
    have hxm : x.length ≤ 2048 := by omega
    clear h1 h2 hx hl hwl hk hs hv hxl
    go_enter Try.func33, Try.ntmps33
    go_wp2_with fail
    refine (HH.out.1 A c w hA).mono ?_
    rintro e w1 ⟨B1, d1, rfl, hB1, hx1⟩
    go_wp2_with fail
    refine (HH.out.2 A c B1 d1 w1 (hA.ext hx1) hB1).mono ?_
    rintro e w2 ⟨A2, c2, rfl, hA2, hx2⟩
    have hX2 := hx1.trans hx2
    go_wp2_with (first
      | (at_make; refine wpList_make_full _ rfl _ _ _ rfl w2.heap.size 24 i z 1 EU.und hi hz hsize _ _ _ _ x.length rfl rfl rfl rfl (by rw [hby]; omega) (by unfold maxLen; omega) (Nat.le_refl _) ?_; intro w3 hown hgr)
      | ((with_reducible refine wpList_copyU EU rfl (.tmp 28) (.tmp 29) _ rfl hown rfl rfl (hA2.ext ((Ext.refl w2).grown hgr (by simp))) 0 (by simp) (Nat.le_refl _) (fun _ => rfl) (by omega) (fU_one x) (Nat.le_refl _) ?_); intro w4 hown2 hbel2; rw [splice_all _ _ (by rw [hown.1]; simp)] at hown2; obtain ⟨y, hy, c0, cf⟩ := own_at_U hown2 (i := 24) hxn; clear hy; have hgl := block_lt_of_cell c0))
    go_ret2
    have hX4 : Ext w w4 := hX2.trans (Below.trans ((Ext.refl w2).grown hgr (by simp)) hbel2)
    exact retU_own (List.length_set ..) (own_set_U hown2 24 0) (hX4.setCell (p := ⟨w2.heap.size, 24, none⟩) hX2.size _)
  · have hv : imgL m = [] := by simp [imgL, h0]
    rw [hv]
    obtain ⟨er, he⟩ : ∃ er, crE m = er := ⟨_, rfl⟩
    rw [he] at h0 h1 ⊢
    have hb : (er != 0) = true := by simpa using h0
    have HH := Lib.hid h1
    clear h0 h1 hv he
    go_enter Try.func33, Try.ntmps33
    go_wp2_with fail
    refine (HH.out A c w hA).mono ?_
    rintro e w1 ⟨B1, d1, rfl, hB1, hx1⟩
    go_wp2_with fail
    go_ret2
    exact retU_nil hx1
set_option maxRecDepth 100000 in
set_option maxHeartbeats 3200000 in
theorem refImage10_any (m : List Int) (A : Option Addr) (c : Nat) (w : World) (hA : Sl w A m.length c (fU m)) (wf : WfU m) :
    Calls Try.prog 41 #[.slice A m.length c] w (RetU w (imgL m) (crE m)) := by
  have h1 := fun A c W (ha : Sl W A m.length c (fU m)) => refCRead_any m A c W ha wf
  by_cases h0 : crE m = 0
  · obtain ⟨hs, hk⟩ := cr_ok h0
    have hsz := sizeB_bd hs
    have hv : imgL m = (applied m (crL m)).set 24 0 := by simp [imgL, h0, imgX]
    have h2 := fun A c B d W (ha : Sl W A m.length c (fU m)) (hb : Sl W B (crL m).length d (fE (crL m))) => refApplied_any m (crL m) A c B d W ha hb (by omega) (by omega) (chk_range hk)
    rw [h0] at h1
    rw [hv, h0]
    have hxl := applied_length (crL m) m
    obtain ⟨l, hl⟩ : ∃ l, crL m = l := ⟨_, rfl⟩
    rw [hl] at h1 h2 hxl ⊢
    obtain ⟨x, hx⟩ : ∃ x, applied m l = x := ⟨_, rfl⟩
    rw [hx] at h2 hxl ⊢
    have HH := Lib.hid (And.intro h1 (And.intro h2 hxl))
    clear h1 h2 hx hl hk hs hv hxl
    go_enter Try.func41, Try.ntmps41
    go_wp2_with fail
    refine (HH.out.1 A c w hA).mono ?_
    rintro e w1 ⟨B1, d1, rfl, hB1, hx1⟩
    go_wp2_with fail
    refine (HH.out.2.1 A c B1 d1 w1 (hA.ext hx1) hB1).mono ?_
    rintro e w2 ⟨A2, c2, rfl, hown, hA2, hx2⟩
    have hX2 := hx1.trans hx2
    obtain ⟨g, rfl, hg⟩ := own_head hown (by omega)
    obtain ⟨y, hy, c0, cf⟩ := own_at_U hown (i := 24) (by rw [HH.out.2.2]; omega)
    have hgl := block_lt_of_cell c0
    have hg2 := Nat.le_trans hx1.size hg
    clear hy
    go_wp2_with fail
    go_ret2
    exact retU_own (by simp [HH.out.2.2]) (own_set_U hown 24 0) (hX2.setCell (p := ⟨g, 24, none⟩) hg2 _)
  · have hv : imgL m = [] := by simp [imgL, h0]
    rw [hv]
    obtain ⟨er, he⟩ : ∃ er, crE m = er := ⟨_, rfl⟩
    rw [he] at h0 h1 ⊢
    have hb : (er != 0) = true := by simpa using h0
    have HH := Lib.hid h1
    clear h0 h1 hv he
    go_enter Try.func41, Try.ntmps41
    go_wp2_with fail
    refine (HH.out A c w hA).mono ?_
    rintro e w1 ⟨B1, d1, rfl, hB1, hx1⟩
    go_wp2_with fail
    go_ret2
    exact retU_nil hx1
end Go.Proofs.Ytmkcpnklaijkfaa
