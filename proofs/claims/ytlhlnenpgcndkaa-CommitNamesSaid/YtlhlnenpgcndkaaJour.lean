/-
  The contracts of the words of the journal.
-/
import Derived.Test.YtlhlnenpgcndkaaRefC
import Derived.Test.YtlhlnenpgcndkaaMake
namespace Go.Proofs.Ytlhlnenpgcndkaa
open Go.RowKit
theorem jwords_length (l : List (Int × Int)) : (jwords l).length = 8 + 2 * l.length := by
  simp [jwords, listed_length]; omega
/-- What the journal's words are, and the error. -/
def jrL (l : List (Int × Int)) (words : Int) : List Int := if cwE l words = 0 then jwords l else []
theorem cwE_ok {l : List (Int × Int)} {words : Int} (h : cwE l words = 0) : chkE l words = 0 ∧ l.length ≠ 0 := by
  unfold cwE at h
  split at h
  · split at h
    · cases h
    · exact ⟨by assumption, by assumption⟩
  · rename_i h0; exact absurd h h0
set_option maxRecDepth 100000 in
set_option maxHeartbeats 1600000 in
theorem journal_any (l : List (Int × Int)) (words : Int) (A : Option Addr) (c : Nat) (w : World) (hA : Sl w A l.length c (fE l)) (wf : WfE l) :
    Calls Try.prog 24 #[.slice A l.length c, .int .i64 words] w (RetU w (jrL l words) (cwE l words)) := by
  by_cases h0 : cwE l words = 0
  · obtain ⟨hc, hn⟩ := cwE_ok h0
    have hl32 := (chk_iff.1 hc).2.1
    have hcw := fun W (h : Sl W A l.length c (fE l)) => commitWord_any l words A c W h wf
    rw [h0, if_pos rfl] at hcw
    have hr : jrL l words = jwords l := by simp [jrL, h0]
    rw [hr, h0]
    have hll := listed_length l
    obtain ⟨L, hL⟩ : ∃ L, jwords l = L := ⟨_, rfl⟩
    have hLl : L.length = 8 + 2 * l.length := by rw [← hL]; exact jwords_length l
    obtain ⟨C, hC⟩ : ∃ C, cword l = C := ⟨_, rfl⟩
    rw [hC] at hcw
    have HH := Lib.hid (And.intro hcw hc)
    have HL := Lib.hid (And.intro hL (And.intro hC (And.intro hLl hll)))
    rw [hL]
    clear hcw hr h0 hc hL hC hLl hll
    go_enter Try.func24, Try.ntmps24
    go_wp2_with fail
    refine (HH.out.1 _ hA).mono ?_
    rintro e w1 ⟨rfl, hx1⟩
    go_wp2_with (at_make; refine wpList_zeros rfl _ _ rfl 8 (by decide) _ _ _ _ rfl rfl rfl rfl ?_; intro w2 hown hx2 hz2; obtain ⟨y, hy, hcl, hfz⟩ := own_at_U hown (i := 0) (by decide); clear hy)
    have hown3 := own_set_U hown 0 C
    have hx3 : Ext w (w2.setCell ⟨w1.heap.size, 0, none⟩ (.int .u64 C)) := (hx1.trans hx2).setCell hx1.size _
    refine (entryWords_any l words A c _ (hA.ext hx3) wf).mono ?_
    rintro e w4 (⟨_, A4, c4, rfl, _, hA4, hx4⟩ | ⟨hne, _⟩)
    case inr => exact absurd HH.out.2 hne
    have hown4 := own_base (own_ext hown3 hx4) hx1.size
    have hX : Ext w w4 := hx3.trans hx4
    have hsz := hX.size
    clear hown hown3 hcl hfz
    go_wp2_with (at_builtin; refine wpList_app EU rfl (.tmp 29) (.tmp 30) rfl rfl hown4 rfl hA4 (by rw [fU_length]; have := HL.out.2.2.2; omega) (fU_one _) (by omega) hsz ?_; intro v' w5 hown5 hbel hat hgr)
    obtain ⟨A5, c5, rfl, hA5⟩ := Sl.of_own hown5
    go_ret2
    have hxs : fU ((zerosU 8).set 0 C) ++ fU (listed l) = fU L := by
      rw [← fU_append, ← HL.out.1, ← HL.out.2.1]; rfl
    rw [hxs] at hA5
    exact retU_at HL.out.2.2.1 hA5 (Below.trans hX hbel)
  · have hcw := commitWord_any l words A c w hA wf
    rw [if_neg h0] at hcw
    have hr : jrL l words = [] := by simp [jrL, h0]
    have hb : (cwE l words != 0) = true := by simpa using h0
    rw [hr]
    clear hr
    go_enter Try.func24, Try.ntmps24
    go_wp2_with fail
    refine hcw.mono ?_
    rintro e w1 ⟨rfl, hx1⟩
    go_wp2_with fail
    go_ret2
    exact retU_nil hx1
set_option maxRecDepth 100000 in
set_option maxHeartbeats 1600000 in
theorem refJournal9_any (l : List (Int × Int)) (words : Int) (A : Option Addr) (c : Nat) (w : World) (hA : Sl w A l.length c (fE l)) (wf : WfE l) :
    Calls Try.prog 25 #[.slice A l.length c, .int .i64 words] w (RetU w (jrL l words) (cwE l words)) := by
  by_cases h0 : cwE l words = 0
  · obtain ⟨hc, hn⟩ := cwE_ok h0
    obtain ⟨hs, hl⟩ := chk_small hc
    have hcw := fun W (h : Sl W A l.length c (fE l)) => refCWord_any l words A c W h wf
    rw [h0, if_pos rfl] at hcw
    have hr : jrL l words = jwords l := by simp [jrL, h0]
    rw [hr, h0]
    have hll := listed_length l
    obtain ⟨L, hL⟩ : ∃ L, jwords l = L := ⟨_, rfl⟩
    have hLl : L.length = 8 + 2 * l.length := by rw [← hL]; exact jwords_length l
    obtain ⟨C, hC⟩ : ∃ C, cword l = C := ⟨_, rfl⟩
    rw [hC] at hcw
    have HH := Lib.hid (And.intro hcw hc)
    have HL := Lib.hid (And.intro hL (And.intro hC (And.intro hLl hll)))
    rw [hL]
    clear hcw hr h0 hc hL hC hLl hll
    go_enter Try.func25, Try.ntmps25
    go_wp2_with fail
    refine (HH.out.1 _ hA).mono ?_
    rintro e w1 ⟨rfl, hx1⟩
    go_wp2_with fail
    refine (refListed_any l A c _ (hA.ext (hx1.alloc _)) hs (by omega)).mono ?_
    rintro e w4 ⟨A4, c4, rfl, _, hA4, hx4⟩
    have hown4 := own_ext (own_lit (w := w1) (base := w.heap.size) (e := 23) (size := 1) #[.int .u64 C, .int .u64 0, .int .u64 0, .int .u64 0, .int .u64 0, .int .u64 0, .int .u64 0, .int .u64 0] _ 8 rfl hx1.size (by decide) rfl) hx4
    have hX : Ext w w4 := Ext.trans (hx1.alloc _) hx4
    have hsz := hX.size
    go_wp2_with (at_builtin; refine wpList_app EU rfl (.tmp 18) (.tmp 20) rfl rfl hown4 rfl hA4 (by rw [fU_length]; have := HL.out.2.2.2; omega) (fU_one _) (by omega) hsz ?_; intro v' w5 hown5 hbel hat hgr)
    obtain ⟨A5, c5, rfl, hA5⟩ := Sl.of_own hown5
    go_ret2
    have hxs : ([Value.int .u64 C, .int .u64 0, .int .u64 0, .int .u64 0, .int .u64 0, .int .u64 0, .int .u64 0, .int .u64 0] : List Value) ++ fU (listed l) = fU L := by
      rw [← HL.out.1, ← HL.out.2.1]
      simp [jwords, fU]
    rw [hxs] at hA5
    exact retU_at HL.out.2.2.1 hA5 (Below.trans hX hbel)
  · have hcw := refCWord_any l words A c w hA wf
    rw [if_neg h0] at hcw
    have hr : jrL l words = [] := by simp [jrL, h0]
    have hb : (cwE l words != 0) = true := by simpa using h0
    rw [hr]
    clear hr
    go_enter Try.func25, Try.ntmps25
    go_wp2_with fail
    refine hcw.mono ?_
    rintro e w1 ⟨rfl, hx1⟩
    go_wp2_with fail
    go_ret2
    exact retU_nil hx1
end Go.Proofs.Ytlhlnenpgcndkaa
