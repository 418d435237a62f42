/-
  The contracts of 'Words' on entries, the program's and the reference's.
-/
import Derived.Test.YtibeolemelmpcaaListed
namespace Go.Proofs.Ytibeolemelmpcaa
open Go.RowKit

theorem okFrom_mem {words : Int} {l : List (Int × Int)} : ∀ {S : List Int}, okFrom words S l = true → ∀ x ∈ l, mayB x.1 words = true := by
  induction l with
  | nil => intro S _ x hx; cases hx
  | cons e l ih =>
    intro S h x hx
    simp only [okFrom, Bool.and_eq_true] at h
    rcases List.mem_cons.1 hx with rfl | hx
    · exact h.1.1
    · exact ih h.2 x hx
theorem chk_ok {l : List (Int × Int)} {words : Int} (h : chkE l words = 0) : sizeB words = true ∧ l.length ≤ 32 ∧ okFrom words [] l = true := by
  unfold chkE at h
  split at h
  · split at h
    · simp at h
    · split at h
      · exact ⟨by assumption, by omega, by assumption⟩
      · simp at h
  · simp at h
theorem chk_small {l : List (Int × Int)} {words : Int} (h : chkE l words = 0) : Small l ∧ l.length ≤ 32 := by
  obtain ⟨h1, h2, h3⟩ := chk_ok h
  refine ⟨fun x hx => ?_, h2⟩
  have := mayB_bd (okFrom_mem h3 x hx)
  have := sizeB_bd h1
  omega
/-- A slice of its own and 0; or nothing, and the error. -/
def RetS (w : World) (T size n : Nat) (xs : List Value) (er : Int) (en : Ending) (w' : World) : Prop :=
  (er = 0 ∧ RetOwn2 w T size n xs 0 en w') ∨ (er ≠ 0 ∧ en = .returned (.tuple #[.slice none 0 0, .int .i64 er]) ∧ Ext w w')
set_option maxHeartbeats 800000 in
theorem entryWords_any (l : List (Int × Int)) (words : Int) (A : Option Addr) (c : Nat) (w : World) (hA : Sl w A l.length c (fE l)) (wf : WfE l) :
    Calls Try.prog 29 #[.slice A l.length c, .int .i64 words] w (RetS w 23 1 (2 * l.length) (fU (listed l)) (chkE l words)) := by
  by_cases h0 : chkE l words = 0
  · obtain ⟨hs, hl⟩ := chk_small h0
    go_enter Try.func29, Try.ntmps29
    go_wp2_with fail
    refine (entryCheck_any l words A c w hA wf).mono ?_
    rintro e w1 ⟨rfl, hx1⟩
    go_wp2_with fail
    go_loopw [7, 18] (fun v i wr => ∃ k : Nat, k ≤ l.length ∧ i = .int .i64 k ∧ wr.ownsRow w.heap.size 23 1 v (2 * k) (fU (listed (l.take k))) ∧ Ext w wr) (fun _ i _ => l.length - (intOf i).toNat)
    case atStart => exact ⟨0, Nat.zero_le _, rfl, own_nil _ _ _ _, hx1⟩
    case round =>
      obtain ⟨k, hk, rfl, hown, hx⟩ := hrel
      by_cases hlt : k < l.length
      · obtain ⟨a, x, rfl, hat, g1, g2⟩ := (hA.ext hx).e_at hlt
        obtain ⟨b0, b1⟩ := hs x (mem_of_at hat)
        have Hat := Lib.hid hat
        have hsz := hx.size
        clear hat h0
        go_wp2_with (at_builtin; refine wpList_app EU rfl (.tmp 22) (.tmp 28) rfl rfl ((hown.alloc _).alloc _) rfl (Sl.lit' _ _ _ _ (by simp) (by decide)) rfl (fU_one [x.1, x.2]) (by omega) (by simp; omega) ?_; intro v' w' hown' hbel hat hgr)
        have hx' : Ext w w' := Below.trans ((hx.alloc _).alloc _) hbel
        have hown2 : w'.ownsRow w.heap.size 23 1 v' (2 * (k + 1)) (fU (listed (l.take (k + 1)))) := by
          rw [listed_snoc Hat.out, fU_append]
          exact hown'
        go_roundw
        case rel => exact ⟨k + 1, by omega, by go_num, hown2, hx'⟩
        case measure => simp [intOf]; omega
      · obtain rfl : k = l.length := by omega
        have HH : Hid (chkE l words = 0) := Lib.hid h0
        go_wp2
        go_ret2
        rw [List.take_length] at hown
        rw [HH.out]
        exact .inl ⟨rfl, retOwn2_mk hown hx⟩
  · have hb : (chkE l words != 0) = true := by simpa using h0
    go_enter Try.func29, Try.ntmps29
    go_wp2_with fail
    refine (entryCheck_any l words A c w hA wf).mono ?_
    rintro e w1 ⟨rfl, hx1⟩
    go_wp2_with fail
    go_ret2
    exact .inr ⟨h0, rfl, hx1⟩
set_option maxHeartbeats 400000 in
theorem entryMay2_any (a n : Int) (w : World) :
    Calls Try.prog 32 #[.int .i64 a, .int .i64 n] w fun e w' => e = .returned (.tuple #[.bool (sizeB n && mayB a n), .int .i64 (szE n)]) ∧ w = w' := by
  cases hs : sizeB n with
  | true =>
    have h1 : szE n = 0 := by simp [szE, hs]
    go_enter Try.func32, Try.ntmps32
    go_wp2_with (first | (go_at_call 47; refine (entrySize_any _ _).mono ?_; rintro e w' ⟨rfl, rfl⟩) | (go_at_call 48; refine (entryMay_any _ _ _).mono ?_; rintro e w' ⟨rfl, rfl⟩))
    go_ret2
    exact ⟨by simp [h1], rfl⟩
  | false =>
    have h1 : szE n = 2 := by simp [szE, hs]
    go_enter Try.func32, Try.ntmps32
    go_wp2_with (first | (go_at_call 47; refine (entrySize_any _ _).mono ?_; rintro e w' ⟨rfl, rfl⟩) | (go_at_call 48; refine (entryMay_any _ _ _).mono ?_; rintro e w' ⟨rfl, rfl⟩))
    go_ret2
    exact ⟨by simp [h1], rfl⟩
end Go.Proofs.Ytibeolemelmpcaa
