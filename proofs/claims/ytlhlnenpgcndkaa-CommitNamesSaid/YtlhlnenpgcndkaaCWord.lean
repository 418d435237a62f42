/-
  The contract of the commit word.
-/
import Derived.Test.YtlhlnenpgcndkaaWSet
import Derived.Test.YtlhlnenpgcndkaaWords
import Derived.Test.YtlhlnenpgcndkaaCut
namespace Go.Proofs.Ytlhlnenpgcndkaa
open Go.RowKit
/-- The error of a commit word. -/
def cwE (l : List (Int × Int)) (words : Int) : Int := if chkE l words = 0 then (if l.length = 0 then 6 else 0) else chkE l words
theorem low58_at (l : List Int) (n : Nat) (hn : l.length = n) (A : Option Addr) (c : Nat) (w : World) (hA : Sl w A n c (fU l)) (hl : n ≤ 2048) :
    Calls Try.prog 34 #[.slice A n c, .int .i64 58] w fun e w' => e = .returned (.tuple #[.int .u64 (sumOf l % 288230376151711744), .int .i64 0]) ∧ Ext w w' := by
  subst hn
  exact low58 l A c w hA hl
set_option maxHeartbeats 1600000 in
theorem commitWord_any (l : List (Int × Int)) (words : Int) (A : Option Addr) (c : Nat) (w : World) (hA : Sl w A l.length c (fE l)) (wf : WfE l) :
    Calls Try.prog 20 #[.slice A l.length c, .int .i64 words] w fun e w' => e = .returned (.tuple #[.int .u64 (if cwE l words = 0 then cword l else 0), .int .i64 (cwE l words)]) ∧ Ext w w' := by
  by_cases h0 : chkE l words = 0
  · have hl32 := (chk_iff.1 h0).2.1
    by_cases hn : l.length = 0
    · have hc : cwE l words = 6 := by simp [cwE, h0, hn]
      rw [hc, if_neg (by decide)]
      have H0 := Lib.hid h0
      have hb : ((l.length : Int) == 0) = true := by simpa using hn
      clear hc hn h0
      go_enter Try.func20, Try.ntmps20
      go_wp2_with fail
      refine (entryWords_any l words A c w hA wf).mono ?_
      rintro e w1 (⟨_, A1, c1, rfl, _, hA1, hx1⟩ | ⟨hne, _⟩)
      case inr => exact absurd H0.out hne
      go_wp2_with fail
      go_ret2
      exact ⟨rfl, hx1⟩
    · have hc : cwE l words = 0 := by simp [cwE, h0, hn]
      rw [hc, if_pos rfl]
      have hw : IntKind.u64.wrap (l.length : Int) = l.length := by simp [IntKind.wrap, IntKind.bits, IntKind.signed]; omega
      have H0 := Lib.hid h0
      have hb : ((l.length : Int) == 0) = false := by simpa using hn
      clear hc h0
      have hs := sumOf_in (listed l)
      go_enter Try.func20, Try.ntmps20
      go_wp2_with fail
      refine (entryWords_any l words A c w hA wf).mono ?_
      rintro e w1 (⟨_, A1, c1, rfl, _, hA1, hx1⟩ | ⟨hne, _⟩)
      case inr => exact absurd H0.out hne
      go_wp2_with fail
      refine (low58_at (listed l) _ (listed_length l) A1 c1 w1 hA1 (by omega)).mono ?_
      rintro e w2 ⟨rfl, hx2⟩
      go_wp2_with fail
      refine (set658 l.length (sumOf (listed l) % 288230376151711744) w2 (by omega) (by omega)).mono ?_
      rintro e w3 ⟨rfl, rfl⟩
      go_wp2_with fail
      go_ret2
      exact ⟨rfl, hx1.trans hx2⟩
  · have hc : cwE l words = chkE l words := by simp [cwE, h0]
    rw [hc, if_neg h0]
    have hb : (chkE l words != 0) = true := by simpa using h0
    go_enter Try.func20, Try.ntmps20
    go_wp2_with fail
    refine (entryWords_any l words A c w hA wf).mono ?_
    rintro e w1 (⟨hne, _⟩ | ⟨_, rfl, hx1⟩)
    · exact absurd hne h0
    go_wp2_with fail
    go_ret2
    exact ⟨rfl, hx1⟩
end Go.Proofs.Ytlhlnenpgcndkaa
