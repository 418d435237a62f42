/-
  The contracts of what lists the words of entries.
-/
import Derived.Test.YtibeolemelmpcaaRefCheck
import Derived.Deep.RegionLaw
namespace Go.Proofs.Ytibeolemelmpcaa
open Go.RowKit

/-- The addresses are small numbers. -/
def Small (l : List (Int × Int)) : Prop := ∀ x ∈ l, 0 ≤ x.1 ∧ x.1 ≤ 2048
theorem u64_small {a : Int} (h0 : 0 ≤ a) (h1 : a ≤ 2048) : IntKind.u64.wrap a = a := by
  simp [IntKind.wrap, IntKind.bits, IntKind.signed]; omega
theorem listed_snoc {l : List (Int × Int)} {k : Nat} {x : Int × Int} (hx : l[k]? = some x) : listed (l.take (k + 1)) = listed (l.take k) ++ [x.1, x.2] := by
  rw [List.take_add_one, hx, listed_append]
  rfl
set_option maxRecDepth 100000 in
set_option maxHeartbeats 400000 in
theorem refListed_any (l : List (Int × Int)) (A : Option Addr) (c : Nat) (w : World) (hA : Sl w A l.length c (fE l)) (hs : Small l) (hl : l.length ≤ 1000) :
    Calls Try.prog 38 #[.slice A l.length c] w (RetOwn w 23 1 (2 * l.length) (fU (listed l))) := by
  go_enter Try.func38, Try.ntmps38
  go_wp2
  go_loopw [3, 4] (fun v i wr => ∃ k : Nat, k ≤ l.length ∧ i = .int .i64 k ∧ wr.ownsRow w.heap.size 23 1 v (2 * k) (fU (listed (l.take k))) ∧ Ext w wr) (fun _ i _ => l.length - (intOf i).toNat)
  case atStart => exact ⟨0, Nat.zero_le _, rfl, own_nil _ _ _ _, Ext.refl w⟩
  case round =>
    obtain ⟨k, hk, rfl, hown, hx⟩ := hrel
    by_cases hlt : k < l.length
    · obtain ⟨a, x, rfl, hat, g1, g2⟩ := (hA.ext hx).e_at hlt
      obtain ⟨b0, b1⟩ := hs x (mem_of_at hat)
      have Hat := Lib.hid hat
      have hsz := hx.size
      have hwr := u64_small b0 b1
      clear hat
      go_wp2
      go_region_law (refine step_app EU rfl (.tmp 11) (.tmp 23) rfl rfl (hown.alloc _).drew rfl (Sl.lit' _ _ _ _ rfl (by decide)).drew rfl (fU_one [x.1, x.2]) (by omega) (by simp; omega) ?_; intro v' w' hown' hbel hat hgr)
      all_goals
        have hx' : Ext w w' := Below.trans (hx.alloc _).drew hbel
        have hown2 : w'.ownsRow w.heap.size 23 1 v' (2 * (k + 1)) (fU (listed (l.take (k + 1)))) := by
          rw [listed_snoc Hat.out, fU_append]
          exact hown'
        clear hown' hbel hgr hat hwr g1 g2 hA hown
        go_wp2
        go_roundw
        case rel => exact ⟨k + 1, by omega, by go_num, hown2, hx'⟩
        case measure => simp [intOf]; omega
    · obtain rfl : k = l.length := by omega
      go_wp2
      go_ret
      rw [List.take_length] at hown
      exact retOwn_mk hown hx
end Go.Proofs.Ytibeolemelmpcaa
