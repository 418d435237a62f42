/-
  Entries of words from an address on: atomic.list and the reference's journal.
-/
import Derived.Test.YtmkcpnklaijkfaaDev10
import Derived.Test.YtmkcpnklaijkfaaLawR
namespace Go.Proofs.Ytmkcpnklaijkfaa
open Go.RowKit
/-- Entries of words from an address on. -/
def jEnt (a : Int) (ws : List Int) (k : Nat) : List (Int × Int) := (List.range k).map fun i : Nat => (a + (i : Int), ws.getD i 0)
theorem jEnt_length (a : Int) (ws : List Int) (k : Nat) : (jEnt a ws k).length = k := by simp [jEnt]
theorem jEnt_succ (a : Int) (ws : List Int) (k : Nat) : jEnt a ws (k + 1) = jEnt a ws k ++ [(a + (k : Int), ws.getD k 0)] := by simp [jEnt, List.range_succ]
set_option maxRecDepth 100000 in
set_option maxHeartbeats 400000 in
theorem alist_any (a : Int) (ws : List Int) (A : Option Addr) (c : Nat) (w : World) (hA : Sl w A ws.length c (fU ws)) (a0 : 0 ≤ a) (a1 : a ≤ 3000) (hn : ws.length ≤ 3000) :
    Calls Try.prog 89 #[.int .i64 a, .slice A ws.length c] w (RetOwn w 38 2 ws.length (fE (jEnt a ws ws.length))) := by
  have hle := hA.le
  go_enter Try.func89, Try.ntmps89
  go_wp2_with fail
  go_loopw [5, 9] (fun v i wr => ∃ k : Nat, k ≤ ws.length ∧ i = .int .i64 k ∧ wr.ownsRow w.heap.size 38 2 v k (fE (jEnt a ws k)) ∧ Ext w wr) (fun _ i _ => ws.length - (intOf i).toNat)
  case atStart => exact ⟨0, Nat.zero_le _, rfl, own_nil _ _ _ _, Ext.refl w⟩
  case round =>
    obtain ⟨k, hk, rfl, hown, hx⟩ := hrel
    have hsz := hx.size
    by_cases hlt : k < ws.length
    · obtain ⟨ad, x, rfl, hat, g0⟩ := (hA.ext hx).u_at hlt
      have hjs : jEnt a ws (k + 1) = jEnt a ws k ++ [(a + (k : Int), x)] := by rw [jEnt_succ, List.getD, hat]; rfl
      have hw : IntKind.i64.wrap (a + (k : Int)) = a + (k : Int) := by simp [IntKind.wrap, IntKind.bits, IntKind.signed]; omega
      have HJ := Lib.hid hjs
      clear hjs hat
      go_wp2_with (at_builtin; refine wpList_app EE rfl (.tmp 12) (.tmp 21) rfl rfl (hown.alloc _) rfl (Sl.lit' _ _ _ _ rfl (by decide)) rfl (fE_one [(a + (k : Int), x)]) (by omega) (by simp; omega) ?_; intro v' w' hown' hbel hat hgr)
      go_roundw
      case rel =>
        refine ⟨k + 1, by omega, by go_num, ?_, Below.trans (hx.alloc _) hbel⟩
        rw [HJ.out, fE_append]
        exact hown'
      case measure => simp [intOf]; omega
    · obtain rfl : k = ws.length := by omega
      go_wp2_with fail
      go_ret
      exact retOwn_mk hown hx
set_option maxRecDepth 100000 in
set_option maxHeartbeats 400000 in
theorem journal12_any (l : List (Int × Int)) (A : Option Addr) (c : Nat) (w : World) (hA : Sl w A l.length c (fE l)) (hsm : Small l) (hl : l.length ≤ 200) :
    Calls Try.prog 114 #[.slice A l.length c] w (RetOwn w 38 2 (listed l).length (fE (jEnt 32 (listed l) (listed l).length))) := by
  have h1 := fun W (h : Sl W A l.length c (fE l)) => refListed_any l A c W h hsm (by omega)
  have hll := listed_length l
  obtain ⟨ws, hws⟩ : ∃ ws, listed l = ws := ⟨_, rfl⟩
  rw [← listed_length l, hws] at h1
  rw [hws] at hll ⊢
  have HH := Lib.hid h1
  clear h1 hws
  go_enter Try.func114, Try.ntmps114
  go_wp2_with fail
  refine (HH.out w hA).mono ?_
  rintro e w1 ⟨A1, c1, rfl, _, hA1, hx1⟩
  have hle := hA1.le
  go_wp2_with fail
  go_loopw [3, 5] (fun v i wr => ∃ k : Nat, k ≤ ws.length ∧ i = .int .i64 k ∧ wr.ownsRow w1.heap.size 38 2 v k (fE (jEnt 32 ws k)) ∧ Ext w1 wr) (fun _ i _ => ws.length - (intOf i).toNat)
  case atStart => exact ⟨0, Nat.zero_le _, rfl, own_nil _ _ _ _, Ext.refl w1⟩
  case round =>
    obtain ⟨k, hk, rfl, hown, hx⟩ := hrel
    have hsz := hx.size
    have hsz1 := hx1.size
    by_cases hlt : k < ws.length
    · obtain ⟨ad, x, rfl, hat, g0⟩ := (hA1.ext hx).u_at hlt
      have hjs : jEnt 32 ws (k + 1) = jEnt 32 ws k ++ [(32 + (k : Int), x)] := by rw [jEnt_succ, List.getD, hat]; rfl
      have hw : IntKind.i64.wrap (32 + (k : Int)) = 32 + (k : Int) := by simp [IntKind.wrap, IntKind.bits, IntKind.signed]; omega
      have HJ := Lib.hid hjs
      clear hjs hat
      go_wp2_with (at_builtin; refine wpList_app EE rfl (.tmp 14) (.tmp 22) rfl rfl (hown.alloc _) rfl (Sl.lit' _ _ _ _ rfl (by decide)) rfl (fE_one [(32 + (k : Int), x)]) (by omega) (by simp; omega) ?_; intro v' w' hown' hbel hat hgr)
      go_roundw
      case rel =>
        refine ⟨k + 1, by omega, by go_num, ?_, ?_⟩
        · rw [HJ.out, fE_append]
          exact hown'
        · exact Below.trans (hx.alloc _) hbel
      case measure => simp [intOf]; omega
    · obtain rfl : k = ws.length := by omega
      go_wp2_with fail
      go_ret
      exact retOwn_mk (own_base hown hx1.size) (hx1.trans hx)
end Go.Proofs.Ytmkcpnklaijkfaa
