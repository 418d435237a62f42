/-
  The contracts of what a mask keeps.
-/
import Derived.Test.YtmmcbleoglgamaaDOwn
namespace Go.Proofs.Ytmmcbleoglgamaa
open Go.RowKit
theorem Ext.frz {a w : World} (h : Ext a w) {p : Addr} {u : Value} (hc : a.cell? p = some u) (hf : a.frozen? p = false) : w.frozen? p = false := by
  rw [Below.frozen h (block_lt_of_cell hc)]
  exact hf
theorem kp_half (x : Int) (k : Nat) : x / 2 ^ k / 2 = x / 2 ^ (k + 1) := by
  rw [Int.pow_succ, Int.ediv_ediv_of_nonneg (Int.pow_nonneg (by decide))]
theorem and1 (x : Int) (h : 0 ≤ x ∧ x < 18446744073709551616) : bits BinOp.and IntKind.u64 x 1 = x % 2 := by
  obtain ⟨n, rfl⟩ := Int.eq_ofNat_of_zero_le h.1
  show IntKind.u64.wrap ((BitVec.ofInt 64 (n : Int) &&& BitVec.ofInt 64 (1 : Int)).toNat : Int) = _
  have h1 : BitVec.ofInt 64 (n : Int) = BitVec.ofNat 64 n := by simp
  have h2 : n &&& 1 = n % 2 := Nat.and_two_pow_sub_one_eq_mod n 1
  rw [h1, show BitVec.ofInt 64 (1 : Int) = BitVec.ofNat 64 1 from by decide, BitVec.toNat_and, BitVec.toNat_ofNat, BitVec.toNat_ofNat, Nat.mod_eq_of_lt (a := n) (by omega), Nat.mod_eq_of_lt (a := 1) (by decide), h2]
  simp [IntKind.wrap, IntKind.bits, IntKind.signed]
  omega
set_option maxHeartbeats 400000 in
theorem keepF_any (mask : Int) (i : Nat) (ad : Addr) (w : World) (hm : InU mask) (hi : i ≤ 100000) (h : w.cell? ad = some (.int .u64 mask)) :
    Calls Try.prog 65 #[.int .i64 i, .pointer (some ad)] w fun e w' => e = .returned (.bool (kpB mask i)) ∧ w = w' := by
  obtain ⟨m0, m1⟩ := hm
  obtain ⟨t, ht⟩ : ∃ t, i % 64 = t := ⟨_, rfl⟩
  have hti : (i : Int) % 64 = (t : Int) := by omega
  have hy0 : 0 ≤ mask / 2 ^ t := Int.ediv_nonneg m0 (Int.pow_nonneg (by decide))
  have hy1 : mask / 2 ^ t ≤ mask := Int.ediv_le_self _ m0
  have hk : kpB mask i = decide (mask / 2 ^ t % 2 = 1) := by unfold kpB; rw [ht]
  obtain ⟨y, hy⟩ : ∃ y, mask / 2 ^ t = y := ⟨_, rfl⟩
  rw [hy] at hy0 hy1 hk
  have ha := and1 y ⟨hy0, by omega⟩
  have hb : (y % 2 == 1) = decide (y % 2 = 1) := by rw [Bool.eq_iff_iff]; simp
  have HK := Lib.hid (And.intro hk hb)
  have ht64 : t < 64 := by omega
  clear hk hb ht
  go_enter Try.func65, Try.ntmps65
  go_wp2_with fail
  go_ret
  exact ⟨ret_bool (by rw [HK.out.1, ← HK.out.2]), rfl⟩
set_option maxHeartbeats 400000 in
theorem refKeep_any (mask : Int) (i : Nat) (w : World) (hm : InU mask) (hi : i ≤ 100000) :
    Calls Try.prog 51 #[.int .u64 mask, .int .i64 i] w fun e w' => e = .returned (.bool (kpB mask i)) ∧ w = w' := by
  obtain ⟨m0, m1⟩ := hm
  obtain ⟨t, ht⟩ : ∃ t, i % 64 = t := ⟨_, rfl⟩
  have hti : (i : Int) % 64 = (t : Int) := by omega
  have hk : kpB mask i = decide (mask / 2 ^ t % 2 = 1) := by unfold kpB; rw [ht]
  have HK := Lib.hid hk
  clear hk ht
  go_enter Try.func51, Try.ntmps51
  go_wp2
  go_loop [0, 5] (fun v j => ∃ k : Nat, k ≤ t ∧ j = .int .i64 k ∧ v = .int .u64 (mask / 2 ^ k)) (fun _ j => t - (intOf j).toNat)
  case atStart => exact ⟨0, Nat.zero_le _, rfl, by simp⟩
  case round =>
    obtain ⟨k, hk, rfl, rfl⟩ := hrel
    have hy0 : 0 ≤ mask / 2 ^ k := Int.ediv_nonneg m0 (Int.pow_nonneg (by decide))
    have hy1 : mask / 2 ^ k ≤ mask := Int.ediv_le_self _ m0
    have hs := Lib.hid (kp_half mask k)
    obtain ⟨y, hy⟩ : ∃ y, mask / 2 ^ k = y := ⟨_, rfl⟩
    rw [hy] at hs hy0 hy1 ⊢
    have HY := Lib.hid hy
    clear hy
    by_cases hlt : k < t
    · go_wp2
      go_round
      case rel => exact ⟨k + 1, by omega, by go_num, by rw [← hs.out]⟩
      case measure => simp [intOf]; omega
    · obtain rfl : k = t := by omega
      go_wp2
      go_ret
      exact ⟨ret_bool (by rw [HK.out, HY.out, Bool.eq_iff_iff]; simp), rfl⟩
set_option maxHeartbeats 1600000 in
theorem chosen_any (m : List Int) (q : List Dw) (left : Int) (down : Bool) (mask : Int) (A : Option Addr) (c : Nat) (B : Option Addr) (d : Nat) (w : World) (hm : InU mask) (hq : q.length ≤ 100000) :
    Calls Try.prog 47 #[.agg #[.slice A m.length c, .slice B q.length d, .int .i64 left, .bool down], .int .u64 mask] w (RetOwn w 3 1 (keptN mask q.length).length (fI (keptN mask q.length))) := by
  have hmf : ∀ (fn : Fn) (first cap : Array Value) (w : World), (Instr.makeFunc fn first cap).run Try.prog w = .ok (.func fn first cap) w := fun _ _ _ _ => rfl
  obtain ⟨W0, hW0⟩ : ∃ W0, W0 = ((w.alloc (Obj.cells #[.slice A m.length c, .slice B q.length d, .int .i64 left, .bool down] 25)).alloc (Obj.cells #[.int .u64 mask] 26)) := ⟨_, rfl⟩
  have hz0 : W0.heap.size = w.heap.size + 2 := by rw [hW0]; simp
  have hc0 : W0.cell? ⟨w.heap.size + 1, 0, none⟩ = some (.int .u64 mask) := by rw [hW0]; simp [go_sem]
  have hX0 : Ext w W0 := by rw [hW0]; exact ((Ext.refl w).alloc _).alloc _
  have HW := Lib.hid hW0
  clear hW0
  have HZ := Lib.hid (And.intro hz0 hc0)
  clear hz0 hc0
  go_enter Try.func47, Try.ntmps47
  go_wp2_with fail
  go_loopw [6, 12] (fun v i wr => ∃ k : Nat, k ≤ q.length ∧ i = .int .i64 k ∧ wr.ownsRow (w.heap.size + 2) 3 1 v (keptN mask k).length (fI (keptN mask k)) ∧ Ext W0 wr) (fun _ i _ => q.length - (intOf i).toNat)
  case atStart => exact ⟨0, Nat.zero_le _, rfl, own_nil _ _ _ _, by rw [HW.out]; exact Ext.refl _⟩
  case round =>
    obtain ⟨k, hk, rfl, hown, hx⟩ := hrel
    have hX : Ext w wr := hX0.trans hx
    have hc : wr.cell? ⟨w.heap.size + 1, 0, none⟩ = some (.int .u64 mask) := hx.cell HZ.out.2
    by_cases hlt : k < q.length
    · have hsu := keptN_succ mask k
      have hln := keptN_length mask k
      have hsz : w.heap.size + 2 ≤ wr.heap.size := by have := hx.size; rw [HZ.out.1] at this; exact this
      have hke := keepF_any mask k ⟨w.heap.size + 1, 0, none⟩ wr hm (by omega) hc
      have HK := Lib.hid hke
      clear hke
      cases hb : kpB mask k with
      | true =>
        rw [hb, if_pos rfl] at hsu
        have HS := Lib.hid (And.intro hsu hb)
        clear hsu hb
        go_wp2_with (first | (refine HK.out.mono ?_; rintro e w' ⟨rfl, rfl⟩; rw [HS.out.2]) | (at_builtin; refine wpList_app EI rfl (.tmp 18) (.tmp 20) rfl rfl (hown.alloc _) rfl (Sl.lit' _ _ _ _ (by simp) (by decide)) rfl (fI_one [(k : Int)]) (by omega) (by simp; omega) ?_; intro v' w' hown' hbel hat hgr))
        have hx' : Ext W0 w' := Below.trans (hx.alloc _) (by rw [HZ.out.1]; exact hbel)
        have hown2 : w'.ownsRow (w.heap.size + 2) 3 1 v' (keptN mask (k + 1)).length (fI (keptN mask (k + 1))) := by
          rw [HS.out.1, fI_append, List.length_append]
          exact hown'
        go_roundw
        case rel => exact ⟨k + 1, by omega, by go_num, hown2, hx'⟩
        case measure => simp [intOf]; omega
      | false =>
        rw [hb, if_neg (by decide), List.append_nil] at hsu
        have HS := Lib.hid (And.intro hsu hb)
        clear hsu hb
        go_wp2_with (refine HK.out.mono ?_; rintro e w' ⟨rfl, rfl⟩; rw [HS.out.2])
        go_roundw
        case rel => exact ⟨k + 1, by omega, by go_num, by rw [HS.out.1]; exact hown, hx⟩
        case measure => simp [intOf]; omega
    · obtain rfl : k = q.length := by omega
      go_wp2_with fail
      go_ret
      exact retOwn_mk (own_base hown (Nat.le_add_right _ _)) hX
/-- What is chosen, and the error. -/
def choL (m : List Int) (q : List Dw) (left : Int) (down : Bool) (mask : Int) : List Int := if devE m q left down = 0 then keptN mask q.length else []
def RetI (w0 : World) (l : List Int) (er : Int) (en : Ending) (w' : World) : Prop :=
  ∃ A c, en = .returned (.tuple #[.slice A l.length c, .int .i64 er]) ∧ Sl w' A l.length c (fI l) ∧ Ext w0 w'
theorem retI_nil {w0 w' : World} {er : Int} (hx : Ext w0 w') : RetI w0 [] er (.returned (.tuple #[.slice none 0 0, .int .i64 er])) w' := ⟨none, 0, rfl, Sl.nil_ _, hx⟩
set_option maxHeartbeats 800000 in
theorem dChosen_any (m : List Int) (q : List Dw) (left : Int) (down : Bool) (mask : Int) (A : Option Addr) (c : Nat) (B : Option Addr) (d : Nat) (w : World) (hB : Sl w B q.length d (fD q)) (hm : InU mask) :
    Calls Try.prog 24 #[.agg #[.slice A m.length c, .slice B q.length d, .int .i64 left, .bool down], .int .u64 mask] w (RetI w (choL m q left down mask) (devE m q left down)) := by
  cases hd : devB m q left down with
  | true =>
    have h0 := devE_yes hd
    have hql := dirty_le hd
    have hv : choL m q left down mask = keptN mask q.length := by simp [choL, h0]
    rw [hv, h0]
    have H0 := Lib.hid h0
    clear h0 hv hd
    go_enter Try.func24, Try.ntmps24
    go_wp2_with fail
    refine (dCheck_any m q left down A c B d _ (hB.alloc _)).mono ?_
    rintro e w1 ⟨rfl, hx⟩
    rw [H0.out]
    obtain ⟨b0, b1, b2, b3, bs, hX⟩ := box4 hx
    go_wp2_with fail
    refine (chosen_any m q left down mask A c B d w1 hm (by omega)).mono ?_
    rintro e w2 ⟨A2, c2, rfl, _, hA2, hx2⟩
    go_wp2_with fail
    go_ret2
    exact ⟨_, _, rfl, hA2, hX.trans hx2⟩
  | false =>
    have h0 := devE_no hd
    have hv : choL m q left down mask = [] := by simp [choL, h0]
    rw [hv, h0]
    have H0 := Lib.hid h0
    clear h0 hv hd
    go_enter Try.func24, Try.ntmps24
    go_wp2_with fail
    refine (dCheck_any m q left down A c B d _ (hB.alloc _)).mono ?_
    rintro e w1 ⟨rfl, hx⟩
    rw [H0.out]
    go_wp2_with fail
    go_ret2
    exact retI_nil (by repeat (first | assumption | exact Ext.refl _ | refine Ext.drewN ?_ _ | refine Ext.drew ?_ | refine Ext.alloc ?_ _ | refine Ext.trans ?_ (by assumption)))
set_option maxHeartbeats 1600000 in
theorem dRChosen_any (m : List Int) (q : List Dw) (left : Int) (down : Bool) (mask : Int) (A : Option Addr) (c : Nat) (B : Option Addr) (d : Nat) (w : World) (hB : Sl w B q.length d (fD q)) (hm : InU mask) :
    Calls Try.prog 30 #[.agg #[.slice A m.length c, .slice B q.length d, .int .i64 left, .bool down], .int .u64 mask] w (RetI w (choL m q left down mask) (devE m q left down)) := by
  cases hd : devB m q left down with
  | true =>
    have h0 := devE_yes hd
    have hql := dirty_le hd
    have hv : choL m q left down mask = keptN mask q.length := by simp [choL, h0]
    rw [hv, h0]
    have H0 := Lib.hid h0
    clear h0 hv hd
    go_enter Try.func30, Try.ntmps30
    go_wp2_with fail
    refine (dRefCk_any m q left down A c B d _ (hB.alloc _)).mono ?_
    rintro e w1 ⟨rfl, hx⟩
    rw [H0.out]
    obtain ⟨b0, b1, b2, b3, bs, hX⟩ := box4 hx
    go_wp2_with fail
    clear b0 b1 b2 b3
    go_loopw [6, 7] (fun v i wr => ∃ k : Nat, k ≤ q.length ∧ i = .int .i64 k ∧ wr.ownsRow (w.heap.size + 1) 3 1 v (keptN mask k).length (fI (keptN mask k)) ∧ Ext (w.alloc (Obj.cells #[.slice A m.length c, .slice B q.length d, .int .i64 left, .bool down] 25)) wr) (fun _ i _ => q.length - (intOf i).toNat)
    case atStart => exact ⟨0, Nat.zero_le _, rfl, own_nil _ _ _ _, hx⟩
    case round =>
      obtain ⟨k, hk, rfl, hown, hx⟩ := hrel
      obtain ⟨b0, b1, b2, b3, bs, hX⟩ := box4 hx
      by_cases hlt : k < q.length
      · have hsu := keptN_succ mask k
        have hln := keptN_length mask k
        have hke := refKeep_any mask k wr hm (by omega)
        have HK := Lib.hid hke
        clear hke
        cases hb : kpB mask k with
        | true =>
          rw [hb, if_pos rfl] at hsu
          have HS := Lib.hid (And.intro hsu hb)
          clear hsu hb
          go_wp2_with (first | (refine HK.out.mono ?_; rintro e w' ⟨rfl, rfl⟩; rw [HS.out.2]) | (at_builtin; refine wpList_app EI rfl (.tmp 21) (.tmp 23) rfl rfl (hown.alloc _) rfl (Sl.lit' _ _ _ _ (by simp) (by decide)) rfl (fI_one [(k : Int)]) (by omega) (by simp; omega) ?_; intro v' w' hown' hbel hat hgr))
          have hx' : Ext (w.alloc (Obj.cells #[.slice A m.length c, .slice B q.length d, .int .i64 left, .bool down] 25)) w' := Below.trans (hx.alloc _) (by simpa using hbel)
          have hown2 : w'.ownsRow (w.heap.size + 1) 3 1 v' (keptN mask (k + 1)).length (fI (keptN mask (k + 1))) := by
            rw [HS.out.1, fI_append, List.length_append]
            exact hown'
          go_roundw
          case rel => exact ⟨k + 1, by omega, by go_num, hown2, hx'⟩
          case measure => simp [intOf]; omega
        | false =>
          rw [hb, if_neg (by decide), List.append_nil] at hsu
          have HS := Lib.hid (And.intro hsu hb)
          clear hsu hb
          go_wp2_with (refine HK.out.mono ?_; rintro e w' ⟨rfl, rfl⟩; rw [HS.out.2])
          go_roundw
          case rel => exact ⟨k + 1, by omega, by go_num, by rw [HS.out.1]; exact hown, hx⟩
          case measure => simp [intOf]; omega
      · obtain rfl : k = q.length := by omega
        go_wp2_with fail
        obtain ⟨A2, c2, hv, hA2⟩ := Sl.of_own hown
        subst hv
        go_ret2
        exact ⟨_, _, rfl, hA2, hX⟩
  | false =>
    have h0 := devE_no hd
    have hv : choL m q left down mask = [] := by simp [choL, h0]
    rw [hv, h0]
    have H0 := Lib.hid h0
    clear h0 hv hd
    go_enter Try.func30, Try.ntmps30
    go_wp2_with fail
    refine (dRefCk_any m q left down A c B d _ (hB.alloc _)).mono ?_
    rintro e w1 ⟨rfl, hx⟩
    rw [H0.out]
    go_wp2_with fail
    go_ret2
    exact retI_nil (by repeat (first | assumption | exact Ext.refl _ | refine Ext.drewN ?_ _ | refine Ext.drew ?_ | refine Ext.alloc ?_ _ | refine Ext.trans ?_ (by assumption)))
end Go.Proofs.Ytmmcbleoglgamaa
