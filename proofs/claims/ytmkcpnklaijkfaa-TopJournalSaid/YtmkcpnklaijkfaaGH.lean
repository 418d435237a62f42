/-
  Several texts in one: Keep, Arm, Crash, RefCr, CrEnd, CrWord.
-/
import Derived.Test.YtmkcpnklaijkfaaGG
import Derived.Deep.RegionHeld3
/-
  The contracts of what a mask keeps.
-/
namespace Go.Proofs.Ytmkcpnklaijkfaa
open Go.RowKit
theorem Ext.frz {a w : World} (h : Ext a w) {p : Addr} {u : Value} (hc : a.cell? p = some u) (hf : a.frozen? p = false) : w.frozen? p = false := by
  rw [Below.frozen h (block_lt_of_cell hc)]
  exact hf
theorem kp_half (x : Int) (k : Nat) : x / 2 ^ k / 2 = x / 2 ^ (k + 1) := by
  rw [Int.pow_succ, Int.ediv_ediv_of_nonneg (Int.pow_nonneg (by decide))]
theorem and1 (x : Int) (h : 0 ≤ x ∧ x < 18446744073709551616) : bits BinOp.and IntKind.u64 x 1 = x % 2 := by
  obtain ⟨n, rfl⟩ := Int.eq_ofNat_of_zero_le h.1
  show IntKind.u64.wrap ((BitVec.ofInt 64 (n : Int) &&& BitVec.ofInt 64 (1 : Int)).toNat : Int) = _
  have h1 : BitVec.ofInt 64 (n : Int) = BitVec.ofNat 64 n := by simp
  have h2 : n &&& 1 = n % 2 := Nat.and_two_pow_sub_one_eq_mod n 1
  rw [h1, show BitVec.ofInt 64 (1 : Int) = BitVec.ofNat 64 1 from by decide, BitVec.toNat_and, BitVec.toNat_ofNat, BitVec.toNat_ofNat, Nat.mod_eq_of_lt (a := n) (by omega), Nat.mod_eq_of_lt (a := 1) (by decide), h2]
  simp [IntKind.wrap, IntKind.bits, IntKind.signed]
  omega
set_option maxHeartbeats 400000 in
theorem keepF_any (mask : Int) (i : Nat) (ad : Addr) (w : World) (hm : InU mask) (hi : i ≤ 100000) (h : w.cell? ad = some (.int .u64 mask)) :
    Calls Try.prog 110 #[.int .i64 i, .pointer (some ad)] w fun e w' => e = .returned (.bool (kpB mask i)) ∧ w = w' := by
  obtain ⟨m0, m1⟩ := hm
  obtain ⟨t, ht⟩ : ∃ t, i % 64 = t := ⟨_, rfl⟩
  have hti : (i : Int) % 64 = (t : Int) := by omega
  have hy0 : 0 ≤ mask / 2 ^ t := Int.ediv_nonneg m0 (Int.pow_nonneg (by decide))
  have hy1 : mask / 2 ^ t ≤ mask := Int.ediv_le_self _ m0
  have hk : kpB mask i = decide (mask / 2 ^ t % 2 = 1) := by unfold kpB; rw [ht]
  obtain ⟨y, hy⟩ : ∃ y, mask / 2 ^ t = y := ⟨_, rfl⟩
  rw [hy] at hy0 hy1 hk
  have ha := and1 y ⟨hy0, by omega⟩
  have hb : (y % 2 == 1) = decide (y % 2 = 1) := by rw [Bool.eq_iff_iff]; simp
  have HK := Lib.hid (And.intro hk hb)
  have ht64 : t < 64 := by omega
  clear hk hb ht
  go_enter Try.func110, Try.ntmps110
  go_wp2_with fail
  go_ret
  exact ⟨ret_bool (by rw [HK.out.1, ← HK.out.2]), rfl⟩
set_option maxHeartbeats 400000 in
theorem refKeep_any (mask : Int) (i : Nat) (w : World) (hm : InU mask) (hi : i ≤ 100000) :
    Calls Try.prog 124 #[.int .u64 mask, .int .i64 i] w fun e w' => e = .returned (.bool (kpB mask i)) ∧ w = w' := by
  obtain ⟨m0, m1⟩ := hm
  obtain ⟨t, ht⟩ : ∃ t, i % 64 = t := ⟨_, rfl⟩
  have hti : (i : Int) % 64 = (t : Int) := by omega
  have hk : kpB mask i = decide (mask / 2 ^ t % 2 = 1) := by unfold kpB; rw [ht]
  have HK := Lib.hid hk
  clear hk ht
  go_enter Try.func124, Try.ntmps124
  go_wp2
  go_loop [0, 5] (fun v j => ∃ k : Nat, k ≤ t ∧ j = .int .i64 k ∧ v = .int .u64 (mask / 2 ^ k)) (fun _ j => t - (intOf j).toNat)
  case atStart => exact ⟨0, Nat.zero_le _, rfl, by simp⟩
  case round =>
    obtain ⟨k, hk, rfl, rfl⟩ := hrel
    have hy0 : 0 ≤ mask / 2 ^ k := Int.ediv_nonneg m0 (Int.pow_nonneg (by decide))
    have hy1 : mask / 2 ^ k ≤ mask := Int.ediv_le_self _ m0
    have hs := Lib.hid (kp_half mask k)
    obtain ⟨y, hy⟩ : ∃ y, mask / 2 ^ k = y := ⟨_, rfl⟩
    rw [hy] at hs hy0 hy1 ⊢
    have HY := Lib.hid hy
    clear hy
    by_cases hlt : k < t
    · go_wp2
      go_round
      case rel => exact ⟨k + 1, by omega, by go_num, by rw [← hs.out]⟩
      case measure => simp [intOf]; omega
    · obtain rfl : k = t := by omega
      go_wp2
      go_ret
      exact ⟨ret_bool (by rw [HK.out, HY.out, Bool.eq_iff_iff]; simp), rfl⟩
set_option maxHeartbeats 1600000 in
theorem chosen_any (m : List Int) (q : List Dw) (left : Int) (down : Bool) (mask : Int) (A : Option Addr) (c : Nat) (B : Option Addr) (d : Nat) (w : World) (hm : InU mask) (hq : q.length ≤ 100000) :
    Calls Try.prog 79 #[.agg #[.slice A m.length c, .slice B q.length d, .int .i64 left, .bool down], .int .u64 mask] w (RetOwn w 3 1 (keptN mask q.length).length (fI (keptN mask q.length))) := by
  have hmf : ∀ (fn : Fn) (first cap : Array Value) (w : World), (Instr.makeFunc fn first cap).run Try.prog w = .ok (.func fn first cap) w := fun _ _ _ _ => rfl
  obtain ⟨W0, hW0⟩ : ∃ W0, W0 = ((w.alloc (Obj.cells #[.slice A m.length c, .slice B q.length d, .int .i64 left, .bool down] 46)).alloc (Obj.cells #[.int .u64 mask] 24)) := ⟨_, rfl⟩
  have hz0 : W0.heap.size = w.heap.size + 2 := by rw [hW0]; simp
  have hc0 : W0.cell? ⟨w.heap.size + 1, 0, none⟩ = some (.int .u64 mask) := by rw [hW0]; simp [go_sem]
  have hX0 : Ext w W0 := by rw [hW0]; exact ((Ext.refl w).alloc _).alloc _
  have HW := Lib.hid hW0
  clear hW0
  have HZ := Lib.hid (And.intro hz0 hc0)
  clear hz0 hc0
  go_enter Try.func79, Try.ntmps79
  go_wp2_with fail
  go_loopw [6, 12] (fun v i wr => ∃ k : Nat, k ≤ q.length ∧ i = .int .i64 k ∧ wr.ownsRow (w.heap.size + 2) 3 1 v (keptN mask k).length (fI (keptN mask k)) ∧ Ext W0 wr) (fun _ i _ => q.length - (intOf i).toNat)
  case atStart => exact ⟨0, Nat.zero_le _, rfl, own_nil _ _ _ _, by rw [HW.out]; exact Ext.refl _⟩
  case round =>
    obtain ⟨k, hk, rfl, hown, hx⟩ := hrel
    have hX : Ext w wr := hX0.trans hx
    have hc : wr.cell? ⟨w.heap.size + 1, 0, none⟩ = some (.int .u64 mask) := hx.cell HZ.out.2
    by_cases hlt : k < q.length
    · have hsu := keptN_succ mask k
      have hln := keptN_length mask k
      have hsz : w.heap.size + 2 ≤ wr.heap.size := by have := hx.size; rw [HZ.out.1] at this; exact this
      have hke := keepF_any mask k ⟨w.heap.size + 1, 0, none⟩ wr hm (by omega) hc
      have HK := Lib.hid hke
      clear hke
      cases hb : kpB mask k with
      | true =>
        rw [hb, if_pos rfl] at hsu
        have HS := Lib.hid (And.intro hsu hb)
        clear hsu hb
        go_wp2_with (first | (refine HK.out.mono ?_; rintro e w' ⟨rfl, rfl⟩; rw [HS.out.2]) | (at_builtin; refine wpList_app EI rfl (.tmp 18) (.tmp 20) rfl rfl (hown.alloc _) rfl (Sl.lit' _ _ _ _ (by simp) (by decide)) rfl (fI_one [(k : Int)]) (by omega) (by simp; omega) ?_; intro v' w' hown' hbel hat hgr))
        have hx' : Ext W0 w' := Below.trans (hx.alloc _) (by rw [HZ.out.1]; exact hbel)
        have hown2 : w'.ownsRow (w.heap.size + 2) 3 1 v' (keptN mask (k + 1)).length (fI (keptN mask (k + 1))) := by
          rw [HS.out.1, fI_append, List.length_append]
          exact hown'
        go_roundw
        case rel => exact ⟨k + 1, by omega, by go_num, hown2, hx'⟩
        case measure => simp [intOf]; omega
      | false =>
        rw [hb, if_neg (by decide), List.append_nil] at hsu
        have HS := Lib.hid (And.intro hsu hb)
        clear hsu hb
        go_wp2_with (refine HK.out.mono ?_; rintro e w' ⟨rfl, rfl⟩; rw [HS.out.2])
        go_roundw
        case rel => exact ⟨k + 1, by omega, by go_num, by rw [HS.out.1]; exact hown, hx⟩
        case measure => simp [intOf]; omega
    · obtain rfl : k = q.length := by omega
      go_wp2_with fail
      go_ret
      exact retOwn_mk (own_base hown (Nat.le_add_right _ _)) hX
/-- What is chosen, and the error. -/
def choL (m : List Int) (q : List Dw) (left : Int) (down : Bool) (mask : Int) : List Int := if devE m q left down = 0 then keptN mask q.length else []
def RetI (w0 : World) (l : List Int) (er : Int) (en : Ending) (w' : World) : Prop :=
  ∃ A c, en = .returned (.tuple #[.slice A l.length c, .int .i64 er]) ∧ Sl w' A l.length c (fI l) ∧ Ext w0 w'
theorem retI_nil {w0 w' : World} {er : Int} (hx : Ext w0 w') : RetI w0 [] er (.returned (.tuple #[.slice none 0 0, .int .i64 er])) w' := ⟨none, 0, rfl, Sl.nil_ _, hx⟩
end Go.Proofs.Ytmkcpnklaijkfaa
/-
  The contracts of arming a device.
-/
namespace Go.Proofs.Ytmkcpnklaijkfaa
open Go.RowKit
/-- Arming. -/
def armE (m : List Int) (q : List Dw) (left : Int) (down : Bool) (n : Int) : Int := if devE m q left down = 0 then (if n < -1 ∨ 1000000 < n then 2 else 0) else 8
def armV (m : List Int) (q : List Dw) (left : Int) (down : Bool) (n : Int) : Dev4 := if armE m q left down n = 0 then (m, q, n, false) else zeroV
theorem armE_ok {m : List Int} {q : List Dw} {left : Int} {down : Bool} {n : Int} (h : armE m q left down n = 0) : devE m q left down = 0 ∧ -1 ≤ n ∧ n ≤ 1000000 := by
  unfold armE at h
  split at h
  · split at h
    · cases h
    · exact ⟨by assumption, by omega, by omega⟩
  · cases h
set_option maxHeartbeats 3200000 in
theorem dArm_any (m : List Int) (q : List Dw) (left : Int) (down : Bool) (n : Int) (A : Option Addr) (c : Nat) (B : Option Addr) (d : Nat) (w : World) (hA : Sl w A m.length c (fU m)) (hB : Sl w B q.length d (fD q)) :
    Calls Try.prog 64 #[.agg #[.slice A m.length c, .slice B q.length d, .int .i64 left, .bool down], .int .i64 n] w (RetV w (armV m q left down n) (armE m q left down n)) := by
  have hbx : Box4 ((w.alloc (Obj.cells #[.slice A m.length c, .slice B q.length d, .int .i64 left, .bool down] 46)).alloc (Obj.cells #[.slice none 0 0, .slice none 0 0, .int .i64 0, .bool false] 46)) w.heap.size (.slice A m.length c) (.slice B q.length d) (.int .i64 left) (.bool down) := (Box4.new w _ _ _ _ _).alloc _
  have hrx : Box4 ((w.alloc (Obj.cells #[.slice A m.length c, .slice B q.length d, .int .i64 left, .bool down] 46)).alloc (Obj.cells #[.slice none 0 0, .slice none 0 0, .int .i64 0, .bool false] 46)) (w.heap.size + 1) (.slice none 0 0) (.slice none 0 0) (.int .i64 0) (.bool false) := Box4.new' _ _ (by simp) _ _ _ _ _
  cases hd : devB m q left down with
  | false =>
    have h0 := devE_no hd
    have he : armE m q left down n = 8 := by simp [armE, h0]
    have hv : armV m q left down n = zeroV := by simp [armV, he]
    rw [hv, he]
    have H0 := Lib.hid h0
    clear h0 hv hd he hbx
    go_enter Try.func64, Try.ntmps64
    go_wp2_with fail
    refine (dCheck_any m q left down A c B d _ ((hB.alloc _).alloc _)).mono ?_
    rintro e w1 ⟨rfl, hx1⟩
    rw [H0.out]
    replace hrx := hrx.ext hx1
    have hX1 : Ext w w1 := Ext.trans (((Ext.refl w).alloc _).alloc _) hx1
    obtain ⟨r0, r1, r2, r3, rf, rl⟩ := hrx
    go_wp2_with fail
    exact bodyPost_ret (v := .tuple #[.agg #[.slice none 0 0, .slice none 0 0, .int .i64 0, .bool false], .int .i64 8]) (by simp [results, Try.results64, go_sem, r0, r1, r2, r3]) rfl (retV_zero (set4_ext hX1 (Nat.le_succ _) _ _ _ _))
  | true =>
    have h0 := devE_yes hd
    obtain ⟨k1, k2, k3, k4, hasc⟩ := devB_bd hd
    have hsz := sizeB_bd k1
    have hql := dirty_le hd
    have H0 := Lib.hid h0
    by_cases hn : n < -1 ∨ 1000000 < n
    · have he : armE m q left down n = 2 := by simp [armE, h0, hn]
      have hv : armV m q left down n = zeroV := by simp [armV, he]
      rw [hv, he]
      clear h0 hv hd he hbx hasc k1 k4
      by_cases h1 : n < -1
      · go_enter Try.func64, Try.ntmps64
        go_wp2_with fail
        refine (dCheck_any m q left down A c B d _ ((hB.alloc _).alloc _)).mono ?_
        rintro e w1 ⟨rfl, hx1⟩
        rw [H0.out]
        replace hrx := hrx.ext hx1
        have hX1 : Ext w w1 := Ext.trans (((Ext.refl w).alloc _).alloc _) hx1
        obtain ⟨r0, r1, r2, r3, rf, rl⟩ := hrx
        go_wp2_with fail
        exact bodyPost_ret (v := .tuple #[.agg #[.slice none 0 0, .slice none 0 0, .int .i64 0, .bool false], .int .i64 2]) (by simp [results, Try.results64, go_sem, r0, r1, r2, r3]) rfl (retV_zero (set4_ext hX1 (Nat.le_succ _) _ _ _ _))
      · have h2 : 1000000 < n := by omega
        go_enter Try.func64, Try.ntmps64
        go_wp2_with fail
        refine (dCheck_any m q left down A c B d _ ((hB.alloc _).alloc _)).mono ?_
        rintro e w1 ⟨rfl, hx1⟩
        rw [H0.out]
        replace hrx := hrx.ext hx1
        have hX1 : Ext w w1 := Ext.trans (((Ext.refl w).alloc _).alloc _) hx1
        obtain ⟨r0, r1, r2, r3, rf, rl⟩ := hrx
        go_wp2_with fail
        exact bodyPost_ret (v := .tuple #[.agg #[.slice none 0 0, .slice none 0 0, .int .i64 0, .bool false], .int .i64 2]) (by simp [results, Try.results64, go_sem, r0, r1, r2, r3]) rfl (retV_zero (set4_ext hX1 (Nat.le_succ _) _ _ _ _))
    · have he : armE m q left down n = 0 := by simp [armE, h0, hn]
      have hv : armV m q left down n = (m, q, n, false) := by simp [armV, he]
      rw [hv, he]
      have h1 : ¬ n < -1 := by omega
      have h2 : ¬ 1000000 < n := by omega
      clear h0 hv hd he hasc k1 k4 hn
      go_enter Try.func64, Try.ntmps64
      go_wp2_with fail
      refine (dCheck_any m q left down A c B d _ ((hB.alloc _).alloc _)).mono ?_
      rintro e w1 ⟨rfl, hx1⟩
      rw [H0.out]
      replace hbx := hbx.ext hx1
      replace hrx := hrx.ext hx1
      have hX1 : Ext w w1 := Ext.trans (((Ext.refl w).alloc _).alloc _) hx1
      obtain ⟨b0, b1, b2, b3, bf, bl⟩ := hbx
      obtain ⟨r0, r1, r2, r3, rf, rl⟩ := hrx
      have rf0 := rf 0
      have rf1 := rf 1
      have rf2 := rf 2
      have rf3 := rf 3
      have hA1 := hA.ext hX1
      have hB1 := hB.ext hX1
      clear hx1 bf rf
      go_wp2_with fail
      go_region_held3 (fun w' => w'.cell? ⟨w.heap.size, 0, none⟩ = some (.slice A m.length c) ∧ w'.cell? ⟨w.heap.size, 1, none⟩ = some (.slice B q.length d)) (go_keep)
        (first
          | (go_at_call 71; refine (cloneU_any m A c _ (hA1.ext (by repeat (first | assumption | exact Ext.refl _ | refine Ext.drewN ?_ _ | refine Ext.drew ?_ | refine Ext.alloc ?_ _ | refine Ext.trans ?_ (by assumption)))) (by omega)).mono ?_; rintro e wn ⟨A2, c2, rfl, hown2, hA2, hxn⟩; have farU := own_far (b := w.heap.size + 1) hown2 (Nat.lt_of_lt_of_le rl (Ext.size (a := w1) (by repeat (first | assumption | exact Ext.refl _ | refine Ext.drewN ?_ _ | refine Ext.drew ?_ | refine Ext.alloc ?_ _ | refine Ext.trans ?_ (by assumption))))); have t0 := hxn.cell (p := ⟨w.heap.size, 0, none⟩) (by assumption); have t1 := hxn.cell (p := ⟨w.heap.size, 1, none⟩) (by assumption); have t2 := hxn.cell (p := ⟨w.heap.size, 2, none⟩) (by assumption); have t3 := hxn.cell (p := ⟨w.heap.size, 3, none⟩) (by assumption); have z0 := hxn.frz (p := ⟨w.heap.size + 1, 0, none⟩) (by assumption) (by assumption); have z1 := hxn.frz (p := ⟨w.heap.size + 1, 1, none⟩) (by assumption) (by assumption); have z2 := hxn.frz (p := ⟨w.heap.size + 1, 2, none⟩) (by assumption) (by assumption); have z3 := hxn.frz (p := ⟨w.heap.size + 1, 3, none⟩) (by assumption) (by assumption); have s0 := hxn.cell (p := ⟨w.heap.size + 1, 0, none⟩) (by assumption); have s1 := hxn.cell (p := ⟨w.heap.size + 1, 1, none⟩) (by assumption); have s2 := hxn.cell (p := ⟨w.heap.size + 1, 2, none⟩) (by assumption); have s3 := hxn.cell (p := ⟨w.heap.size + 1, 3, none⟩) (by assumption))
          | (go_at_call 87; refine (cloneD_any q B d _ (hB1.ext (by repeat (first | assumption | exact Ext.refl _ | refine Ext.drewN ?_ _ | refine Ext.drew ?_ | refine Ext.alloc ?_ _ | refine Ext.trans ?_ (by assumption)))) (by omega)).mono ?_; rintro e wn ⟨B2, d2, rfl, hown3, hB2, hxn⟩; have farD := own_far (b := w.heap.size + 1) hown3 (Nat.lt_of_lt_of_le rl (Ext.size (a := w1) (by repeat (first | assumption | exact Ext.refl _ | refine Ext.drewN ?_ _ | refine Ext.drew ?_ | refine Ext.alloc ?_ _ | refine Ext.trans ?_ (by assumption))))); have t0 := hxn.cell (p := ⟨w.heap.size, 0, none⟩) (by assumption); have t1 := hxn.cell (p := ⟨w.heap.size, 1, none⟩) (by assumption); have t2 := hxn.cell (p := ⟨w.heap.size, 2, none⟩) (by assumption); have t3 := hxn.cell (p := ⟨w.heap.size, 3, none⟩) (by assumption); have z0 := hxn.frz (p := ⟨w.heap.size + 1, 0, none⟩) (by assumption) (by assumption); have z1 := hxn.frz (p := ⟨w.heap.size + 1, 1, none⟩) (by assumption) (by assumption); have z2 := hxn.frz (p := ⟨w.heap.size + 1, 2, none⟩) (by assumption) (by assumption); have z3 := hxn.frz (p := ⟨w.heap.size + 1, 3, none⟩) (by assumption) (by assumption); have s0 := hxn.cell (p := ⟨w.heap.size + 1, 0, none⟩) (by assumption); have s1 := hxn.cell (p := ⟨w.heap.size + 1, 1, none⟩) (by assumption); have s2 := hxn.cell (p := ⟨w.heap.size + 1, 2, none⟩) (by assumption); have s3 := hxn.cell (p := ⟨w.heap.size + 1, 3, none⟩) (by assumption)))
      all_goals
        go_wp2_with fail
        refine bodyPost_ret (v := .tuple #[.agg #[.slice A2 m.length c2, .slice B2 q.length d2, .int .i64 n, .bool false], .int .i64 0]) (by simp [results, Try.results64, go_sem, s0, s1, s2, s3]) rfl ?_
        exact ⟨_, _, _, _, rfl, set4_sl (hA2.ext (by repeat (first | assumption | exact Ext.refl _ | refine Ext.drewN ?_ _ | refine Ext.drew ?_ | refine Ext.alloc ?_ _ | refine Ext.trans ?_ (by assumption)))) farU _ _ _ _, set4_sl (hB2.ext (by repeat (first | assumption | exact Ext.refl _ | refine Ext.drewN ?_ _ | refine Ext.drew ?_ | refine Ext.alloc ?_ _ | refine Ext.trans ?_ (by assumption)))) farD _ _ _ _, set4_ext (a := w) (by repeat (first | assumption | exact Ext.refl _ | refine Ext.drewN ?_ _ | refine Ext.drew ?_ | refine Ext.alloc ?_ _ | refine Ext.trans ?_ (by assumption))) (Nat.le_succ _) _ _ _ _⟩
end Go.Proofs.Ytmkcpnklaijkfaa
/-
  The contracts of crashes.
-/
namespace Go.Proofs.Ytmkcpnklaijkfaa
open Go.RowKit
/-- A device behind a crash. -/
def crashV (m : List Int) (q : List Dw) (left : Int) (down : Bool) (mask : Int) : Dev4 := if devE m q left down = 0 then (crM mask 0 m q, [], -1, false) else zeroV
/-- The image with the words of the first chosen indices. -/
theorem keptN_at {mask : Int} {n i : Nat} {x : Int} (h : (keptN mask n)[i]? = some x) : ∃ k : Nat, x = (k : Int) ∧ k < n ∧ kpB mask k = true := by
  have := List.mem_of_getElem? h
  simp only [keptN, List.mem_map, List.mem_filter, List.mem_range] at this
  obtain ⟨k, ⟨h1, h2⟩, rfl⟩ := this
  exact ⟨k, rfl, h1, h2⟩
/-- Stores of the words with these indices. -/
def putI (m : List Int) (q : List Dw) (l : List Int) : List Int := l.foldl (fun m x => match q[x.toNat]? with | some y => m.set y.1.toNat y.2.1 | none => m) m
theorem putI_take {m : List Int} {q : List Dw} {l : List Int} {i : Nat} {x : Int} {y : Dw} (h : l[i]? = some x) (hy : q[x.toNat]? = some y) : putI m q (l.take (i + 1)) = (putI m q (l.take i)).set y.1.toNat y.2.1 := by
  rw [List.take_add_one, h]
  simp [putI, List.foldl_append, hy]
theorem putI_length (q : List Dw) : ∀ (l : List Int) (m : List Int), (putI m q l).length = m.length
  | [], _ => rfl
  | x :: l, m => by
    have h : putI m q (x :: l) = putI (match q[x.toNat]? with | some y => m.set y.1.toNat y.2.1 | none => m) q l := rfl
    rw [h, putI_length q l]
    split <;> simp
theorem putI_kept (m : List Int) (q : List Dw) (mask : Int) : ∀ n, n ≤ q.length → putI m q (keptN mask n) = crM mask 0 m (q.take n)
  | 0, _ => rfl
  | n + 1, h => by
    have hx : q[n]? = some q[n] := List.getElem?_eq_getElem (by omega)
    rw [keptN_succ, crM_take hx, ← putI_kept m q mask n (by omega)]
    by_cases hk : kpB mask n = true
    · rw [if_pos hk, if_pos hk]
      simp [putI, List.foldl_append, hx]
    · rw [if_neg hk, if_neg hk, List.append_nil]
set_option maxHeartbeats 3200000 in
theorem dCrash_any (m : List Int) (q : List Dw) (left : Int) (down : Bool) (mask : Int) (A : Option Addr) (c : Nat) (B : Option Addr) (d : Nat) (w : World) (hA : Sl w A m.length c (fU m)) (hB : Sl w B q.length d (fD q)) (hm : InU mask) :
    Calls Try.prog 31 #[.agg #[.slice A m.length c, .slice B q.length d, .int .i64 left, .bool down], .int .u64 mask] w (RetV w (crashV m q left down mask) (devE m q left down)) := by
  have hbx : Box4 ((w.alloc (Obj.cells #[.slice A m.length c, .slice B q.length d, .int .i64 left, .bool down] 46)).alloc (Obj.cells #[.slice none 0 0, .slice none 0 0, .int .i64 0, .bool false] 46)) w.heap.size (.slice A m.length c) (.slice B q.length d) (.int .i64 left) (.bool down) := (Box4.new w _ _ _ _ _).alloc _
  have hrx : Box4 ((w.alloc (Obj.cells #[.slice A m.length c, .slice B q.length d, .int .i64 left, .bool down] 46)).alloc (Obj.cells #[.slice none 0 0, .slice none 0 0, .int .i64 0, .bool false] 46)) (w.heap.size + 1) (.slice none 0 0) (.slice none 0 0) (.int .i64 0) (.bool false) := Box4.new' _ _ (by simp) _ _ _ _ _
  cases hd : devB m q left down with
  | false =>
    have h0 := devE_no hd
    have hv : crashV m q left down mask = zeroV := by simp [crashV, h0]
    rw [hv, h0]
    have H0 := Lib.hid h0
    clear h0 hv hd hbx
    go_enter Try.func31, Try.ntmps31
    go_wp2_with fail
    refine (dCheck_any m q left down A c B d _ ((hB.alloc _).alloc _)).mono ?_
    rintro e w1 ⟨rfl, hx1⟩
    rw [H0.out]
    replace hrx := hrx.ext hx1
    have hX1 : Ext w w1 := Ext.trans (((Ext.refl w).alloc _).alloc _) hx1
    obtain ⟨r0, r1, r2, r3, rf, rl⟩ := hrx
    go_wp2_with fail
    exact bodyPost_ret (v := .tuple #[.agg #[.slice none 0 0, .slice none 0 0, .int .i64 0, .bool false], .int .i64 8]) (by simp [results, Try.results31, go_sem, r0, r1, r2, r3]) rfl (retV_zero (set4_ext hX1 (Nat.le_succ _) _ _ _ _))
  | true =>
    have h0 := devE_yes hd
    obtain ⟨k1, k2, k3, k4, hasc⟩ := devB_bd hd
    have hsz := sizeB_bd k1
    have hql := dirty_le hd
    have hv : crashV m q left down mask = (crM mask 0 m q, [], -1, false) := by simp [crashV, h0]
    rw [hv, h0]
    have H0 := Lib.hid (And.intro h0 hasc)
    clear h0 hv hd hasc k1 k4
    go_enter Try.func31, Try.ntmps31
    go_wp2_with fail
    refine (dCheck_any m q left down A c B d _ ((hB.alloc _).alloc _)).mono ?_
    rintro e w1 ⟨rfl, hx1⟩
    rw [H0.out.1]
    replace hbx := hbx.ext hx1
    replace hrx := hrx.ext hx1
    have hX1 : Ext w w1 := Ext.trans (((Ext.refl w).alloc _).alloc _) hx1
    have hl1 : w.heap.size + 2 ≤ w1.heap.size := hrx.lt
    obtain ⟨b0, b1, b2, b3, bf, bl⟩ := hbx
    go_wp2_with fail
    refine (cloneU_any m A c w1 (hA.ext hX1) (by omega)).mono ?_
    rintro e w2 ⟨A2, c2, rfl, hown2, hA2, hx2⟩
    have hX2 := hX1.trans hx2
    replace hbx := (Box4.mk b0 b1 b2 b3 bf bl).ext hx2
    replace hrx := hrx.ext hx2
    replace hown2 := own_base hown2 hl1
    clear b0 b1 b2 b3 bf bl hx1 hX1 hx2 hA2 hl1
    obtain ⟨b0, b1, b2, b3, bf, bl⟩ := hbx
    go_wp2_with fail
    refine (chosen_any m q left down mask A c B d w2 hm (by omega)).mono ?_
    rintro e w3 ⟨A3, c3, rfl, hown3, hA3, hx3⟩
    have hX3 := hX2.trans hx3
    replace hbx := (Box4.mk b0 b1 b2 b3 bf bl).ext hx3
    replace hrx := hrx.ext hx3
    replace hown2 := own_ext hown2 hx3
    obtain ⟨g, rfl, hg⟩ := own_head hown2 (by omega)
    have hap := own_apart hown3 hown2 (by decide)
    clear hown3
    have hne := run_neqD
    have hkl := keptN_length mask q.length
    obtain ⟨N, hN⟩ : ∃ N, keptN mask q.length = N := ⟨_, rfl⟩
    rw [hN] at hA3 hkl ⊢
    have HN := Lib.hid hN
    have hB3 := hB.ext hX3
    clear b0 b1 b2 b3 bf bl hX2 hx3 hN
    obtain ⟨b0, b1, b2, b3, bf, bl⟩ := hbx
    go_wp2_with fail
    go_loopw [24] (fun i wr => ∃ k : Nat, k ≤ N.length ∧ i = .int .i64 k ∧ wr.ownsRow (w.heap.size + 2) 24 1 (.slice (some ⟨g, 0, none⟩) m.length c2) m.length (fU (putI m q (N.take k))) ∧ Sl wr A3 N.length c3 (fI N) ∧ Box4 wr w.heap.size (.slice A m.length c) (.slice B q.length d) (.int .i64 left) (.bool down) ∧ Box4 wr (w.heap.size + 1) (.slice none 0 0) (.slice none 0 0) (.int .i64 0) (.bool false) ∧ Ext w wr) (fun i _ => N.length - (intOf i).toNat)
    case atStart => exact ⟨0, Nat.zero_le _, rfl, hown2, hA3, ⟨b0, b1, b2, b3, bf, bl⟩, hrx, hX3⟩
    case round =>
      clear b0 b1 b2 b3 bf bl hrx hown2 hA3 hX3 hB3
      obtain ⟨k, hk, rfl, hown, hA3, hbx, hrx, hx⟩ := hrel
      by_cases hlt : k < N.length
      · obtain ⟨ad, z, rfl, hz, gz⟩ := hA3.i_at hlt
        obtain ⟨j, rfl, hj, _⟩ := keptN_at (mask := mask) (n := q.length) (i := k) (x := z) (by rw [HN.out]; exact hz)
        obtain ⟨ad', x, rfl, hat, g0, g1, g2⟩ := (hB.ext hx).d_at hj
        obtain ⟨x0, x1⟩ := ascB_mem H0.out.2 x (List.mem_of_getElem? hat)
        have hlen := putI_length q (N.take k) m
        obtain ⟨y, hy, hc, hf⟩ := own_at_U hown (i := x.1.toNat) (by rw [hlen]; omega)
        have hstep := putI_take (m := m) (q := q) hz (y := x) (by simpa using hat)
        have hgl := block_lt_of_cell hc
        simp only at hgl
        have Hst := Lib.hid (And.intro hstep (And.intro hy hlen))
        have i0 : 0 ≤ x.1 := by omega
        have ne1 : g ≠ w.heap.size := by omega
        have ne2 : g ≠ w.heap.size + 1 := by omega
        obtain ⟨b0, b1, b2, b3, bf, bl⟩ := hbx
        clear hat hz hy hstep hlen
        by_cases hv : x.2.1 = y
        · have hq : neD x.1 x.2.1 true x.1 y true = false := by simp [neD, hv]
          have hH : Hid (putI m q (N.take (k + 1)) = putI m q (N.take k)) := Lib.hid (by rw [Hst.out.1, hv, set_same Hst.out.2.1])
          clear hv
          go_wp2_with fail
          go_quiet (fail)
          go_wp2_with fail
          go_roundw
          case rel =>
            refine ⟨k + 1, by omega, by go_num, by rw [hH.out]; exact own_ext hown (by repeat (first | assumption | exact Ext.refl _ | refine Ext.drewN ?_ _ | refine Ext.drew ?_ | refine Ext.alloc ?_ _ | refine Ext.trans ?_ (by assumption))), hA3.ext (by repeat (first | assumption | exact Ext.refl _ | refine Ext.drewN ?_ _ | refine Ext.drew ?_ | refine Ext.alloc ?_ _ | refine Ext.trans ?_ (by assumption))), (Box4.mk b0 b1 b2 b3 bf bl).ext (by repeat (first | assumption | exact Ext.refl _ | refine Ext.drewN ?_ _ | refine Ext.drew ?_ | refine Ext.alloc ?_ _ | refine Ext.trans ?_ (by assumption))), hrx.ext (by repeat (first | assumption | exact Ext.refl _ | refine Ext.drewN ?_ _ | refine Ext.drew ?_ | refine Ext.alloc ?_ _ | refine Ext.trans ?_ (by assumption))), (by repeat (first | assumption | exact Ext.refl _ | refine Ext.drewN ?_ _ | refine Ext.drew ?_ | refine Ext.alloc ?_ _ | refine Ext.trans ?_ (by assumption)))⟩
          case measure => simp [intOf]; omega
        · have hq : neD x.1 x.2.1 true x.1 y true = true := by simp [neD, hv]
          clear hv
          go_wp2_with fail
          go_quiet (fail)
          go_wp2_with fail
          go_roundw
          case rel =>
            refine ⟨k + 1, by omega, by go_num, ?_, ?_, ?_, ?_, ?_⟩
            · rw [Hst.out.1]
              first | exact own_set_U (own_ext hown (by repeat (first | assumption | exact Ext.refl _ | refine Ext.drewN ?_ _ | refine Ext.drew ?_ | refine Ext.alloc ?_ _ | refine Ext.trans ?_ (by assumption)))) _ _ | exact own_ext (own_set_U hown _ _) (by repeat (first | assumption | exact Ext.refl _ | refine Ext.drewN ?_ _ | refine Ext.drew ?_ | refine Ext.alloc ?_ _ | refine Ext.trans ?_ (by assumption)))
            · first | exact (hA3.ext (by repeat (first | assumption | exact Ext.refl _ | refine Ext.drewN ?_ _ | refine Ext.drew ?_ | refine Ext.alloc ?_ _ | refine Ext.trans ?_ (by assumption)))).setCell (p := ⟨g, x.1.toNat, none⟩) hap _ | exact (hA3.setCell (p := ⟨g, x.1.toNat, none⟩) hap _).ext (by repeat (first | assumption | exact Ext.refl _ | refine Ext.drewN ?_ _ | refine Ext.drew ?_ | refine Ext.alloc ?_ _ | refine Ext.trans ?_ (by assumption)))
            · first | exact ((Box4.mk b0 b1 b2 b3 bf bl).ext (by repeat (first | assumption | exact Ext.refl _ | refine Ext.drewN ?_ _ | refine Ext.drew ?_ | refine Ext.alloc ?_ _ | refine Ext.trans ?_ (by assumption)))).far (p := ⟨g, x.1.toNat, none⟩) ne1 _ | exact ((Box4.mk b0 b1 b2 b3 bf bl).far (p := ⟨g, x.1.toNat, none⟩) ne1 _).ext (by repeat (first | assumption | exact Ext.refl _ | refine Ext.drewN ?_ _ | refine Ext.drew ?_ | refine Ext.alloc ?_ _ | refine Ext.trans ?_ (by assumption)))
            · first | exact (hrx.ext (by repeat (first | assumption | exact Ext.refl _ | refine Ext.drewN ?_ _ | refine Ext.drew ?_ | refine Ext.alloc ?_ _ | refine Ext.trans ?_ (by assumption)))).far (p := ⟨g, x.1.toNat, none⟩) ne2 _ | exact (hrx.far (p := ⟨g, x.1.toNat, none⟩) ne2 _).ext (by repeat (first | assumption | exact Ext.refl _ | refine Ext.drewN ?_ _ | refine Ext.drew ?_ | refine Ext.alloc ?_ _ | refine Ext.trans ?_ (by assumption)))
            · first | exact Ext.setCell (a := w) (p := ⟨g, x.1.toNat, none⟩) (by repeat (first | assumption | exact Ext.refl _ | refine Ext.drewN ?_ _ | refine Ext.drew ?_ | refine Ext.alloc ?_ _ | refine Ext.trans ?_ (by assumption))) (by show w.heap.size ≤ g; omega) _ | exact Ext.trans (hx.setCell (p := ⟨g, x.1.toNat, none⟩) (by show w.heap.size ≤ g; omega) _) (by repeat (first | assumption | exact Ext.refl _ | refine Ext.drewN ?_ _ | refine Ext.drew ?_ | refine Ext.alloc ?_ _ | refine Ext.trans ?_ (by assumption)))
          case measure => simp [intOf]; omega
      · obtain rfl : k = N.length := by omega
        have hfin : putI m q N = crM mask 0 m q := by rw [← HN.out, putI_kept m q mask q.length (Nat.le_refl _), List.take_length]
        have hcl := crM_length mask q 0 m
        rw [List.take_length, hfin] at hown
        have HF := Lib.hid hcl
        have hg1 := own_far (b := w.heap.size + 1) hown (by omega)
        have HA := own_sl4 hown
        obtain ⟨r0, r1, r2, r3, rf, rl⟩ := hrx
        clear hfin hcl hown hap
        go_wp2_with fail
        refine bodyPost_ret (v := .tuple #[.agg #[.slice (some ⟨g, 0, none⟩) m.length c2, .slice none 0 0, .int .i64 (-1), .bool false], .int .i64 0]) (by simp [results, Try.results31, go_sem, r0, r1, r2, r3]) rfl ?_
        exact retV_at HF.out rfl rfl (set4_sl HA hg1 _ _ _ _) (Sl.nil_ _) (set4_ext hx (Nat.le_succ _) _ _ _ _)
end Go.Proofs.Ytmkcpnklaijkfaa
/-
  The contracts of the reference's crashes.
-/
namespace Go.Proofs.Ytmkcpnklaijkfaa
open Go.RowKit
/-- The call returned a device. -/
def RetW (w0 : World) (D : Dev4) (en : Ending) (w' : World) : Prop :=
  ∃ A c B k, en = .returned (.agg #[.slice A D.1.length c, .slice B D.2.1.length k, .int .i64 D.2.2.1, .bool D.2.2.2]) ∧ Sl w' A D.1.length c (fU D.1) ∧ Sl w' B D.2.1.length k (fD D.2.1) ∧ (∀ ad, A = some ad → w0.heap.size ≤ ad.block) ∧ (∀ ad, B = some ad → w0.heap.size ≤ ad.block) ∧ Ext w0 w'
theorem retW_at {w0 w' : World} {m : List Int} {q : List Dw} {left : Int} {down : Bool} {n k : Nat} {L : Int} {A B : Option Addr} {c d : Nat} (hm : m.length = n) (hq : q.length = k) (hl : left = L) (hA : Sl w' A n c (fU m)) (hB : Sl w' B k d (fD q)) (nA : ∀ ad, A = some ad → w0.heap.size ≤ ad.block) (nB : ∀ ad, B = some ad → w0.heap.size ≤ ad.block) (hx : Ext w0 w') :
    RetW w0 (m, q, left, down) (.returned (.agg #[.slice A n c, .slice B k d, .int .i64 L, .bool down])) w' := by
  subst hm hq hl
  exact ⟨A, c, B, d, rfl, hA, hB, nA, nB, hx⟩
theorem own_new {w : World} {base b : Nat} {e : TypeId} {size n : Nat} {A : Option Addr} {c : Nat} {xs : List Value} (h : w.ownsRow base e size (.slice A n c) n xs) (hb : b ≤ base) : ∀ ad, A = some ad → b ≤ ad.block := by
  rintro ad rfl
  have := (h.lt ad.block rfl).1
  omega
set_option maxRecDepth 100000 in
set_option maxHeartbeats 3200000 in
theorem dCrashed_any (m : List Int) (q : List Dw) (left : Int) (down : Bool) (mask : Int) (A : Option Addr) (c : Nat) (B : Option Addr) (d : Nat) (w : World) (hA : Sl w A m.length c (fU m)) (hB : Sl w B q.length d (fD q)) (hm : InU mask) (hd : devB m q left down = true) :
    Calls Try.prog 100 #[.agg #[.slice A m.length c, .slice B q.length d, .int .i64 left, .bool down], .int .u64 mask] w (RetW w (crM mask 0 m q, [], -1, false)) := by
  have hbx : Box4 ((w.alloc (Obj.cells #[.slice A m.length c, .slice B q.length d, .int .i64 left, .bool down] 46)).alloc (Obj.cells #[.slice none 0 0, .slice none 0 0, .int .i64 0, .bool false] 46)) w.heap.size (.slice A m.length c) (.slice B q.length d) (.int .i64 left) (.bool down) := (Box4.new w _ _ _ _ _).alloc _
  have hrx : Box4 ((w.alloc (Obj.cells #[.slice A m.length c, .slice B q.length d, .int .i64 left, .bool down] 46)).alloc (Obj.cells #[.slice none 0 0, .slice none 0 0, .int .i64 0, .bool false] 46)) (w.heap.size + 1) (.slice none 0 0) (.slice none 0 0) (.int .i64 0) (.bool false) := Box4.new' _ _ (by simp) _ _ _ _ _
  obtain ⟨k1, k2, k3, k4, hasc⟩ := devB_bd hd
  have hsz := sizeB_bd k1
  have hql := dirty_le hd
  have H0 := Lib.hid hasc
  clear hd hasc k1 k4
  go_enter Try.func100, Try.ntmps100
  go_wp2_with fail
  refine (dRTwin_any m q left down A c B d _ ((hA.alloc _).alloc _) ((hB.alloc _).alloc _) (by omega) (by omega)).mono ?_
  rintro e w1 ⟨A1, c1, B1, d1, rfl, hown1, hown2, hx1⟩
  have hX1 : Ext w w1 := Ext.trans (((Ext.refl w).alloc _).alloc _) hx1
  replace hbx := hbx.ext hx1
  replace hrx := hrx.ext hx1
  have hl1 := hrx.lt
  have hlt1 := fun ad h => (hown1.lt ad h)
  go_upto_region 2 with fail
  obtain ⟨W2, hW2⟩ : ∃ W2, W2 = w1.alloc (Obj.cells #[.slice A1 m.length c1, .slice B1 q.length d1, .int .i64 left, .bool down] 46) := ⟨_, rfl⟩
  rw [← hW2]
  have hox := Box4.new w1 (.slice A1 m.length c1) (.slice B1 q.length d1) (.int .i64 left) (.bool down) 46
  have hx2 := (Ext.refl w1).alloc (Obj.cells #[.slice A1 m.length c1, .slice B1 q.length d1, .int .i64 left, .bool down] 46)
  rw [← hW2] at hox hx2
  replace hbx := hbx.ext hx2
  replace hrx := hrx.ext hx2
  have hX2 := hX1.trans hx2
  have hhi := own_ne_hi hown1 (Nat.le_refl _)
  replace hown1 := own_base (own_ext hown1 hx2) (base' := w.heap.size + 2) (by simp)
  obtain ⟨g0, hg0⟩ : ∃ g0, w1.heap.size = g0 := ⟨_, rfl⟩
  rw [hg0] at hox hl1 hhi ⊢
  obtain ⟨g, rfl, hg⟩ := own_head hown1 (by omega)
  have ne0 : g ≠ g0 := hhi _ rfl
  have ne3 : g0 ≠ w.heap.size := by omega
  have ne4 : g0 ≠ w.heap.size + 1 := by omega
  clear hW2 hX1 hx1 hx2 hg0 hlt1 hhi hown2
  go_wp2_with fail
  go_loopw [6] (fun i wr => ∃ k : Nat, k ≤ q.length ∧ i = .int .i64 k ∧ wr.ownsRow (w.heap.size + 2) 24 1 (.slice (some ⟨g, 0, none⟩) m.length c1) m.length (fU (crM mask 0 m (q.take k))) ∧ Box4 wr w.heap.size (.slice A m.length c) (.slice B q.length d) (.int .i64 left) (.bool down) ∧ Box4 wr (w.heap.size + 1) (.slice none 0 0) (.slice none 0 0) (.int .i64 0) (.bool false) ∧ Box4 wr g0 (.slice (some ⟨g, 0, none⟩) m.length c1) (.slice B1 q.length d1) (.int .i64 left) (.bool down) ∧ Ext w wr) (fun i _ => q.length - (intOf i).toNat)
  case atStart => exact ⟨0, Nat.zero_le _, rfl, hown1, hbx, hrx, hox, hX2⟩
  case round =>
    clear hbx hrx hox hX2 hown1
    obtain ⟨k, hk, rfl, hown, hbx, hrx, hox, hx⟩ := hrel
    obtain ⟨b0, b1, b2, b3, bf, bl⟩ := hbx
    by_cases hlt : k < q.length
    · obtain ⟨ad', x, rfl, hat, p0, p1, p2⟩ := (hB.ext hx).d_at hlt
      obtain ⟨x0, x1⟩ := ascB_mem H0.out x (List.mem_of_getElem? hat)
      have hlen := crM_length mask (q.take k) 0 m
      have hstep := crM_take (mask := mask) (m := m) hat
      have hke := refKeep_any mask k wr hm (by omega)
      have HK := Lib.hid hke
      clear hke
      cases hb : kpB mask k with
      | true =>
        rw [hb, if_pos rfl] at hstep
        obtain ⟨y, hy, hc, hf⟩ := own_at_U hown (i := x.1.toNat) (by rw [hlen]; omega)
        have hgl := block_lt_of_cell hc
        simp only at hgl
        have Hst := Lib.hid (And.intro hstep hb)
        have i0 : 0 ≤ x.1 := by omega
        have i1 : (0 : Int) ≤ k := by omega
        have i2 : (k : Int) < q.length := by omega
        have ne1 : g ≠ w.heap.size := by omega
        have ne2 : g ≠ w.heap.size + 1 := by omega
        obtain ⟨o0, o1, o2, o3, of, ol⟩ := hox
        clear hat hy hstep hlen hb
        go_wp2_with (refine HK.out.mono ?_; rintro e w' ⟨rfl, rfl⟩; rw [Hst.out.2])
        go_region
        go_wp2_with fail
        go_roundw
        case rel =>
          refine ⟨k + 1, by omega, by go_num, ?_, ?_, ?_, ?_, ?_⟩
          · rw [Hst.out.1]
            exact own_set_U hown _ _
          · exact ((Box4.mk b0 b1 b2 b3 bf bl).far (p := ⟨g, x.1.toNat, none⟩) ne1 _).ext (by repeat (first | assumption | exact Ext.refl _ | refine Ext.drewN ?_ _ | refine Ext.drew ?_ | refine Ext.alloc ?_ _ | refine Ext.trans ?_ (by assumption)))
          · exact (hrx.far (p := ⟨g, x.1.toNat, none⟩) ne2 _).ext (by repeat (first | assumption | exact Ext.refl _ | refine Ext.drewN ?_ _ | refine Ext.drew ?_ | refine Ext.alloc ?_ _ | refine Ext.trans ?_ (by assumption)))
          · exact ((Box4.mk o0 o1 o2 o3 of ol).far (p := ⟨g, x.1.toNat, none⟩) ne0 _).ext (by repeat (first | assumption | exact Ext.refl _ | refine Ext.drewN ?_ _ | refine Ext.drew ?_ | refine Ext.alloc ?_ _ | refine Ext.trans ?_ (by assumption)))
          · exact (hx.setCell (p := ⟨g, x.1.toNat, none⟩) (by show w.heap.size ≤ g; omega) _).drew
        case measure => simp [intOf]; omega
      | false =>
        rw [hb, if_neg (by decide)] at hstep
        have Hst := Lib.hid (And.intro hstep hb)
        clear hat hstep hlen hb
        go_wp2_with (refine HK.out.mono ?_; rintro e w' ⟨rfl, rfl⟩; rw [Hst.out.2])
        go_roundw
        case rel => exact ⟨k + 1, by omega, by go_num, by rw [Hst.out.1]; exact hown, ⟨b0, b1, b2, b3, bf, bl⟩, hrx, hox, hx⟩
        case measure => simp [intOf]; omega
    · obtain rfl : k = q.length := by omega
      rw [List.take_length] at hown
      have hcl := crM_length mask q 0 m
      have HF := Lib.hid hcl
      have hg1 := own_far (b := w.heap.size + 1) hown (by omega)
      have HA := own_sl4 hown
      have hnA := own_new hown (b := w.heap.size) (by omega)
      obtain ⟨r0, r1, r2, r3, rf, rl⟩ := hrx
      obtain ⟨o0, o1, o2, o3, of, ol⟩ := hox
      clear hcl hown
      go_wp2_with fail
      refine bodyPost_ret (v := .agg #[.slice (some ⟨g, 0, none⟩) m.length c1, .slice none 0 0, .int .i64 (-1), .bool false]) (by simp [results, Try.results100, go_sem, r0, r1, r2, r3]) rfl ?_
      exact retW_at HF.out rfl rfl (set4_sl HA hg1 _ _ _ _) (Sl.nil_ _) hnA (fun _ h => by cases h) (set4_ext hx (Nat.le_succ _) _ _ _ _)
end Go.Proofs.Ytmkcpnklaijkfaa
/-
  Plain facts of a crash that keeps all, of one that keeps nothing, and of a crash after a crash.
-/
namespace Go.Proofs.Ytmkcpnklaijkfaa
theorem kpB_all (i : Nat) : kpB 18446744073709551615 i = true := by
  have h : ∀ j : Fin 64, kpB 18446744073709551615 j.1 = true := by decide +kernel
  have := h ⟨i % 64, Nat.mod_lt _ (by decide)⟩
  simpa [kpB] using this
theorem kpB_none (i : Nat) : kpB 0 i = false := by simp [kpB]
theorem crM_all : ∀ (q : List Dw) (i : Nat) (m : List Int), crM 18446744073709551615 i m q = wrd m q
  | [], _, _ => rfl
  | x :: l, i, m => by simp only [crM, kpB_all, wrd, List.foldl_cons, if_true]; exact crM_all l _ _
theorem crM_none : ∀ (q : List Dw) (i : Nat) (m : List Int), crM 0 i m q = m
  | [], _, _ => rfl
  | x :: l, i, m => by simp only [crM, kpB_none]; exact crM_none l _ _
theorem devB_cr {m : List Int} {q : List Dw} {left : Int} {down : Bool} (h : devB m q left down = true) (M : List Int) (hM : M.length = m.length) : devB M [] (-1) false = true := by
  obtain ⟨h1, -⟩ := devB_bd h
  simp [devB, hM, h1, ascB]
theorem crashV_ok {m : List Int} {q : List Dw} {left : Int} {down : Bool} (h : devB m q left down = true) (mask : Int) : crashV m q left down mask = (crM mask 0 m q, [], -1, false) := by simp [crashV, devE_yes h]
theorem crashV_again {m : List Int} {q : List Dw} {left : Int} {down : Bool} (h : devB m q left down = true) (M : List Int) (hM : M.length = m.length) (again : Int) : crashV M [] (-1) false again = (M, [], -1, false) ∧ devE M [] (-1) false = 0 := ⟨by rw [crashV_ok (devB_cr h M hM)]; rfl, devE_yes (devB_cr h M hM)⟩
end Go.Proofs.Ytmkcpnklaijkfaa
/-
  Plain facts: each word behind a crash is old or new; the indices kept, in order.
-/
namespace Go.Proofs.Ytmkcpnklaijkfaa
theorem crM_far {mask : Int} : ∀ {q : List Dw} {i : Nat} {m : List Int} {j : Nat}, (∀ x ∈ q, x.1.toNat ≠ j) → (crM mask i m q)[j]? = m[j]?
  | [], _, _, _, _ => rfl
  | x :: l, i, m, j, h => by
    unfold crM
    rw [crM_far (fun y hy => h y (List.mem_cons_of_mem _ hy))]
    split
    · rw [List.getElem?_set_ne (h x (List.mem_cons_self ..))]
    · rfl
theorem crM_hit {mask n : Int} : ∀ {q : List Dw} {b : Int} {i : Nat} {m : List Int}, -1 ≤ b → ascB n b q = true → (m.length : Int) = n → ∀ {k : Nat} {x : Dw}, q[k]? = some x → (crM mask i m q)[x.1.toNat]? = if kpB mask (i + k) then some x.2.1 else m[x.1.toNat]?
  | [], _, _, _, _, _, _, k, x, hx => by simp at hx
  | y :: l, b, i, m, hb, hq, hm, k, x, hx => by
    simp only [ascB, Bool.and_eq_true, decide_eq_true_eq] at hq
    unfold crM
    cases k with
    | zero =>
      simp only [List.getElem?_cons_zero, Option.some.injEq] at hx
      subst hx
      rw [crM_far (fun z hz => by have := ascB_mem hq.2 z hz; omega), Nat.add_zero]
      split
      · rw [List.getElem?_set_self (by omega)]
      · rfl
    | succ k =>
      simp only [List.getElem?_cons_succ] at hx
      have hz := ascB_mem hq.2 x (List.mem_of_getElem? hx)
      have hl : ((if kpB mask i = true then m.set y.1.toNat y.2.1 else m).length : Int) = n := by split <;> simp [hm]
      rw [crM_hit (by omega) hq.2 hl hx, show i + 1 + k = i + (k + 1) from by omega]
      split
      · rfl
      · split
        · rw [List.getElem?_set_ne (by omega)]
        · rfl
theorem crM_or {mask n : Int} {q : List Dw} {m : List Int} (hq : ascB n (-1) q = true) (hm : (m.length : Int) = n) (j : Nat) : (crM mask 0 m q)[j]? = m[j]? ∨ (crM mask 0 m q)[j]? = (wrd m q)[j]? := by
  by_cases h : ∃ x ∈ q, x.1.toNat = j
  · obtain ⟨x, hx, rfl⟩ := h
    obtain ⟨k, hk⟩ := List.mem_iff_getElem?.1 hx
    rw [crM_hit (by omega) hq hm hk, wrd_at (by omega) hq hm x hx]
    split
    · exact .inr rfl
    · exact .inl rfl
  · exact .inl (crM_far fun x hx e => h ⟨x, hx, e⟩)
theorem keptN_split (mask : Int) (i : Nat) : ∀ n, i ≤ n → ∃ r, keptN mask n = keptN mask i ++ r ∧ ∀ y ∈ r, (i : Int) ≤ y := by
  intro n hn
  induction n with
  | zero => obtain rfl : i = 0 := by omega
            exact ⟨[], by simp, by simp⟩
  | succ n ih =>
    by_cases h : i ≤ n
    · obtain ⟨r, h1, h2⟩ := ih h
      refine ⟨r ++ (if kpB mask n then [(n : Int)] else []), by rw [keptN_succ, h1, List.append_assoc], ?_⟩
      intro y hy
      rcases List.mem_append.1 hy with hy | hy
      · exact h2 y hy
      · split at hy
        · simp at hy; omega
        · simp at hy
    · obtain rfl : i = n + 1 := by omega
      exact ⟨[], by simp, by simp⟩
/-- The next kept index, when the mask keeps i. -/
theorem keptN_yes {mask : Int} {i n : Nat} (h : i < n) (hk : kpB mask i = true) : (keptN mask n)[(keptN mask i).length]? = some (i : Int) := by
  obtain ⟨r, h1, -⟩ := keptN_split mask (i + 1) n h
  rw [h1, keptN_succ, hk, if_pos rfl, List.append_assoc, List.getElem?_append_right (Nat.le_refl _)]
  simp
theorem keptN_no {mask : Int} {i n : Nat} (h : i < n) (hk : kpB mask i = false) {y : Int} (hy : (keptN mask n)[(keptN mask i).length]? = some y) : y ≠ (i : Int) := by
  obtain ⟨r, h1, h2⟩ := keptN_split mask (i + 1) n h
  rw [h1, keptN_succ, hk, if_neg (by decide), List.append_nil, List.getElem?_append_right (Nat.le_refl _)] at hy
  have := h2 y (List.mem_of_getElem? hy)
  omega
theorem keptN_le {mask : Int} {i n : Nat} (h : i ≤ n) : (keptN mask i).length ≤ (keptN mask n).length := by
  obtain ⟨r, h1, -⟩ := keptN_split mask i n h
  rw [h1]; simp
end Go.Proofs.Ytmkcpnklaijkfaa
