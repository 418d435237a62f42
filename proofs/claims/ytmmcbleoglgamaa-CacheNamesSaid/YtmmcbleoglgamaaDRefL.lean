/-
  The contracts of the reference's loading, words, copies, comparisons of devices.
-/
import Derived.Test.YtmmcbleoglgamaaDLoad
import Derived.Deep.RegionLaw
namespace Go.Proofs.Ytmmcbleoglgamaa
open Go.RowKit
theorem box4b {w w1 : World} {T : TypeId} {v0 v1 v2 v3 u0 u1 u2 u3 : Value} (hx : Ext ((w.alloc (Obj.cells #[v0, v1, v2, v3] T)).alloc (Obj.cells #[u0, u1, u2, u3] T)) w1) :
    w1.cell? ⟨w.heap.size, 0, none⟩ = some v0 ∧ w1.cell? ⟨w.heap.size, 1, none⟩ = some v1 ∧ w1.cell? ⟨w.heap.size, 2, none⟩ = some v2 ∧ w1.cell? ⟨w.heap.size, 3, none⟩ = some v3 ∧
    w1.cell? ⟨w.heap.size + 1, 0, none⟩ = some u0 ∧ w1.cell? ⟨w.heap.size + 1, 1, none⟩ = some u1 ∧ w1.cell? ⟨w.heap.size + 1, 2, none⟩ = some u2 ∧ w1.cell? ⟨w.heap.size + 1, 3, none⟩ = some u3 ∧ w.heap.size + 1 < w1.heap.size ∧ Ext w w1 :=
  ⟨hx.cell (by simp [go_sem]), hx.cell (by simp [go_sem]), hx.cell (by simp [go_sem]), hx.cell (by simp [go_sem]), hx.cell (by simp [go_sem]), hx.cell (by simp [go_sem]), hx.cell (by simp [go_sem]), hx.cell (by simp [go_sem]), by have := hx.size; simp at this; omega, Ext.trans (((Ext.refl w).alloc _).alloc _) hx⟩
theorem dGreat_any (left : Int) (down : Bool) (A : Option Addr) (n c : Nat) (B : Option Addr) (k d : Nat) (w : World) :
    Calls Try.prog 16 #[.agg #[.slice A n c, .slice B k d, .int .i64 left, .bool down]] w fun e w' => e = .returned (.bool (decide (2100 < n) || decide (2100 < k))) ∧ Ext w w' := by
  by_cases h : 2100 < n
  · have h' : decide (2100 < n) = true := decide_eq_true h
    go_enter Try.func16, Try.ntmps16
    go_wp2_with fail
    refine (great2_any _ _ _ _).mono ?_
    rintro e w' ⟨rfl, rfl⟩
    go_wp2_with fail
    go_ret
    exact ⟨ret_bool (by rw [h']; rfl), (by repeat (first | assumption | exact Ext.refl _ | refine Ext.drewN ?_ _ | refine Ext.drew ?_ | refine Ext.alloc ?_ _ | refine Ext.trans ?_ (by assumption)))⟩
  · have h' : decide (2100 < n) = false := decide_eq_false h
    go_enter Try.func16, Try.ntmps16
    go_wp2_with fail
    refine (great2_any _ _ _ _).mono ?_
    rintro e w' ⟨rfl, rfl⟩
    go_wp2_with fail
    go_ret
    refine ⟨ret_bool (Bool.eq_iff_iff.2 ?_), (by repeat (first | assumption | exact Ext.refl _ | refine Ext.drewN ?_ _ | refine Ext.drew ?_ | refine Ext.alloc ?_ _ | refine Ext.trans ?_ (by assumption)))⟩
    simp
    omega
set_option maxHeartbeats 800000 in
theorem dRAsk_any (m : List Int) (q : List Dw) (left : Int) (down : Bool) (a : Int) (A : Option Addr) (c : Nat) (B : Option Addr) (d : Nat) (w : World) (hB : Sl w B q.length d (fD q)) :
    Calls Try.prog 54 #[.agg #[.slice A m.length c, .slice B q.length d, .int .i64 left, .bool down], .int .i64 a] w fun e w' => e = .returned (.int .i64 (askE m q left down a)) ∧ Ext w w' := by
  cases hd : devB m q left down with
  | false =>
    have he := devE_no hd
    have ha : askE m q left down a = 8 := by simp [askE, hd]
    rw [ha]
    have HE := Lib.hid he
    clear ha he hd
    go_enter Try.func54, Try.ntmps54
    go_wp2_with fail
    refine (dRefCk_any m q left down A c B d _ (hB.alloc _)).mono ?_
    rintro e w1 ⟨rfl, hx⟩
    rw [HE.out]
    go_wp2_with fail
    go_ret
    exact ⟨rfl, (by repeat (first | assumption | exact Ext.refl _ | refine Ext.drewN ?_ _ | refine Ext.drew ?_ | refine Ext.alloc ?_ _ | refine Ext.trans ?_ (by assumption)))⟩
  | true =>
    have he := devE_yes hd
    have HE := Lib.hid he
    by_cases h1 : a < 0
    · have ha : askE m q left down a = 2 := by simp [askE, hd, h1]
      rw [ha]
      clear ha he hd
      go_enter Try.func54, Try.ntmps54
      go_wp2_with fail
      refine (dRefCk_any m q left down A c B d _ (hB.alloc _)).mono ?_
      rintro e w1 ⟨rfl, hx⟩
      rw [HE.out]
      obtain ⟨b0, b1, b2, b3, bs, hX⟩ := box4 hx
      go_wp2_with fail
      go_ret
      exact ⟨rfl, hX⟩
    · by_cases h2 : (m.length : Int) ≤ a
      · have ha : askE m q left down a = 2 := by simp [askE, hd, h2]
        rw [ha]
        clear ha he hd
        go_enter Try.func54, Try.ntmps54
        go_wp2_with fail
        refine (dRefCk_any m q left down A c B d _ (hB.alloc _)).mono ?_
        rintro e w1 ⟨rfl, hx⟩
        rw [HE.out]
        obtain ⟨b0, b1, b2, b3, bs, hX⟩ := box4 hx
        go_wp2_with fail
        go_ret
        exact ⟨rfl, hX⟩
      · have ha : askE m q left down a = 0 := by simp [askE, hd, h1, h2]
        rw [ha]
        clear ha he hd
        go_enter Try.func54, Try.ntmps54
        go_wp2_with fail
        refine (dRefCk_any m q left down A c B d _ (hB.alloc _)).mono ?_
        rintro e w1 ⟨rfl, hx⟩
        rw [HE.out]
        obtain ⟨b0, b1, b2, b3, bs, hX⟩ := box4 hx
        go_wp2_with fail
        go_ret
        exact ⟨rfl, hX⟩
set_option maxHeartbeats 1600000 in
theorem dWords_any (m : List Int) (q : List Dw) (left : Int) (down : Bool) (A : Option Addr) (c : Nat) (B : Option Addr) (d : Nat) (w : World) (hA : Sl w A m.length c (fU m)) (hB : Sl w B q.length d (fD q)) (hd : devB m q left down = true) :
    Calls Try.prog 55 #[.agg #[.slice A m.length c, .slice B q.length d, .int .i64 left, .bool down]] w (RetOwn w 26 1 m.length (fU (wrd m q))) := by
  obtain ⟨k1, k2, k3, k4, hasc⟩ := devB_bd hd
  have hsz := sizeB_bd k1
  have hql := dirty_le hd
  have HA := Lib.hid hasc
  clear hd hasc k4 k1
  go_enter Try.func55, Try.ntmps55
  go_wp2_with fail
  refine (twin2_any m A c _ (hA.alloc _) (by omega)).mono ?_
  rintro e w2 ⟨A2, c2, rfl, hown, hA2, hx2⟩
  obtain ⟨b0', b1', b2', b3', bs', hX'⟩ := box4 hx2
  obtain ⟨g, rfl, hg⟩ := own_head hown (by omega)
  have hown2 := own_base hown (base' := w.heap.size) (by simp)
  have hg2 : w.heap.size + 1 ≤ g := by simpa using hg
  clear hown hA2 hg b0' b1' b2' b3' bs'
  go_wp2_with fail
  go_loopw [4] (fun i wr => ∃ k : Nat, k ≤ q.length ∧ i = .int .i64 k ∧ wr.ownsRow w.heap.size 26 1 (.slice (some ⟨g, 0, none⟩) m.length c2) m.length (fU (wrd m (q.take k))) ∧ Ext (w.alloc (Obj.cells #[.slice A m.length c, .slice B q.length d, .int .i64 left, .bool down] 25)) wr) (fun i _ => q.length - (intOf i).toNat)
  case atStart => exact ⟨0, Nat.zero_le _, rfl, hown2, hx2⟩
  case round =>
    obtain ⟨k, hk, rfl, hown, hx3⟩ := hrel
    obtain ⟨b0, b1, b2, b3, bs, hX⟩ := box4 hx3
    by_cases hlt : k < q.length
    · obtain ⟨ad, x, rfl, hat, g0, g1, g2⟩ := (hB.ext hX).d_at hlt
      obtain ⟨r0, r1⟩ := ascB_mem HA.out x (List.mem_of_getElem? hat)
      have hlen := wrd_length (q.take k) m
      obtain ⟨y, hy, hc, hf⟩ := own_at_U hown (i := x.1.toNat) (by rw [hlen]; omega)
      have hgl := block_lt_of_cell hc
      have Hat := Lib.hid hat
      have i0 : 0 ≤ x.1 := by omega
      have i1 : (0 : Int) ≤ k := by omega
      have i2 : (k : Int) < q.length := by omega
      clear hat hy hlen
      go_wp2_with fail
      go_region
      go_wp2_with fail
      go_roundw
      case rel =>
        refine ⟨k + 1, by omega, by go_num, ?_, (hx3.setCell (p := ⟨g, x.1.toNat, none⟩) (by simpa using hg2) _).drew⟩
        rw [wrd_take Hat.out]
        exact own_set_U hown _ _
      case measure => simp [intOf]; omega
    · obtain rfl : k = q.length := by omega
      rw [List.take_length] at hown
      go_wp2_with fail
      go_ret
      exact retOwn_mk hown hX
set_option maxHeartbeats 1600000 in
theorem dRLoad_any (m : List Int) (q : List Dw) (left : Int) (down : Bool) (a : Int) (A : Option Addr) (c : Nat) (B : Option Addr) (d : Nat) (w : World) (hA : Sl w A m.length c (fU m)) (hB : Sl w B q.length d (fD q)) :
    Calls Try.prog 32 #[.agg #[.slice A m.length c, .slice B q.length d, .int .i64 left, .bool down], .int .i64 a] w fun e w' => e = .returned (.tuple #[.int .u64 (loadV m q left down a), .int .i64 (askE m q left down a)]) ∧ Ext w w' := by
  by_cases h0 : askE m q left down a = 0
  · obtain ⟨hd, a0, a1⟩ := askE_ok h0
    have hv : loadV m q left down a = ldV m q a := by simp [loadV, h0]
    rw [hv, h0]
    have H0 := Lib.hid (And.intro h0 hd)
    obtain ⟨n, rfl⟩ := Int.eq_ofNat_of_zero_le a0
    have hln := wrd_length q m
    have hv2 : ∀ y, (wrd m q)[n]? = some y → ldV m q (n : Int) = y := fun y hy => by simp [ldV, List.getD, hy]
    have HV := Lib.hid (And.intro hv2 hln)
    have a2 : n < m.length := by omega
    clear h0 hv hd hv2 hln
    go_enter Try.func32, Try.ntmps32
    go_wp2_with fail
    refine (dRAsk_any m q left down n A c B d _ (hB.alloc _)).mono ?_
    rintro e w1 ⟨rfl, hx⟩
    rw [H0.out.1]
    obtain ⟨b0, b1, b2, b3, bs, hX⟩ := box4 hx
    go_wp2_with fail
    refine (dWords_any m q left down A c B d w1 (hA.ext hX) (hB.ext hX) H0.out.2).mono ?_
    rintro e w2 ⟨A2, c2, rfl, hown, hA2, hx2⟩
    obtain ⟨ad, y, rfl, hy, g1⟩ := hA2.u_at (k := n) (by rw [HV.out.2]; exact a2)
    have hv := HV.out.1 y hy
    have HY := Lib.hid hv
    clear hv hy b0 b1 b2 b3
    go_wp2_with fail
    go_ret2
    rw [HY.out]
    exact ⟨rfl, hX.trans hx2⟩
  · have hv : loadV m q left down a = 0 := by simp [loadV, h0]
    rw [hv]
    have hb : (askE m q left down a != 0) = true := by simpa using h0
    clear hv
    go_enter Try.func32, Try.ntmps32
    go_wp2_with fail
    refine (dRAsk_any m q left down a A c B d _ (hB.alloc _)).mono ?_
    rintro e w1 ⟨rfl, hx⟩
    obtain ⟨b0, b1, b2, b3, bs, hX⟩ := box4 hx
    go_wp2_with fail
    refine (dRAsk_any m q left down a A c B d _ (hB.ext hX)).mono ?_
    rintro e w2 ⟨rfl, hx2⟩
    go_wp2_with fail
    go_ret2
    exact ⟨rfl, hX.trans hx2⟩
set_option maxHeartbeats 800000 in
theorem dRView_any (m : List Int) (q : List Dw) (left : Int) (down : Bool) (A : Option Addr) (c : Nat) (B : Option Addr) (d : Nat) (w : World) (hA : Sl w A m.length c (fU m)) (hB : Sl w B q.length d (fD q)) :
    Calls Try.prog 33 #[.agg #[.slice A m.length c, .slice B q.length d, .int .i64 left, .bool down]] w (RetUo w (viewL m q left down) (devE m q left down)) := by
  cases hd : devB m q left down with
  | true =>
    have h0 := devE_yes hd
    have hv : viewL m q left down = wrd m q := by simp [viewL, h0]
    rw [hv, h0]
    have H0 := Lib.hid (And.intro h0 hd)
    clear h0 hv hd
    go_enter Try.func33, Try.ntmps33
    go_wp2_with fail
    refine (dRefCk_any m q left down A c B d _ (hB.alloc _)).mono ?_
    rintro e w1 ⟨rfl, hx⟩
    rw [H0.out.1]
    obtain ⟨b0, b1, b2, b3, bs, hX⟩ := box4 hx
    go_wp2_with fail
    refine (dWords_any m q left down A c B d w1 (hA.ext hX) (hB.ext hX) H0.out.2).mono ?_
    rintro e w2 ⟨A2, c2, rfl, hown, hA2, hx2⟩
    go_wp2_with fail
    go_ret2
    exact retUo_mk (wrd_length q m) (own_base hown hX.size) (hX.trans hx2)
  | false =>
    have h0 := devE_no hd
    have hv : viewL m q left down = [] := by simp [viewL, h0]
    rw [hv, h0]
    have H0 := Lib.hid h0
    clear h0 hv hd
    go_enter Try.func33, Try.ntmps33
    go_wp2_with fail
    refine (dRefCk_any m q left down A c B d _ (hB.alloc _)).mono ?_
    rintro e w1 ⟨rfl, hx⟩
    rw [H0.out]
    go_wp2_with fail
    go_ret2
    exact retUo_nil (by repeat (first | assumption | exact Ext.refl _ | refine Ext.drewN ?_ _ | refine Ext.drew ?_ | refine Ext.alloc ?_ _ | refine Ext.trans ?_ (by assumption)))
theorem dRNew_any (m : List Int) (A : Option Addr) (c : Nat) (w : World) (hA : Sl w A m.length c (fU m)) :
    Calls Try.prog 36 #[.slice A m.length c] w (RetV w (newV m) (imgE m.length)) := by
  cases hs : sizeB (m.length : Int) with
  | false =>
    have hi : imgE (m.length : Int) = 8 := by simp [imgE, hs]
    have hv : newV m = zeroV := by simp [newV, hi]
    rw [hv]
    clear hv hs
    go_enter Try.func36, Try.ntmps36
    go_wp2_with fail
    refine (refCheck2_any _ _ _ _).mono ?_
    rintro e w' ⟨rfl, rfl⟩
    go_wp2_with fail
    exact bodyPost_ret (v := .tuple #[.agg #[.slice none 0 0, .slice none 0 0, .int .i64 0, .bool false], .int .i64 8]) (by simp [results, Try.results36, go_sem]) rfl (by rw [hi]; exact retV_zero (by repeat (first | assumption | exact Ext.refl _ | refine Ext.drewN ?_ _ | refine Ext.drew ?_ | refine Ext.alloc ?_ _ | refine Ext.trans ?_ (by assumption))))
  | true =>
    have hi : imgE (m.length : Int) = 0 := by simp [imgE, hs]
    have hsz := sizeB_bd hs
    have hv : newV m = (m, [], -1, false) := by simp [newV, hi]
    rw [hv]
    clear hv hs
    go_enter Try.func36, Try.ntmps36
    go_wp2_with fail
    refine (refCheck2_any _ _ _ _).mono ?_
    rintro e w' ⟨rfl, rfl⟩
    go_wp2_with fail
    refine (twin2_any m A c _ (hA.alloc _) (by omega)).mono ?_
    rintro e w2 ⟨A2, c2, rfl, hown, hA2, hx2⟩
    obtain ⟨b0, b1, b2, b3, bs, hX⟩ := box4 hx2
    have f0 := box4f hx2
    have hfar := own_far (b := w.heap.size) hown (by simp)
    go_wp2_with fail
    refine bodyPost_ret (v := .tuple #[.agg #[.slice A2 m.length c2, .slice none 0 0, .int .i64 (-1), .bool false], .int .i64 0]) (by simp [results, Try.results36, go_sem, b0, b1, b2, b3]) rfl ?_
    rw [hi]
    exact ⟨_, _, _, _, rfl, set4_sl hA2 hfar _ _ _ _, Sl.nil_ _, set4_ext hX (Nat.le_refl _) _ _ _ _⟩
set_option maxHeartbeats 1600000 in
theorem dSame_yes (m : List Int) (q : List Dw) (left : Int) (down : Bool) (A : Option Addr) (c : Nat) (B : Option Addr) (d : Nat) (A' : Option Addr) (c' : Nat) (B' : Option Addr) (d' : Nat) (w : World) (hA : Sl w A m.length c (fU m)) (hB : Sl w B q.length d (fD q)) (hA' : Sl w A' m.length c' (fU m)) (hB' : Sl w B' q.length d' (fD q)) :
    Calls Try.prog 22 #[.agg #[.slice A m.length c, .slice B q.length d, .int .i64 left, .bool down], .agg #[.slice A' m.length c', .slice B' q.length d', .int .i64 left, .bool down]] w fun e w' => e = .returned (.bool true) ∧ Ext w w' := by
  have hql := hB.max
  unfold maxLen at hql
  have hqc := hB.le
  have hne := run_neqD
  have hdn : (down != down) = false := by simp
  go_enter Try.func22, Try.ntmps22
  go_wp2_with fail
  refine (same2_yes m m rfl A A' c c' _ ((hA.alloc _).alloc _) ((hA'.alloc _).alloc _)).mono ?_
  rintro e w1 ⟨rfl, hd1⟩
  obtain ⟨b0, b1, b2, b3, e0, e1, e2, e3, bs, hX⟩ := box4b hd1.ext
  go_wp2_with fail
  clear b0 b1 b2 b3 e0 e1 e2 e3 bs
  go_loopw [5] (fun i wr => ∃ k : Nat, k ≤ q.length ∧ i = .int .i64 k ∧ Ext ((w.alloc (Obj.cells #[.slice A m.length c, .slice B q.length d, .int .i64 left, .bool down] 25)).alloc (Obj.cells #[.slice A' m.length c', .slice B' q.length d', .int .i64 left, .bool down] 25)) wr) (fun i _ => q.length - (intOf i).toNat)
  case atStart => exact ⟨0, Nat.zero_le _, rfl, hd1.ext⟩
  case round =>
    obtain ⟨k, hk, rfl, hx3⟩ := hrel
    obtain ⟨b0, b1, b2, b3, e0, e1, e2, e3, bs, hX3⟩ := box4b hx3
    by_cases hlt : k < q.length
    · obtain ⟨ad, x, rfl, hat, g0, g1, g2⟩ := (hB.ext hX3).d_at hlt
      obtain ⟨ad', x', rfl, hat', g0', g1', g2'⟩ := (hB'.ext hX3).d_at hlt
      rw [hat] at hat'
      injection hat' with hat'
      subst hat'
      have hself := neD_self x
      have i1 : (0 : Int) ≤ k := by omega
      have i2 : (k : Int) < q.length := by omega
      clear hat
      go_wp2_with fail
      go_quiet (fail)
      go_wp2_with fail
      go_roundw
      case rel => exact ⟨k + 1, by omega, by go_num, hx3.drewN _⟩
      case measure => simp [intOf]; omega
    · obtain rfl : k = q.length := by omega
      go_wp2_with fail
      go_ret
      exact ⟨rfl, hX3⟩
end Go.Proofs.Ytmmcbleoglgamaa
