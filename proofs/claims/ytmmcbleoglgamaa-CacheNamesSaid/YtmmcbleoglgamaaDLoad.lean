/-
  The contracts of loading, of all words, of new devices, and of copies.
-/
import Derived.Test.YtmmcbleoglgamaaDFind
import Derived.Test.YtmmcbleoglgamaaOwn
namespace Go.Proofs.Ytmmcbleoglgamaa
open Go.RowKit
/-- A device: the words that are safe, the dirty ones, Left, Down. -/
abbrev Dev4 := List Int × List Dw × Int × Bool
def zeroV : Dev4 := ([], [], 0, false)
/-- The call returned a device and a number. -/
def RetV (w0 : World) (D : Dev4) (er : Int) (en : Ending) (w' : World) : Prop :=
  ∃ A c B k, en = .returned (.tuple #[.agg #[.slice A D.1.length c, .slice B D.2.1.length k, .int .i64 D.2.2.1, .bool D.2.2.2], .int .i64 er]) ∧ Sl w' A D.1.length c (fU D.1) ∧ Sl w' B D.2.1.length k (fD D.2.1) ∧ Ext w0 w'
/-- The call returned words of its own and a number. -/
def RetUo (w0 : World) (l : List Int) (er : Int) (en : Ending) (w' : World) : Prop :=
  ∃ A c, en = .returned (.tuple #[.slice A l.length c, .int .i64 er]) ∧ w'.ownsRow w0.heap.size 26 1 (.slice A l.length c) l.length (fU l) ∧ Sl w' A l.length c (fU l) ∧ Ext w0 w'
theorem retUo_mk {w0 w' : World} {l : List Int} {n : Nat} {er : Int} {v : Value} (hn : l.length = n) (h : w'.ownsRow w0.heap.size 26 1 v n (fU l)) (hx : Ext w0 w') : RetUo w0 l er (.returned (.tuple #[v, .int .i64 er])) w' := by
  subst hn
  obtain ⟨A, c, rfl, hs⟩ := Sl.of_own h
  exact ⟨A, c, rfl, h, hs, hx⟩
theorem retUo_nil {w0 w' : World} {er : Int} (hx : Ext w0 w') : RetUo w0 [] er (.returned (.tuple #[.slice none 0 0, .int .i64 er])) w' := ⟨none, 0, rfl, own_nil _ _ _ _, Sl.nil_ _, hx⟩
theorem retV_zero {w0 w' : World} {er : Int} (hx : Ext w0 w') : RetV w0 zeroV er (.returned (.tuple #[.agg #[.slice none 0 0, .slice none 0 0, .int .i64 0, .bool false], .int .i64 er])) w' := ⟨none, 0, none, 0, rfl, Sl.nil_ _, Sl.nil_ _, hx⟩
/-- What is loaded, and all words. -/
def loadV (m : List Int) (q : List Dw) (left : Int) (down : Bool) (a : Int) : Int := if askE m q left down a = 0 then ldV m q a else 0
def viewL (m : List Int) (q : List Dw) (left : Int) (down : Bool) : List Int := if devE m q left down = 0 then wrd m q else []
theorem askE_ok {m : List Int} {q : List Dw} {left : Int} {down : Bool} {a : Int} (h : askE m q left down a = 0) : devB m q left down = true ∧ 0 ≤ a ∧ a < m.length := by
  unfold askE at h
  split at h
  · split at h
    · cases h
    · exact ⟨by assumption, by omega, by omega⟩
  · cases h
theorem devE_ok {m : List Int} {q : List Dw} {left : Int} {down : Bool} (h : devE m q left down = 0) : devB m q left down = true := by
  unfold devE at h
  split at h
  · assumption
  · cases h
theorem own_far {w : World} {base : Nat} {e : TypeId} {size n : Nat} {A : Option Addr} {c b : Nat} {xs : List Value} (h : w.ownsRow base e size (.slice A n c) n xs) (hb : b < base) : ∀ ad, A = some ad → ad.block ≠ b := by
  rintro ad rfl
  rcases h.2 with ⟨hv, _⟩ | ⟨g, cap, cur, hv, hg, _⟩
  · cases hv
  · injection hv with h1 h2 h3
    injection h1 with h1
    subst h1
    intro he
    simp only at he
    omega
theorem set4_ext {a w : World} (h : Ext a w) {b : Nat} (hb : a.heap.size ≤ b) (v0 v1 v2 v3 : Value) : Ext a ((((w.setCell ⟨b, 0, none⟩ v0).setCell ⟨b, 1, none⟩ v1).setCell ⟨b, 2, none⟩ v2).setCell ⟨b, 3, none⟩ v3) :=
  (((h.setCell (p := ⟨b, 0, none⟩) hb v0).setCell (p := ⟨b, 1, none⟩) hb v1).setCell (p := ⟨b, 2, none⟩) hb v2).setCell (p := ⟨b, 3, none⟩) hb v3
theorem set4_sl {w : World} {A : Option Addr} {n c b : Nat} {xs : List Value} (h : Sl w A n c xs) (hb : ∀ ad, A = some ad → ad.block ≠ b) (v0 v1 v2 v3 : Value) : Sl ((((w.setCell ⟨b, 0, none⟩ v0).setCell ⟨b, 1, none⟩ v1).setCell ⟨b, 2, none⟩ v2).setCell ⟨b, 3, none⟩ v3) A n c xs :=
  (((h.setCell (p := ⟨b, 0, none⟩) hb v0).setCell (p := ⟨b, 1, none⟩) hb v1).setCell (p := ⟨b, 2, none⟩) hb v2).setCell (p := ⟨b, 3, none⟩) hb v3
set_option maxHeartbeats 1600000 in
theorem dLoad_any (m : List Int) (q : List Dw) (left : Int) (down : Bool) (a : Int) (A : Option Addr) (c : Nat) (B : Option Addr) (d : Nat) (w : World) (hA : Sl w A m.length c (fU m)) (hB : Sl w B q.length d (fD q)) :
    Calls Try.prog 31 #[.agg #[.slice A m.length c, .slice B q.length d, .int .i64 left, .bool down], .int .i64 a] w fun e w' => e = .returned (.tuple #[.int .u64 (loadV m q left down a), .int .i64 (askE m q left down a)]) ∧ Ext w w' := by
  by_cases h0 : askE m q left down a = 0
  · obtain ⟨hd, a0, a1⟩ := askE_ok h0
    obtain ⟨k1, k2, k3, k4, hasc⟩ := devB_bd hd
    have hql := dirty_le hd
    have hv : loadV m q left down a = ldV m q a := by simp [loadV, h0]
    rw [hv, h0]
    have H0 := Lib.hid h0
    clear h0 hv hd
    cases hf : fndD a q with
    | true =>
      obtain ⟨x, hx1, hx2⟩ := fnd_at hf
      have hld := ld_fnd (by decide) hasc rfl hf hx1
      rw [hld]
      have hlt := (List.getElem?_eq_some_iff.1 hx1).1
      obtain ⟨ad, y, rfl, hat, g0, g1, g2⟩ := hB.d_at hlt
      rw [hx1] at hat
      injection hat with hat
      subst hat
      obtain ⟨t, ht⟩ : ∃ t, cntLt a q = t := ⟨_, rfl⟩
      have hfi := fun W (h : Sl W (some ad) q.length d (fD q)) => dFind_any m q left down a A c (some ad) d W h hasc (by omega)
      rw [hf, ht] at hfi
      rw [ht] at g0 g1 g2 hlt
      have HF := Lib.hid hfi
      have i1 : (t : Int) < q.length := by omega
      clear hfi hf hx1 hld ht
      go_enter Try.func31, Try.ntmps31
      go_wp2_with fail
      refine (dAsk_any m q left down a A c (some ad) d _ (hB.alloc _)).mono ?_
      rintro e w1 ⟨rfl, hx⟩
      rw [H0.out]
      obtain ⟨b0, b1, b2, b3, bs, hX⟩ := box4 hx
      go_wp2_with fail
      refine (HF.out _ (hB.ext hX)).mono ?_
      rintro e w2 ⟨rfl, hx3⟩
      obtain ⟨b0', b1', b2', b3', bs', hX'⟩ := box4 (hx.trans hx3)
      have g1' := hX'.cell g1
      clear b0 b1 b2 b3 bs g0 g1 g2
      go_wp2_with fail
      go_ret2
      exact ⟨rfl, hX'⟩
    | false =>
      have hld := ld_not (m := m) (by decide) hasc a0 hf
      rw [hld]
      obtain ⟨n, rfl⟩ := Int.eq_ofNat_of_zero_le a0
      obtain ⟨ad, y, rfl, hat, g0⟩ := hA.u_at (k := n) (by omega)
      have hy : m.getD (n : Int).toNat 0 = y := by simp [List.getD, hat]
      rw [hy]
      have hfi := fun W (h : Sl W B q.length d (fD q)) => dFind_any m q left down (n : Int) (some ad) c B d W h hasc (by omega)
      rw [hf] at hfi
      have HF := Lib.hid hfi
      clear hfi hf hld hy hat
      go_enter Try.func31, Try.ntmps31
      go_wp2_with fail
      refine (dAsk_any m q left down (n : Int) (some ad) c B d _ (hB.alloc _)).mono ?_
      rintro e w1 ⟨rfl, hx⟩
      rw [H0.out]
      obtain ⟨b0, b1, b2, b3, bs, hX⟩ := box4 hx
      go_wp2_with fail
      refine (HF.out _ (hB.ext hX)).mono ?_
      rintro e w2 ⟨rfl, hx3⟩
      obtain ⟨b0', b1', b2', b3', bs', hX'⟩ := box4 (hx.trans hx3)
      have g1' := hX'.cell g0
      clear b0 b1 b2 b3 bs g0
      go_wp2_with fail
      go_ret2
      exact ⟨rfl, hX'⟩
  · have hv : loadV m q left down a = 0 := by simp [loadV, h0]
    rw [hv]
    have hb : (askE m q left down a != 0) = true := by simpa using h0
    clear hv
    go_enter Try.func31, Try.ntmps31
    go_wp2_with fail
    refine (dAsk_any m q left down a A c B d _ (hB.alloc _)).mono ?_
    rintro e w1 ⟨rfl, hx⟩
    go_wp2_with fail
    go_ret2
    exact ⟨rfl, (by repeat (first | assumption | exact Ext.refl _ | refine Ext.drewN ?_ _ | refine Ext.drew ?_ | refine Ext.alloc ?_ _ | refine Ext.trans ?_ (by assumption)))⟩
set_option maxHeartbeats 1600000 in
theorem dView_any (m : List Int) (q : List Dw) (left : Int) (down : Bool) (A : Option Addr) (c : Nat) (B : Option Addr) (d : Nat) (w : World) (hA : Sl w A m.length c (fU m)) (hB : Sl w B q.length d (fD q)) :
    Calls Try.prog 20 #[.agg #[.slice A m.length c, .slice B q.length d, .int .i64 left, .bool down]] w (RetUo w (viewL m q left down) (devE m q left down)) := by
  by_cases h0 : devE m q left down = 0
  · have hd := devE_ok h0
    obtain ⟨k1, k2, k3, k4, hasc⟩ := devB_bd hd
    have hsz := sizeB_bd k1
    have hql := dirty_le hd
    have hv : viewL m q left down = wrd m q := by simp [viewL, h0]
    rw [hv, h0]
    have H0 := Lib.hid h0
    have HA := Lib.hid hasc
    have K4 := Lib.hid k4
    clear h0 hv hd hasc k4 k1
    go_enter Try.func20, Try.ntmps20
    go_wp2_with fail
    refine (dCheck_any m q left down A c B d _ (hB.alloc _)).mono ?_
    rintro e w1 ⟨rfl, hx⟩
    rw [H0.out]
    obtain ⟨b0, b1, b2, b3, bs, hX⟩ := box4 hx
    go_wp2_with fail
    refine (cloneU_any m A c w1 (hA.ext hX) (by omega)).mono ?_
    rintro e w2 ⟨A2, c2, rfl, hown, hA2, hx2⟩
    obtain ⟨b0', b1', b2', b3', bs', hX'⟩ := box4 (hx.trans hx2)
    obtain ⟨g, rfl, hg⟩ := own_head hown (by omega)
    have hown2 := own_base hown hX.size
    have hg2 := Nat.le_trans hX.size hg
    clear b0 b1 b2 b3 bs hown hA2 hg
    go_wp2_with fail
    go_loopw [19] (fun i wr => ∃ k : Nat, k ≤ q.length ∧ i = .int .i64 k ∧ wr.ownsRow w.heap.size 26 1 (.slice (some ⟨g, 0, none⟩) m.length c2) m.length (fU (wrd m (q.take k))) ∧ Ext w wr) (fun i _ => q.length - (intOf i).toNat)
    case atStart => exact ⟨0, Nat.zero_le _, rfl, hown2, hX'⟩
    case round =>
      obtain ⟨k, hk, rfl, hown, hx3⟩ := hrel
      by_cases hlt : k < q.length
      · obtain ⟨ad, x, rfl, hat, g0, g1, g2⟩ := (hB.ext hx3).d_at hlt
        obtain ⟨r0, r1⟩ := ascB_mem HA.out x (List.mem_of_getElem? hat)
        have hlen := wrd_length (q.take k) m
        obtain ⟨y, hy, hc, hf⟩ := own_at_U hown (i := x.1.toNat) (by rw [hlen]; omega)
        have hgl := block_lt_of_cell hc
        have Hat := Lib.hid hat
        have i0 : 0 ≤ x.1 := by omega
        clear hat hy hlen
        go_wp2_with fail
        go_roundw
        case rel =>
          refine ⟨k + 1, by omega, by go_num, ?_, ?_⟩
          · rw [wrd_take Hat.out]
            first | exact own_set_U (hown.alloc _) _ _ | exact (own_set_U hown _ _).alloc _
          · first | exact (hx3.alloc _).setCell (p := ⟨g, x.1.toNat, none⟩) hg2 _ | exact (hx3.setCell (p := ⟨g, x.1.toNat, none⟩) hg2 _).alloc _
        case measure => simp [intOf]; omega
      · obtain rfl : k = q.length := by omega
        rw [List.take_length] at hown
        go_wp2_with fail
        go_ret2
        exact retUo_mk (wrd_length q m) hown hx3
  · have hv : viewL m q left down = [] := by simp [viewL, h0]
    rw [hv]
    have hb : (devE m q left down != 0) = true := by simpa using h0
    clear hv
    go_enter Try.func20, Try.ntmps20
    go_wp2_with fail
    refine (dCheck_any m q left down A c B d _ (hB.alloc _)).mono ?_
    rintro e w1 ⟨rfl, hx⟩
    go_wp2_with fail
    go_ret2
    exact retUo_nil (by repeat (first | assumption | exact Ext.refl _ | refine Ext.drewN ?_ _ | refine Ext.drew ?_ | refine Ext.alloc ?_ _ | refine Ext.trans ?_ (by assumption)))
/-- A new device with an image. -/
def newV (m : List Int) : Dev4 := if imgE m.length = 0 then (m, [], -1, false) else zeroV
theorem dNew_any (m : List Int) (A : Option Addr) (c : Nat) (w : World) (hA : Sl w A m.length c (fU m)) :
    Calls Try.prog 35 #[.slice A m.length c] w (RetV w (newV m) (imgE m.length)) := by
  cases hs : sizeB (m.length : Int) with
  | false =>
    have hi : imgE (m.length : Int) = 8 := by simp [imgE, hs]
    have hv : newV m = zeroV := by simp [newV, hi]
    rw [hv]
    clear hv hs
    go_enter Try.func35, Try.ntmps35
    go_wp2_with fail
    refine (imageCheck_any _ _ _ _).mono ?_
    rintro e w' ⟨rfl, rfl⟩
    go_wp2_with fail
    exact bodyPost_ret (v := .tuple #[.agg #[.slice none 0 0, .slice none 0 0, .int .i64 0, .bool false], .int .i64 8]) (by simp [results, Try.results35, go_sem]) rfl (by rw [hi]; exact retV_zero (by repeat (first | assumption | exact Ext.refl _ | refine Ext.drewN ?_ _ | refine Ext.drew ?_ | refine Ext.alloc ?_ _ | refine Ext.trans ?_ (by assumption))))
  | true =>
    have hi : imgE (m.length : Int) = 0 := by simp [imgE, hs]
    have hsz := sizeB_bd hs
    have hv : newV m = (m, [], -1, false) := by simp [newV, hi]
    rw [hv]
    clear hv hs
    go_enter Try.func35, Try.ntmps35
    go_wp2_with fail
    refine (imageCheck_any _ _ _ _).mono ?_
    rintro e w' ⟨rfl, rfl⟩
    go_wp2_with fail
    refine (cloneU_any m A c _ (hA.alloc _) (by omega)).mono ?_
    rintro e w2 ⟨A2, c2, rfl, hown, hA2, hx2⟩
    obtain ⟨b0, b1, b2, b3, bs, hX⟩ := box4 hx2
    have f0 := box4f hx2
    have hfar := own_far (b := w.heap.size) hown (by simp)
    go_wp2_with fail
    refine bodyPost_ret (v := .tuple #[.agg #[.slice A2 m.length c2, .slice none 0 0, .int .i64 (-1), .bool false], .int .i64 0]) (by simp [results, Try.results35, go_sem, b0, b1, b2, b3]) rfl ?_
    rw [hi]
    exact ⟨_, _, _, _, rfl, set4_sl hA2 hfar _ _ _ _, Sl.nil_ _, set4_ext hX (Nat.le_refl _) _ _ _ _⟩
end Go.Proofs.Ytmmcbleoglgamaa
