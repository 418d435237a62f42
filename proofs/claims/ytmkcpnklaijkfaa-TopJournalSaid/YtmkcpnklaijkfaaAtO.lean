/-
  The contracts of atomic.Operations, atomic.After and the law's own helpers.
-/
import Derived.Test.YtmkcpnklaijkfaaAtL
namespace Go.Proofs.Ytmkcpnklaijkfaa
open Go.RowKit
/-- What Operations gives. -/
def aoN (l : List (Int × Int)) (n : Int) : Int := if chkE l n = 0 then (chN l : Int) else 0
theorem chN_nil {l : List (Int × Int)} (h : l.length = 0) : chN l = 0 := by simp [chN, chAll, h]
set_option maxRecDepth 100000 in
set_option maxHeartbeats 800000 in
theorem aOps_any (l : List (Int × Int)) (words : Int) (A : Option Addr) (c : Nat) (w : World) (hA : Sl w A l.length c (fE l)) (wf : WfE l) :
    Calls Try.prog 52 #[.slice A l.length c, .int .i64 words] w fun e w' => e = .returned (.tuple #[.int .i64 (aoN l words), .int .i64 (chkE l words)]) ∧ Ext w w' := by
  have h1 := fun W (h : Sl W A l.length c (fE l)) => entryWords_any l words A c W h wf
  have h2 := fun W (h : Sl W A l.length c (fE l)) => ops10_any l A c W h
  by_cases hk : chkE l words = 0
  · by_cases hn : l.length = 0
    · have hv : aoN l words = 0 := by simp [aoN, hk, chN_nil hn]
      rw [hv, hk]
      rw [hk] at h1
      have HH := Lib.hid h1
      have hb : ((l.length : Int) == 0) = true := by rw [hn]; rfl
      clear hv hk h1 h2 hn
      go_enter Try.func52, Try.ntmps52
      go_wp2_with fail
      refine (HH.out w hA).mono ?_
      rintro e w1 (⟨_, Aw, cw, rfl, -, sW, hx1⟩ | ⟨hne, _⟩)
      case inr => exact absurd rfl hne
      go_wp2_with fail
      go_ret2
      exact ⟨rfl, hx1⟩
    · obtain ⟨hoe, -⟩ := opN_chk hk hn
      have hv : aoN l words = 2 * l.length + (2 * (l.length : Int) + 7) / 8 + 4 + opN l := by
        unfold aoN; rw [if_pos hk, chN_ops hk hn]
      have hl := (chk_iff.1 hk).2.1
      have hlt : aoN l words < 1000 := by
        unfold aoN; rw [if_pos hk]; have := chN_le hk; omega
      have ho0 : 0 ≤ opN l := by rw [(opN_chk hk hn).2]; omega
      rw [hk]
      rw [hk] at h1
      rw [hoe] at h2
      obtain ⟨N, hN⟩ : ∃ N, opN l = N := ⟨_, rfl⟩
      rw [hN] at h2 hv ho0
      have HH := Lib.hid (And.intro h1 h2)
      have HV := Lib.hid hv
      have hb : ((l.length : Int) == 0) = false := by simpa using hn
      have hq : (2 * (l.length : Int) + 8 - 1).tdiv 8 = (2 * (l.length : Int) + 7) / 8 := by rw [Int.tdiv_eq_ediv_of_nonneg (by omega)]; omega
      have hq2 : (2 * (l.length : Int) + 7) / 8 ≤ 9 := by omega
      have hq3 : 0 ≤ (2 * (l.length : Int) + 7) / 8 := by omega
      rw [hv] at hlt
      obtain ⟨Q, hQ⟩ : ∃ Q, (2 * (l.length : Int) + 7) / 8 = Q := ⟨_, rfl⟩
      rw [hQ] at hq hq2 hq3 hv hlt HV
      have hw1 : IntKind.i64.wrap (2 * (l.length : Int) + 8) = 2 * (l.length : Int) + 8 := by rw [IntKind.wrap_i64]; omega
      have hw2 : IntKind.i64.wrap (2 * (l.length : Int) + 8 - 1) = 2 * (l.length : Int) + 8 - 1 := by rw [IntKind.wrap_i64]; omega
      have hw3 : IntKind.i64.wrap Q = Q := by rw [IntKind.wrap_i64]; omega
      have hw4 : IntKind.i64.wrap (2 * (l.length : Int) + Q) = 2 * (l.length : Int) + Q := by rw [IntKind.wrap_i64]; omega
      have hw5 : IntKind.i64.wrap (2 * (l.length : Int) + Q + 4) = 2 * (l.length : Int) + Q + 4 := by rw [IntKind.wrap_i64]; omega
      have hw6 : IntKind.i64.wrap (2 * (l.length : Int) + Q + 4 + N) = 2 * (l.length : Int) + Q + 4 + N := by rw [IntKind.wrap_i64]; omega
      rw [hv]
      clear hv hk h1 h2 hn hoe hN HV hQ hlt ho0 hq2 hq3
      go_enter Try.func52, Try.ntmps52
      go_wp2_with fail
      refine (HH.out.1 w hA).mono ?_
      rintro e w1 (⟨_, Aw, cw, rfl, -, sW, hx1⟩ | ⟨hne, _⟩)
      case inr => exact absurd rfl hne
      go_wp2_with fail
      refine (HH.out.2 w1 (hA.ext hx1)).mono ?_
      rintro e w2 ⟨rfl, hx2⟩
      go_wp2_with fail
      go_ret2
      exact ⟨rfl, hx1.trans hx2⟩
  · have hv : aoN l words = 0 := by simp [aoN, hk]
    rw [hv]
    obtain ⟨er, her⟩ : ∃ er, chkE l words = er := ⟨_, rfl⟩
    rw [her] at hk h1 ⊢
    have HH := Lib.hid (And.intro h1 hk)
    have hb : (er != 0) = true := by simpa using hk
    clear hv hk h1 h2 her
    go_enter Try.func52, Try.ntmps52
    go_wp2_with fail
    refine (HH.out.1 w hA).mono ?_
    rintro e w1 (⟨h0, _⟩ | ⟨_, rfl, hx1⟩)
    case inl => exact absurd h0 HH.out.2
    go_wp2_with fail
    go_ret2
    exact ⟨rfl, hx1⟩
theorem dCrash_ok' {m : List Int} {q : List Dw} {left : Int} {down : Bool} {mask : Int} (hd : devB m q left down = true) (hm : InU mask) (A : Option Addr) (c : Nat) (B : Option Addr) (d : Nat) (w : World) (hA : Sl w A m.length c (fU m)) (hB : Sl w B q.length d (fD q)) :
    Calls Try.prog 31 #[.agg #[.slice A m.length c, .slice B q.length d, .int .i64 left, .bool down], .int .u64 mask] w (RetV w (crM mask 0 m q, [], -1, false) 0) := by
  have := dCrash_any m q left down mask A c B d w hA hB hm
  rw [devE_yes hd, crashV_ok hd] at this
  exact this
/-- What After gives. -/
def afZ (m : List Int) (q : List Dw) (left : Int) (down : Bool) (l : List (Int × Int)) (mask : Int) : List Int := crM mask 0 (runD (m, q, left, down) (chAll l)).1 (runD (m, q, left, down) (chAll l)).2.1
def afE (m : List Int) (q : List Dw) (left : Int) (down : Bool) (l : List (Int × Int)) (mask : Int) : Int := if chE m q left down l = 0 then crE (afZ m q left down l mask) else chE m q left down l
def afL (m : List Int) (q : List Dw) (left : Int) (down : Bool) (l : List (Int × Int)) (mask : Int) : List Int := if chE m q left down l = 0 then imgL (afZ m q left down l mask) else []
set_option maxRecDepth 100000 in
set_option maxHeartbeats 800000 in
theorem aAfter_any (m : List Int) (q : List Dw) (left : Int) (down : Bool) (l : List (Int × Int)) (mask : Int) (A : Option Addr) (c : Nat) (B : Option Addr) (d : Nat) (E : Option Addr) (f : Nat) (w : World) (hA : Sl w A m.length c (fU m)) (hB : Sl w B q.length d (fD q)) (hE : Sl w E l.length f (fE l)) (wm : WfU m) (wd : WfD q) (wf : WfE l) (hmk : InU mask) :
    Calls Try.prog 37 #[.agg #[.slice A m.length c, .slice B q.length d, .int .i64 left, .bool down], .slice E l.length f, .int .u64 mask] w (RetU w (afL m q left down l mask) (afE m q left down l mask)) := by
  have h1 := fun W (ha : Sl W A m.length c (fU m)) (hb : Sl W B q.length d (fD q)) (he : Sl W E l.length f (fE l)) => aChange_any m q left down l A c B d E f W ha hb he wf
  by_cases h0 : chE m q left down l = 0
  · obtain ⟨hd, hk, h24⟩ := chE_ok h0
    have ho := ch_in hk wf
    have hv := devB_run (left := left) (down := down) hd ho
    have hsz := sizeB_bd (chk_iff.1 hk).1
    have hw := runD_W (n := (m.length : Int)) hsz.2.1 (D := (m, q, left, down)) (os := chAll l) ⟨wm, wd⟩ ho
    rw [afL, afE, if_pos h0, if_pos h0]
    unfold afZ
    rw [chV, if_pos h0, h0] at h1
    obtain ⟨⟨m1, q1, l1, n1⟩, eD⟩ : ∃ D, runD (m, q, left, down) (chAll l) = D := ⟨_, rfl⟩
    rw [eD] at h1 hv hw ⊢
    simp only at hv hw ⊢
    have h2 := fun A c B d W (ha : Sl W A m1.length c (fU m1)) (hb : Sl W B q1.length d (fD q1)) => dCrash_ok' (mask := mask) hv.1 hmk A c B d W ha hb
    have wz : WfU (crM mask 0 m1 q1) := wfU_cr hw.2 hw.1
    obtain ⟨z, hz⟩ : ∃ z, crM mask 0 m1 q1 = z := ⟨_, rfl⟩
    rw [hz] at h2 wz ⊢
    obtain ⟨q5, hq5⟩ : ∃ x : List Dw, [] = x := ⟨_, rfl⟩
    rw [hq5] at h2
    have h3 := fun A c W (ha : Sl W A z.length c (fU z)) => image10_any z A c W ha wz
    have HH := Lib.hid (And.intro h1 (And.intro h2 h3))
    clear h1 h2 h3 hv hw wz hz hq5 eD ho hsz hd hk h24 h0
    go_enter Try.func37, Try.ntmps37
    go_wp2_with fail
    refine (HH.out.1 _ (hA.alloc _) (hB.alloc _) (hE.alloc _)).mono ?_
    rintro e w1 ⟨A1, c1, B1, d1, rfl, sA1, sB1, hx1⟩
    have hX1 : Ext w w1 := ((Ext.refl w).alloc _).trans hx1
    have hb := Box4.new w1 (.slice A1 m1.length c1) (.slice B1 q1.length d1) (.int .i64 l1) (.bool n1) 46
    have hX2 := hX1.alloc (Obj.cells #[.slice A1 m1.length c1, .slice B1 q1.length d1, .int .i64 l1, .bool n1] 46)
    have sA2 := sA1.alloc (Obj.cells #[.slice A1 m1.length c1, .slice B1 q1.length d1, .int .i64 l1, .bool n1] 46)
    have sB2 := sB1.alloc (Obj.cells #[.slice A1 m1.length c1, .slice B1 q1.length d1, .int .i64 l1, .bool n1] 46)
    have hlo := hX1.size
    clear hx1 hX1 sA1 sB1 hA hB hE
    go_upto_region 4 with fail
    obtain ⟨W2, hW2⟩ : ∃ W, W = w1.alloc (Obj.cells #[.slice A1 m1.length c1, .slice B1 q1.length d1, .int .i64 l1, .bool n1] 46) := ⟨_, rfl⟩
    obtain ⟨g, hg⟩ : ∃ g, w1.heap.size = g := ⟨_, rfl⟩
    rw [← hW2] at hb hX2 sA2 sB2 ⊢
    rw [hg] at hb hlo ⊢
    clear hW2 hg
    have HB := Lib.hid (DV.mk hb sA2 sB2)
    obtain ⟨b0, b1, b2, b3, bf, bl⟩ := hb
    go_wp2_with fail
    refine (HH.out.2.1 A1 c1 B1 d1 W2 sA2 sB2).mono ?_
    rintro e w3 ⟨A3, c3, B3, d3, rfl, sA3, sB3, hx3⟩
    clear b0 b1 b2 b3 bf bl sA2 sB2
    have hdv := HB.out.ext hx3
    have HX := Lib.hid (And.intro ((hX2.trans hx3).setB hlo (.slice A3 z.length c3) (.slice B3 q5.length d3) (.int .i64 (-1)) (.bool false)) (hdv.set sA3 sB3 (-1) false))
    obtain ⟨A4, c4, B4, d4, ⟨b0, b1, b2, b3, bf, bl⟩, -, -⟩ := hdv
    clear HB sA3 sB3 hX2 hx3
    go_upto_region 7 with fail
    obtain ⟨W6, hW6⟩ : ∃ W, W = setB w3 g (.slice A3 z.length c3) (.slice B3 q5.length d3) (.int .i64 (-1)) (.bool false) := ⟨_, rfl⟩
    rw [show ((((w3.setCell ⟨g, 0, none⟩ (.slice A3 z.length c3)).setCell ⟨g, 1, none⟩ (.slice B3 q5.length d3)).setCell ⟨g, 2, none⟩ (.int .i64 (-1))).setCell ⟨g, 3, none⟩ (.bool false)) = setB w3 g (.slice A3 z.length c3) (.slice B3 q5.length d3) (.int .i64 (-1)) (.bool false) from rfl, ← hW6]
    obtain ⟨hX6, hD6⟩ := HX.out
    rw [← hW6] at hX6 hD6
    clear hW6 HX b0 b1 b2 b3 bf bl
    obtain ⟨A4, c4, B4, d4, ⟨b0, b1, b2, b3, bf, bl⟩, sA4, -⟩ := hD6
    go_wp2_with fail
    refine (HH.out.2.2 A4 c4 W6 sA4).mono ?_
    rintro e w7 ⟨A7, c7, rfl, sA7, hx7⟩
    go_wp2_with fail
    go_ret2
    exact ⟨A7, c7, rfl, sA7, hX6.trans hx7⟩
  · rw [afL, afE, if_neg h0, if_neg h0]
    rw [chV, if_neg h0] at h1
    obtain ⟨er, her⟩ : ∃ er, chE m q left down l = er := ⟨_, rfl⟩
    rw [her] at h0 h1 ⊢
    have HH := Lib.hid h1
    have hb : (er != 0) = true := by simpa using h0
    clear h0 h1 her
    go_enter Try.func37, Try.ntmps37
    go_wp2_with fail
    refine (HH.out _ (hA.alloc _) (hB.alloc _) (hE.alloc _)).mono ?_
    rintro e w1 ⟨A1, c1, B1, d1, rfl, sA1, sB1, hx1⟩
    have hX1 : Ext w w1 := ((Ext.refl w).alloc _).trans hx1
    go_wp2_with fail
    go_ret2
    exact retU_nil (hX1.alloc _)
end Go.Proofs.Ytmkcpnklaijkfaa
