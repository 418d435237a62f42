/-
  CommitByte, for every image, every list of entries, every two numbers and every byte: the law returns true. No condition.
-/
import Derived.Test.YtlhlnenpgcndkaaByteW
namespace Go.Proofs.Ytlhlnenpgcndkaa
open Go.ChangeShapes Go.WideShapes Go.ChangeAt Go.RowKit
set_option maxRecDepth 100000 in
set_option maxHeartbeats 6400000 in
theorem commitByte_0 (m : List Int) (l : List (Int × Int)) (b : Nat) (ch a : Int) (A : Option Addr) (c : Nat) (B : Option Addr) (d : Nat) (w : World) (hA : Sl w A m.length c (fU m)) (wm : WfU m) (hB : Sl w B l.length d (fE l)) (wf : WfE l)
    (hs : sizeB (m.length : Int) = true) (hn : l.length ≠ 0) (h0 : chkE l m.length = 0) (ha : 0 ≤ a ∧ a ≤ 9223372036854775807) (hb : b < 8) (hc : 0 < ch ∧ ch < 256) (hz : a % (2 * (l.length : Int) + 1) = 0) (hb0 : b ≠ 0) :
    Calls Try.prog 10 #[.slice A m.length c, .slice B l.length d, .int .i64 a, .int .i64 b, .int .u8 ch] w fun e w' => e = .returned (.bool true) ∧ Ext w w' := by
  have hi : imgE (m.length : Int) = 0 := by simp [imgE, hs]
  have hsz := sizeB_bd hs
  have hbn : ((l.length : Int) == 0) = false := by simpa using hn
  have hl32 := (chk_iff.1 h0).2.1
  obtain ⟨y, J, S, X, F, hy⟩ := byte_facts wm wf h0 hn B d A c (i := 0) (b := b) (ch := ch) (by omega) (.inl rfl) hb (fun _ => hb0) hc
  have hsh := shl_byte (c := ch) (b := b) ⟨by omega, hc.2⟩ hb
  have hin := xorB_in (w := y) (c := ch) hy ⟨by omega, hc.2⟩ hb
  obtain ⟨sv, hsv⟩ : ∃ sv, ch * 256 ^ b = sv := ⟨_, rfl⟩
  rw [hsv] at F hsh
  have hxr := xor_bits64 y sv hy (by rw [← hsv]; exact hin.2.2)
  obtain ⟨z, hzz⟩ : ∃ z, xr y sv = z := ⟨_, rfl⟩
  have hset : J.set 0 z = S := by rw [← hzz]; exact F.set
  rw [hzz] at hxr
  have hch : (ch == 0) = false := beq_eq_false_iff_ne.2 (by omega)
  have hbb : ((b : Int) == 0) = false := beq_eq_false_iff_ne.2 (by omega)
  have hb7 : (b : Int) ≤ 7 := by omega
  have w1 : IntKind.i64.wrap (2 * (l.length : Int)) = 2 * (l.length : Int) := i64_small (by omega) (by omega)
  have w2 : IntKind.i64.wrap (8 + 2 * (l.length : Int)) = 8 + 2 * (l.length : Int) := i64_small (by omega) (by omega)
  have w3 : IntKind.i64.wrap (2 * (l.length : Int) + 1) = 2 * (l.length : Int) + 1 := i64_small (by omega) (by omega)
  have w4 : IntKind.i64.wrap (8 * (b : Int)) = 8 * (b : Int) := i64_small (by omega) (by omega)
  have w5 : IntKind.u64.wrap ch = ch := by simp [IntKind.wrap, IntKind.bits, IntKind.signed]; omega
  have HH := Lib.hid (And.intro F hset)
  have hat := F.at_
  obtain ⟨ha0, ha1⟩ := ha
  obtain ⟨hc0, hc1⟩ := hc
  clear h0 hn hb0 hy hin hsv hzz F hset
  have Hat := Lib.hid hat
  clear hat
  go_enter Try.func10, Try.ntmps10
  go_wp2_with fail
  refine (refCheck2_any _ _ _ _).mono ?_
  rintro e w1 ⟨rfl, rfl⟩
  go_wp2_with fail
  refine (refCheck8_any l _ B d w hB).mono ?_
  rintro e w1 ⟨rfl, hd1⟩
  have hx1 := hd1.ext
  have h0 := HH.out.1.chk
  go_wp2_with fail
  clear h0
  refine (HH.out.1.jr w1 (hB.ext (by repeat (first | assumption | exact Ext.refl _ | refine Ext.drewN ?_ _ | refine Ext.drew ?_ | refine Ext.alloc ?_ _ | refine Ext.trans ?_ (by assumption))))).mono ?_
  rintro e w2 ⟨A2, c2, rfl, hA2, hx2⟩
  rw [HH.out.1.jl] at hA2 ⊢
  have hX2 := hx1.trans hx2
  have hsz2 := hX2.size
  go_wp2_with (at_builtin; refine wpList_app EU rfl (.tmp 81) (.tmp 82) rfl rfl (own_lit (w := w2) (base := w.heap.size) (e := 23) (size := 1) #[] _ 0 rfl hX2.size (by decide) rfl) rfl (hA2.alloc _) (by rw [fU_length]; have := HH.out.1.jl; omega) (fU_one J) (by omega) (by simp; omega) ?_; intro v' w3 hown3 hbel hat hgr)
  have hown4 : w3.ownsRow w.heap.size 23 1 v' (8 + 2 * l.length) (fU J) := by simpa using hown3
  have hx3 : Ext w w3 := Below.trans (hX2.alloc _) hbel
  obtain ⟨A3, c3, hv, hA3⟩ := Sl.of_own hown4
  subst hv
  obtain ⟨g, rfl, hg⟩ := own_head hown4 (by omega)
  obtain ⟨y', hy', hcl, hfz⟩ := own_at_U hown4 (i := 0) (by rw [HH.out.1.jl]; omega)
  rw [Hat.out] at hy'
  injection hy' with hy'
  subst hy'
  have hown5 := own_set_U hown4 0 z
  rw [HH.out.2] at hown5
  have HO := Lib.hid (And.intro hown5 hown4)
  have hle := hA3.le
  clear hown3 hown4 hown5 hbel hat hgr hA3
  have k0 : (0 : Int) ≤ 8 * (b : Int) := by omega
  have k1 : 8 * (b : Int) ≤ 64 := by omega
  have hx5 : Ext w ((w3.setCell ⟨g, 0, none⟩ (.int .u64 z)).drew) := (hx3.setCell (p := ⟨g, 0, none⟩) hg _).drew
  go_region
  go_wp2_with fail
  refine (HH.out.1.put _ _ _ (hA.ext hx5) (own_sl HO.out.1).drew).mono ?_
  rintro e w6 ⟨A6, c6, rfl, hA6, hx6⟩
  rw [HH.out.1.xl] at hA6 ⊢
  go_wp2_with fail
  refine (HH.out.1.rd _ _ _ hA6).mono ?_
  rintro e w7 ⟨A7, c7, rfl, hA7, hx7⟩
  go_wp2_with fail
  refine (alive09_any _).mono ?_
  rintro e w8 ⟨rfl, hx8⟩
  go_wp2_with fail
  go_ret
  exact ⟨rfl, hx5.trans (hx6.trans (hx7.trans hx8))⟩
set_option maxRecDepth 100000 in
set_option maxHeartbeats 6400000 in
theorem commitByte_1 (m : List Int) (l : List (Int × Int)) (b r : Nat) (ch a : Int) (A : Option Addr) (c : Nat) (B : Option Addr) (d : Nat) (w : World) (hA : Sl w A m.length c (fU m)) (wm : WfU m) (hB : Sl w B l.length d (fE l)) (wf : WfE l)
    (hs : sizeB (m.length : Int) = true) (hn : l.length ≠ 0) (h0 : chkE l m.length = 0) (ha : 0 ≤ a ∧ a ≤ 9223372036854775807) (hb : b < 8) (hc : 0 < ch ∧ ch < 256) (hz : a % (2 * (l.length : Int) + 1) = r) (hr0 : 0 < r) (hr1 : r ≤ 2 * l.length) :
    Calls Try.prog 10 #[.slice A m.length c, .slice B l.length d, .int .i64 a, .int .i64 b, .int .u8 ch] w fun e w' => e = .returned (.bool true) ∧ Ext w w' := by
  have hi : imgE (m.length : Int) = 0 := by simp [imgE, hs]
  have hsz := sizeB_bd hs
  have hbn : ((l.length : Int) == 0) = false := by simpa using hn
  have hl32 := (chk_iff.1 h0).2.1
  obtain ⟨y, J, S, X, F, hy⟩ := byte_facts wm wf h0 hn B d A c (i := r + 7) (b := b) (ch := ch) (by omega) (.inr (by omega)) hb (fun h => by omega) hc
  have hsh := shl_byte (c := ch) (b := b) ⟨by omega, hc.2⟩ hb
  have hin := xorB_in (w := y) (c := ch) hy ⟨by omega, hc.2⟩ hb
  obtain ⟨sv, hsv⟩ : ∃ sv, ch * 256 ^ b = sv := ⟨_, rfl⟩
  rw [hsv] at F hsh
  have hxr := xor_bits64 y sv hy (by rw [← hsv]; exact hin.2.2)
  obtain ⟨z, hzz⟩ : ∃ z, xr y sv = z := ⟨_, rfl⟩
  have hset : J.set (r + 7) z = S := by rw [← hzz]; exact F.set
  rw [hzz] at hxr
  have hch : (ch == 0) = false := beq_eq_false_iff_ne.2 (by omega)
  have hr2 : (0 : Int) < r := by omega
  have hr3 : (r : Int) ≤ 64 := by omega
  have hb7 : (b : Int) ≤ 7 := by omega
  have w1 : IntKind.i64.wrap (2 * (l.length : Int)) = 2 * (l.length : Int) := i64_small (by omega) (by omega)
  have w2 : IntKind.i64.wrap (8 + 2 * (l.length : Int)) = 8 + 2 * (l.length : Int) := i64_small (by omega) (by omega)
  have w3 : IntKind.i64.wrap (2 * (l.length : Int) + 1) = 2 * (l.length : Int) + 1 := i64_small (by omega) (by omega)
  have w4 : IntKind.i64.wrap (8 * (b : Int)) = 8 * (b : Int) := i64_small (by omega) (by omega)
  have w5 : IntKind.u64.wrap ch = ch := by simp [IntKind.wrap, IntKind.bits, IntKind.signed]; omega
  have HH := Lib.hid (And.intro F hset)
  have hat := F.at_
  obtain ⟨ha0, ha1⟩ := ha
  obtain ⟨hc0, hc1⟩ := hc
  clear h0 hn hr0 hy hin hsv hzz F hset
  have Hat := Lib.hid hat
  clear hat
  go_enter Try.func10, Try.ntmps10
  go_wp2_with fail
  refine (refCheck2_any _ _ _ _).mono ?_
  rintro e w1 ⟨rfl, rfl⟩
  go_wp2_with fail
  refine (refCheck8_any l _ B d w hB).mono ?_
  rintro e w1 ⟨rfl, hd1⟩
  have hx1 := hd1.ext
  have h0 := HH.out.1.chk
  go_wp2_with fail
  clear h0
  refine (HH.out.1.jr w1 (hB.ext (by repeat (first | assumption | exact Ext.refl _ | refine Ext.drewN ?_ _ | refine Ext.drew ?_ | refine Ext.alloc ?_ _ | refine Ext.trans ?_ (by assumption))))).mono ?_
  rintro e w2 ⟨A2, c2, rfl, hA2, hx2⟩
  rw [HH.out.1.jl] at hA2 ⊢
  have hX2 := hx1.trans hx2
  have hsz2 := hX2.size
  go_wp2_with (at_builtin; refine wpList_app EU rfl (.tmp 81) (.tmp 82) rfl rfl (own_lit (w := w2) (base := w.heap.size) (e := 23) (size := 1) #[] _ 0 rfl hX2.size (by decide) rfl) rfl (hA2.alloc _) (by rw [fU_length]; have := HH.out.1.jl; omega) (fU_one J) (by omega) (by simp; omega) ?_; intro v' w3 hown3 hbel hat hgr)
  have hown4 : w3.ownsRow w.heap.size 23 1 v' (8 + 2 * l.length) (fU J) := by simpa using hown3
  have hx3 : Ext w w3 := Below.trans (hX2.alloc _) hbel
  obtain ⟨A3, c3, hv, hA3⟩ := Sl.of_own hown4
  subst hv
  obtain ⟨g, rfl, hg⟩ := own_head hown4 (by omega)
  obtain ⟨y', hy', hcl, hfz⟩ := own_at_U hown4 (i := r + 7) (by rw [HH.out.1.jl]; omega)
  rw [Hat.out] at hy'
  injection hy' with hy'
  subst hy'
  have hown5 := own_set_U hown4 (r + 7) z
  rw [HH.out.2] at hown5
  have HO := Lib.hid (And.intro hown5 hown4)
  have hle := hA3.le
  clear hown3 hown4 hown5 hbel hat hgr hA3
  have k2 : ((r : Int) + 7).toNat = r + 7 := by omega
  have k3 : (r : Int) + 7 < 8 + 2 * (l.length : Int) := by omega
  have k0 : (0 : Int) ≤ 8 * (b : Int) := by omega
  have k1 : 8 * (b : Int) ≤ 64 := by omega
  have hx5 : Ext w ((w3.setCell ⟨g, r + 7, none⟩ (.int .u64 z)).drew) := (hx3.setCell (p := ⟨g, r + 7, none⟩) hg _).drew
  go_region
  go_wp2_with fail
  refine (HH.out.1.put _ _ _ (hA.ext hx5) (own_sl HO.out.1).drew).mono ?_
  rintro e w6 ⟨A6, c6, rfl, hA6, hx6⟩
  rw [HH.out.1.xl] at hA6 ⊢
  go_wp2_with fail
  refine (HH.out.1.rd _ _ _ hA6).mono ?_
  rintro e w7 ⟨A7, c7, rfl, hA7, hx7⟩
  go_wp2_with fail
  refine (alive09_any _).mono ?_
  rintro e w8 ⟨rfl, hx8⟩
  go_wp2_with fail
  go_ret
  exact ⟨rfl, hx5.trans (hx6.trans (hx7.trans hx8))⟩

set_option maxHeartbeats 6400000 in
theorem commitByte_any (m : List Int) (l : List (Int × Int)) (a b ch : Int) (A : Option Addr) (c : Nat) (B : Option Addr) (d : Nat) (w : World) (hA : Sl w A m.length c (fU m)) (wm : WfU m) (hB : Sl w B l.length d (fE l)) (wf : WfE l) (ia : InI a) (hc0 : 0 ≤ ch) (hc1 : ch ≤ 255) :
    Calls Try.prog 10 #[.slice A m.length c, .slice B l.length d, .int .i64 a, .int .i64 b, .int .u8 ch] w fun e w' => e = .returned (.bool true) ∧ Ext w w' := by
  cases hs : sizeB (m.length : Int) with
  | false =>
    have hi : imgE (m.length : Int) = 8 := by simp [imgE, hs]
    go_enter Try.func10, Try.ntmps10
    go_wp2_with fail
    refine (refCheck2_any _ _ _ _).mono ?_
    rintro e w1 ⟨rfl, rfl⟩
    go_wp2_with fail
    refine (alive09_any _).mono ?_
    rintro e w1 ⟨rfl, hx⟩
    go_wp2_with fail
    go_ret
    exact ⟨rfl, hx⟩
  | true =>
    have hi : imgE (m.length : Int) = 0 := by simp [imgE, hs]
    by_cases hn : l.length = 0
    · have hbn : ((l.length : Int) == 0) = true := by simpa using hn
      clear hn
      go_enter Try.func10, Try.ntmps10
      go_wp2_with fail
      refine (refCheck2_any _ _ _ _).mono ?_
      rintro e w1 ⟨rfl, rfl⟩
      go_wp2_with fail
      refine (alive09_any _).mono ?_
      rintro e w1 ⟨rfl, hx⟩
      go_wp2_with fail
      go_ret
      exact ⟨rfl, hx⟩
    · have hbn : ((l.length : Int) == 0) = false := by simpa using hn
      by_cases h0 : chkE l m.length = 0
      · by_cases hbad : a < 0 ∨ b < 0 ∨ 7 < b ∨ ch = 0
        · have H0 := Lib.hid h0
          clear h0
          by_cases h1 : a < 0
          · go_enter Try.func10, Try.ntmps10
            go_wp2_with fail
            refine (refCheck2_any _ _ _ _).mono ?_
            rintro e w1 ⟨rfl, rfl⟩
            go_wp2_with fail
            refine (refCheck8_any l _ B d w hB).mono ?_
            rintro e w1 ⟨rfl, hd1⟩
            have h0 := H0.out
            go_wp2_with fail
            refine (alive09_any _).mono ?_
            rintro e w2 ⟨rfl, hx⟩
            go_wp2_with fail
            go_ret
            exact ⟨rfl, hd1.ext.trans hx⟩
          · by_cases h2 : b < 0
            · go_enter Try.func10, Try.ntmps10
              go_wp2_with fail
              refine (refCheck2_any _ _ _ _).mono ?_
              rintro e w1 ⟨rfl, rfl⟩
              go_wp2_with fail
              refine (refCheck8_any l _ B d w hB).mono ?_
              rintro e w1 ⟨rfl, hd1⟩
              have h0 := H0.out
              go_wp2_with fail
              refine (alive09_any _).mono ?_
              rintro e w2 ⟨rfl, hx⟩
              go_wp2_with fail
              go_ret
              exact ⟨rfl, hd1.ext.trans hx⟩
            · by_cases h3 : 7 < b
              · go_enter Try.func10, Try.ntmps10
                go_wp2_with fail
                refine (refCheck2_any _ _ _ _).mono ?_
                rintro e w1 ⟨rfl, rfl⟩
                go_wp2_with fail
                refine (refCheck8_any l _ B d w hB).mono ?_
                rintro e w1 ⟨rfl, hd1⟩
                have h0 := H0.out
                go_wp2_with fail
                refine (alive09_any _).mono ?_
                rintro e w2 ⟨rfl, hx⟩
                go_wp2_with fail
                go_ret
                exact ⟨rfl, hd1.ext.trans hx⟩
              · obtain rfl : ch = 0 := by omega
                go_enter Try.func10, Try.ntmps10
                go_wp2_with fail
                refine (refCheck2_any _ _ _ _).mono ?_
                rintro e w1 ⟨rfl, rfl⟩
                go_wp2_with fail
                refine (refCheck8_any l _ B d w hB).mono ?_
                rintro e w1 ⟨rfl, hd1⟩
                have h0 := H0.out
                go_wp2_with fail
                refine (alive09_any _).mono ?_
                rintro e w2 ⟨rfl, hx⟩
                go_wp2_with fail
                go_ret
                exact ⟨rfl, hd1.ext.trans hx⟩
        · obtain ⟨n, rfl⟩ := Int.eq_ofNat_of_zero_le (show 0 ≤ b by omega)
          obtain ⟨ia0, ia1⟩ := ia
          have hp : (0 : Int) < 2 * (l.length : Int) + 1 := by omega
          have hr0 := Int.emod_nonneg a (b := 2 * (l.length : Int) + 1) (by omega)
          have hr1 := Int.emod_lt_of_pos a hp
          obtain ⟨r, hr⟩ := Int.eq_ofNat_of_zero_le hr0
          rcases Nat.eq_zero_or_pos r with hz | hz
          · subst hz
            rcases Nat.eq_zero_or_pos n with hn0 | hn0
            · subst hn0
              have hz0 : a % (2 * (l.length : Int) + 1) = 0 := hr
              obtain ⟨p0, p1, p2, p3, p4⟩ := cw_facts h0 hn
              have hl32 := (chk_iff.1 h0).2.1
              have hjl := jwords_length l
              have h1 := fun W (h : Sl W B l.length d (fE l)) => journal_any l m.length B d W h wf
              have hj1 : jrL l m.length = jwords l := by simp [jrL, p3]
              rw [p3, hj1] at h1
              obtain ⟨J, hJ⟩ : ∃ J, jwords l = J := ⟨_, rfl⟩
              rw [hJ] at h1 hjl
              have HH := Lib.hid (And.intro h1 (And.intro h0 hjl))
              have w1 : IntKind.i64.wrap (2 * (l.length : Int)) = 2 * (l.length : Int) := i64_small (by omega) (by omega)
              have w2 : IntKind.i64.wrap (8 + 2 * (l.length : Int)) = 8 + 2 * (l.length : Int) := i64_small (by omega) (by omega)
              have w3 : IntKind.i64.wrap (2 * (l.length : Int) + 1) = 2 * (l.length : Int) + 1 := i64_small (by omega) (by omega)
              have a0 : 0 ≤ a := by omega
              have hch : (ch == 0) = false := beq_eq_false_iff_ne.2 (by omega)
              clear h1 h0 hjl hj1 hJ p0 p1 p2 p3 p4 hr hr0 hr1 hbad hn
              go_enter Try.func10, Try.ntmps10
              go_wp2_with fail
              refine (refCheck2_any _ _ _ _).mono ?_
              rintro e w1 ⟨rfl, rfl⟩
              go_wp2_with fail
              refine (refCheck8_any l _ B d w hB).mono ?_
              rintro e w1 ⟨rfl, hd1⟩
              have hx1 := hd1.ext
              have h0 := HH.out.2.1
              go_wp2_with fail
              clear h0
              refine (HH.out.1 w1 (hB.ext (by repeat (first | assumption | exact Ext.refl _ | refine Ext.drewN ?_ _ | refine Ext.drew ?_ | refine Ext.alloc ?_ _ | refine Ext.trans ?_ (by assumption))))).mono ?_
              rintro e w2 ⟨A2, c2, rfl, hA2, hx2⟩
              rw [HH.out.2.2] at hA2 ⊢
              go_wp2_with fail
              refine (alive09_any _).mono ?_
              rintro e w3 ⟨rfl, hx3⟩
              go_wp2_with fail
              go_ret
              exact ⟨rfl, (by repeat (first | assumption | exact Ext.refl _ | refine Ext.drewN ?_ _ | refine Ext.drew ?_ | refine Ext.alloc ?_ _ | refine Ext.trans ?_ (by assumption)))⟩
            · exact commitByte_0 m l n ch a A c B d w hA wm hB wf hs hn h0 ⟨by omega, ia1⟩ (by omega) ⟨by omega, by omega⟩ hr (by omega)
          · exact commitByte_1 m l n r ch a A c B d w hA wm hB wf hs hn h0 ⟨by omega, ia1⟩ (by omega) ⟨by omega, by omega⟩ hr hz (by omega)
      · have hb2 : (chkE l m.length != 0) = true := by simpa using h0
        go_enter Try.func10, Try.ntmps10
        go_wp2_with fail
        refine (refCheck2_any _ _ _ _).mono ?_
        rintro e w1 ⟨rfl, rfl⟩
        go_wp2_with fail
        refine (refCheck8_any l _ B d w hB).mono ?_
        rintro e w1 ⟨rfl, hd1⟩
        have hx1 := hd1.ext
        go_wp2_with fail
        refine (alive09_any _).mono ?_
        rintro e w2 ⟨rfl, hx2⟩
        go_wp2_with fail
        go_ret
        exact ⟨rfl, hx1.trans hx2⟩
set_option maxRecDepth 100000 in
theorem commitByte_lifted (os : Os) (started : os.Started) (H : Type) (enc : TypeId × Value → H) :
    ReturnsInHanded {} Try.checked os 10 .any (Rows.commitByteSpec.pre6 enc Try.prog Try.f10 Rows.commitByteRow.domain false) (Rows.commitByteSpec.post enc Try.prog Try.f10 false true false false) := by
  refine returnsInHanded_of_change (C := Try.checked) own_knob started (by kernel_rfl) Try.func10
    (ChangeSpec.witness6 (enc := enc) (C := Try.checked) false ⟨#[], #[.slice none 0 0, .slice none 0 0, .int .i64 0, .int .i64 0, .int .u8 0], []⟩ 8 (by kernel_rfl) (by kernel_rfl) (by kernel_rfl) (by kernel_rfl)) ?_
  intro W base args ds gs before hval0 hW hcnd _
  have hval : ∀ (j : Nat) t v, Try.f10.params[j]? = some t → args[j]? = some v → Value.okWide Try.prog W .any base t v := hval0
  have hW' := hW
  obtain ⟨p, q, hA0, hV, rfl, hfz, hnd⟩ := hW
  have hA : DataW.TrodAll enc Try.prog W 0 (fun _ => true) true Try.f10.params.toList args.toList ds p := hA0
  rw [Try.params10] at hA hval
  obtain ⟨v0, vs0, d0, ds0, p0, q0, hargs, rfl, rfl, h0, r0⟩ := trodAll_cons hA
  obtain ⟨v1, vs1, d1, ds1, p1, q1, rfl, rfl, rfl, h1, r1⟩ := trodAll_cons r0
  obtain ⟨v2, vs2, d2, ds2, p2, q2, rfl, rfl, rfl, h2, r2⟩ := trodAll_cons r1
  obtain ⟨v3, vs3, d3, ds3, p3, q3, rfl, rfl, rfl, h3, r3⟩ := trodAll_cons r2
  obtain ⟨v4, vs4, d4, ds4, p4, q4, rfl, rfl, rfl, h4, r4⟩ := trodAll_cons r3
  obtain ⟨rfl, rfl, rfl⟩ := trodAll_nil r4
  obtain rfl : args = #[v0, v1, v2, v3, v4] := by cases args; simp_all
  obtain ⟨rfl, rfl⟩ := trodVars_none hV
  obtain ⟨A0, c0, m0, rfl, hS0, wA0⟩ := op_U (hval 0 30 v0 rfl rfl) h0
  obtain ⟨A1, c1, l1, rfl, hS1, wA1⟩ := op_E (hval 1 22 v1 rfl rfl) h1
  obtain ⟨x2, rfl, wx2⟩ := op_i (hval 2 3 v2 rfl rfl) h2
  obtain ⟨x3, rfl, wx3⟩ := op_i (hval 3 3 v3 rfl rfl) h3
  obtain ⟨x4, rfl, wx4, wy4⟩ := op_y (hval 4 5 v4 rfl rfl) h4
  clear hA0 hval0 hval hA
  refine (commitByte_any m0 l1 x2 x3 x4 A0 c0 A1 c1 W hS0 wA0 hS1 wA1 wx2 wx4 wy4).mono fun e W' ⟨he, hx⟩ => ?_
  subst he
  exact ⟨_, rfl, post_law laid_out (by kernel_rfl) hW' rfl rfl rfl Try.underlying4 hx⟩
theorem commitByte_holds : Rows.CommitByteSaid :=
  OpenClaim.holds_of_wide 10 Try.f10 rfl rfl rfl rfl rfl rfl rfl ⟨rfl, rfl, rfl, rfl, rfl⟩ rfl rfl rfl rfl rfl (by kernel_rfl) Try.func10 (by kernel_rfl)
    (of_decide_eq_true (by kernel_rfl)) (by unfold Func.isWrapper; first | (rw [if_pos (by decide +kernel)]; kernel_rfl) | (rw [if_neg (by decide +kernel)]; exact ⟨rfl, rfl⟩))
    (fun os started H enc _ => commitByte_lifted os started H enc)
end Go.Proofs.Ytlhlnenpgcndkaa
