/-
  Several texts in one: DRSto1, DRSto2.
-/
import Derived.Test.YtmkcpnklaijkfaaGI
/-
  The reference's Stored on a device that has operations left.
-/
namespace Go.Proofs.Ytmkcpnklaijkfaa
open Go.RowKit
theorem stG_next (a v : Int) (p : Bool) (x : Dw) (r : List Dw) : stG a v p (x :: r) = (if !p && decide (a ≤ x.1) then [(a, v, false)] else []) ++ ((if x.1 ≠ a then [x] else []) ++ stG a v (p || decide (a ≤ x.1)) r) := rfl
set_option maxRecDepth 100000 in
set_option maxHeartbeats 6400000 in
theorem dRStored_1 (m : List Int) (q : List Dw) (left : Int) (down : Bool) (a v : Int) (A : Option Addr) (c : Nat) (B : Option Addr) (d : Nat) (w : World) (hA : Sl w A m.length c (fU m)) (hB : Sl w B q.length d (fD q)) (hd : devB m q left down = true) (hl : left ≠ 0) :
    Calls Try.prog 121 #[.agg #[.slice A m.length c, .slice B q.length d, .int .i64 left, .bool down], .int .i64 a, .int .u64 v] w (RetW w (m, insD a v q, spL left, down)) := by
  have hpx : Box4 ((w.alloc (Obj.cells #[.slice A m.length c, .slice B q.length d, .int .i64 left, .bool down] 46)).alloc (Obj.cells #[.slice none 0 0, .slice none 0 0, .int .i64 0, .bool false] 46)) w.heap.size (.slice A m.length c) (.slice B q.length d) (.int .i64 left) (.bool down) := (Box4.new w _ _ _ _ _).alloc _
  have hrx : Box4 ((w.alloc (Obj.cells #[.slice A m.length c, .slice B q.length d, .int .i64 left, .bool down] 46)).alloc (Obj.cells #[.slice none 0 0, .slice none 0 0, .int .i64 0, .bool false] 46)) (w.heap.size + 1) (.slice none 0 0) (.slice none 0 0) (.int .i64 0) (.bool false) := Box4.new' _ _ (by simp) _ _ _ _ _
  obtain ⟨k1, k2, k3, k4, hasc⟩ := devB_bd hd
  have hsz := sizeB_bd k1
  have hql := dirty_le hd
  have hlb : decide (left ≠ 0) = true := decide_eq_true hl
  have hins := stG_ins (v := v) (a := a) hasc
  rw [← hins]
  have H0 := Lib.hid hins
  clear hasc k4 k1 hd hins
  go_enter Try.func121, Try.ntmps121
  go_wp2_with fail
  refine (dRSpent_any m q left down A c B d _ ((hA.alloc _).alloc _) ((hB.alloc _).alloc _) (by omega) (by omega) k3).mono ?_
  rw [spD_ne hl, hlb]
  rintro e w1 ⟨A1, c1, B1, d1, rfl, hown1, -, hx1⟩
  obtain ⟨L, hL⟩ : ∃ L, spL left = L := ⟨_, rfl⟩
  simp only [hL]
  have HL := Lib.hid hL
  clear hL
  have hX1 : Ext w w1 := Ext.trans (((Ext.refl w).alloc _).alloc _) hx1
  replace hrx := hrx.ext hx1
  replace hpx := hpx.ext hx1
  have hs : ((w.alloc (Obj.cells #[.slice A m.length c, .slice B q.length d, .int .i64 left, .bool down] 46)).alloc (Obj.cells #[.slice none 0 0, .slice none 0 0, .int .i64 0, .bool false] 46)).heap.size = w.heap.size + 2 := by simp
  rw [hs] at hown1
  obtain ⟨ga, rfl, hga⟩ := own_head hown1 (by show 0 < m.length; omega)
  have hga2 : ga < w1.heap.size := (hown1.lt ga rfl).2
  have hl1 : w.heap.size + 1 < w1.heap.size := hrx.lt
  have hS0 : StD w (w1.alloc (Obj.cells #[.slice (some ⟨ga, 0, none⟩) m.length c1, .slice none 0 0, .int .i64 L, .bool down] 46)) w.heap.size w1.heap.size ga (.slice A m.length c) (.slice B q.length d) (.int .i64 left) (.bool down) m.length c1 m L down none 0 0 [] :=
    ⟨hpx.alloc _, hrx.alloc _, Box4.new _ _ _ _ _ _, own_nil _ _ _ _, hown1.alloc _, hX1.alloc _, Nat.le_refl _, hga, hga2⟩
  obtain ⟨r0, r1, r2, r3, rf, rl⟩ := hrx
  clear hx1 hX1 hs hown1 hA hpx
  go_wp2_with fail
  obtain ⟨W2, hW2⟩ : ∃ W, W = w1.alloc (Obj.cells #[.slice (some ⟨ga, 0, none⟩) m.length c1, .slice none 0 0, .int .i64 L, .bool down] 46) := ⟨_, rfl⟩
  rw [← hW2] at hS0 ⊢
  obtain ⟨g0, hg0⟩ : ∃ g, w1.heap.size = g := ⟨_, rfl⟩
  rw [hg0] at hl1 hS0 hga2 ⊢
  clear hW2 hg0 r0 r1 r2 r3 rf rl
  go_loopw [9, 10] (fun p i wr => ∃ (k : Nat) (b : Bool) (B2 : Option Addr) (d2 n2 : Nat) (l : List Dw), k ≤ q.length ∧ i = .int .i64 k ∧ p = .bool b ∧ n2 ≤ k + b.toNat ∧ StD w wr w.heap.size g0 ga (.slice A m.length c) (.slice B q.length d) (.int .i64 left) (.bool down) m.length c1 m L down B2 d2 n2 l ∧ Hid (stG a v false q = l ++ stG a v b (q.drop k))) (fun _ i _ => q.length - (intOf i).toNat)
  case atStart => exact ⟨0, false, none, 0, 0, [], Nat.zero_le _, rfl, rfl, Nat.zero_le _, hS0, Lib.hid rfl⟩
  case round =>
    obtain ⟨k, b, B2, d2, n2, l, hk, rfl, rfl, hll, hS, hG⟩ := hrel
    have HS := Lib.hid hS
    obtain ⟨p0, p1, p2, p3, pf, pl⟩ := hS.p
    obtain ⟨o0, o1, o2, o3, of, ol⟩ := hS.o
    by_cases hlt : k < q.length
    · obtain ⟨ad, x, rfl, hat, e0, e1, e2⟩ := (hB.ext hS.x).d_at hlt
      have hdr : q.drop k = x :: q.drop (k + 1) := by
        obtain ⟨h1, h2⟩ := List.getElem?_eq_some_iff.1 hat
        rw [List.drop_eq_getElem_cons h1, h2]
      have hG' := hG.out
      rw [hdr, stG_next] at hG'
      have HG := Lib.hid hG'
      have Hat := Lib.hid hat
      clear hG' hG hdr hS hS0 hat
      cases b with
      | true =>
        replace hll : n2 ≤ k + 1 := hll
        by_cases hc : x.1 = a
        · have hcb : (x.1 != a) = false := by simpa using hc
          have HC := Lib.hid hc
          clear hc
          go_wp2_with fail
          go_roundw
          case rel => exact ⟨k + 1, true, B2, d2, n2, l, by omega, by go_num, rfl, by simp <;> omega, HS.out, Lib.hid (by rw [HG.out]; simp [HC.out])⟩
          case measure => simp [intOf]; omega
        · have hcb : (x.1 != a) = true := by simpa using hc
          have HC := Lib.hid hc
          clear hc
          go_wp2_with fail
          go_region_law (refine step_app ED rfl (.tmp 56) (.tmp 62) rfl rfl (HS.out.own.alloc _).drew rfl (Sl.lit' _ _ _ _ rfl (by decide)).drew rfl (fD_one [x]) (by omega) (by simp <;> omega) ?_; intro v' w' hown' hbel hat' hgr; have hown3 : w'.ownsRow (g0 + 1) 88 3 v' (n2 + 1) (fD (l ++ [x])) := (by rw [fD_append]; exact hown'); obtain ⟨B', d', hv, hB'⟩ := Sl.of_own hown3; subst hv; clear hown' hat' hgr hB'; have hbx := (HS.out.o.ext (((Ext.refl _).alloc _).drew)).blw hbel (by omega); obtain ⟨y0, y1, y2, y3, yf, yl⟩ := hbx)
          all_goals
            have hS4 := HS.out.push (((Ext.refl _).alloc _).drew) hbel hown3
            clear hbel hown3
            go_wp2_with fail
            go_roundw
            case rel => exact ⟨k + 1, true, B', d', n2 + 1, l ++ [x], by omega, by go_num, rfl, by simp <;> omega, hS4, Lib.hid (by rw [HG.out]; simp [HC.out])⟩
            case measure => simp [intOf]; omega
      | false =>
        replace hll : n2 ≤ k := hll
        by_cases h1 : a ≤ x.1
        · go_upto_region 12 with (at_builtin; refine wpList_app ED rfl (.tmp 40) (.tmp 44) rfl rfl (HS.out.own.alloc _) rfl (Sl.lit' _ _ _ _ rfl (by decide)) rfl (fD_one [(a, v, false)]) (by omega) (by simp <;> omega) ?_; intro v' w' hown' hbel hat' hgr; have hown3 : w'.ownsRow (g0 + 1) 88 3 v' (n2 + 1) (fD (l ++ [(a, v, false)])) := (by rw [fD_append]; exact hown'); obtain ⟨B', d', hv, hB'⟩ := Sl.of_own hown3; subst hv; clear hown' hat' hgr hB' p0 p1 p2 p3 pf pl o0 o1 o2 o3 of ol e0 e1 e2; have hbx := (HS.out.o.ext ((Ext.refl _).alloc _)).blw hbel (by omega); obtain ⟨y0, y1, y2, y3, yf, yl⟩ := hbx)
          have hS3 := HS.out.push ((Ext.refl _).alloc _) hbel hown3
          obtain ⟨W3, hW3⟩ : ∃ W, W = w'.setCell ⟨g0, 1, none⟩ (.slice B' (n2 + 1) d') := ⟨_, rfl⟩
          rw [← hW3] at hS3 ⊢
          clear hW3 hbel hown3 y0 y1 y2 y3 yf yl HS
          have HS := Lib.hid hS3
          obtain ⟨p0, p1, p2, p3, pf, pl⟩ := hS3.p
          obtain ⟨o0, o1, o2, o3, of, ol⟩ := hS3.o
          obtain ⟨ad', x', hd', hat2, e0, e1, e2⟩ := (hB.ext hS3.x).d_at hlt
          injection hd' with hd'
          rw [Hat.out] at hat2
          injection hat2 with hat2
          subst hd' hat2
          clear hS3
          by_cases hc : x.1 = a
          · have hcb : (x.1 != a) = false := by simpa using hc
            have HC := Lib.hid hc
            clear hc h1
            go_wp2_with fail
            go_roundw
            case rel => exact ⟨k + 1, true, B', d', n2 + 1, l ++ [(a, v, false)], by omega, by go_num, rfl, by simp <;> omega, HS.out, Lib.hid (by rw [HG.out]; simp [HC.out])⟩
            case measure => simp [intOf]; omega
          · have hcb : (x.1 != a) = true := by simpa using hc
            have HC := Lib.hid (And.intro hc h1)
            clear hc
            go_wp2_with fail
            go_region_law (refine step_app ED rfl (.tmp 56) (.tmp 62) rfl rfl (HS.out.own.alloc _).drew rfl (Sl.lit' _ _ _ _ rfl (by decide)).drew rfl (fD_one [x]) (by omega) (by simp <;> omega) ?_; intro v' w' hown' hbel hat' hgr; have hown3 : w'.ownsRow (g0 + 1) 88 3 v' ((n2 + 1) + 1) (fD ((l ++ [(a, v, false)]) ++ [x])) := (by rw [fD_append]; exact hown'); obtain ⟨B', d', hv, hB'⟩ := Sl.of_own hown3; subst hv; clear hown' hat' hgr hB'; have hbx := (HS.out.o.ext (((Ext.refl _).alloc _).drew)).blw hbel (by omega); obtain ⟨y0, y1, y2, y3, yf, yl⟩ := hbx)
            all_goals
              have hS4 := HS.out.push (((Ext.refl _).alloc _).drew) hbel hown3
              clear hbel hown3
              go_wp2_with fail
              go_roundw
              case rel => exact ⟨k + 1, true, B', d', (n2 + 1) + 1, (l ++ [(a, v, false)]) ++ [x], by omega, by go_num, rfl, by simp <;> omega, hS4, Lib.hid (by rw [HG.out]; simp [HC.out.1, HC.out.2])⟩
              case measure => simp [intOf]; omega
        · have hcb : (x.1 != a) = true := by simp; omega
          have HC := Lib.hid h1
          have h2 : x.1 < a := by omega
          go_wp2_with fail
          go_region_law (refine step_app ED rfl (.tmp 56) (.tmp 62) rfl rfl (HS.out.own.alloc _).drew rfl (Sl.lit' _ _ _ _ rfl (by decide)).drew rfl (fD_one [x]) (by omega) (by simp <;> omega) ?_; intro v' w' hown' hbel hat' hgr; have hown3 : w'.ownsRow (g0 + 1) 88 3 v' (n2 + 1) (fD (l ++ [x])) := (by rw [fD_append]; exact hown'); obtain ⟨B', d', hv, hB'⟩ := Sl.of_own hown3; subst hv; clear hown' hat' hgr hB'; have hbx := (HS.out.o.ext (((Ext.refl _).alloc _).drew)).blw hbel (by omega); obtain ⟨y0, y1, y2, y3, yf, yl⟩ := hbx)
          all_goals
            have hS4 := HS.out.push (((Ext.refl _).alloc _).drew) hbel hown3
            clear hbel hown3
            go_wp2_with fail
            go_roundw
            case rel => exact ⟨k + 1, false, B', d', n2 + 1, l ++ [x], by omega, by go_num, rfl, by simp <;> omega, hS4, Lib.hid (by rw [HG.out, decide_eq_false (show ¬ a ≤ x.1 from by have := HC.out; omega)]; simp [show x.1 ≠ a from by omega])⟩
            case measure => simp [intOf]; omega
    · obtain rfl : k = q.length := by omega
      have hG' := hG.out
      rw [List.drop_length] at hG'
      have HG := Lib.hid hG'
      obtain ⟨r0, r1, r2, r3, rf, rl⟩ := hS.r
      clear hG' hG hS0
      cases b with
      | true =>
        replace hll : n2 ≤ q.length + 1 := hll
        clear hS
        go_wp2_with fail
        refine bodyPost_ret (v := .agg #[.slice (some ⟨ga, 0, none⟩) m.length c1, .slice B2 n2 d2, .int .i64 L, .bool down]) (by simp [results, Try.results121, go_sem, r0, r1, r2, r3]) rfl ?_
        rw [HG.out, show stG a v true [] = [] from rfl, List.append_nil]
        exact HS.out.ret rfl HL.out
      | false =>
        replace hll : n2 ≤ q.length := hll
        clear hS
        go_upto_region 16 with (at_builtin; refine wpList_app ED rfl (.tmp 68) (.tmp 72) rfl rfl (HS.out.own.alloc _) rfl (Sl.lit' _ _ _ _ rfl (by decide)) rfl (fD_one [(a, v, false)]) (by omega) (by simp <;> omega) ?_; intro v' w' hown' hbel hat' hgr; have hown3 : w'.ownsRow (g0 + 1) 88 3 v' (n2 + 1) (fD (l ++ [(a, v, false)])) := (by rw [fD_append]; exact hown'); obtain ⟨B', d', hv, hB'⟩ := Sl.of_own hown3; subst hv; clear hown' hat' hgr hB' p0 p1 p2 p3 pf pl o0 o1 o2 o3 of ol r0 r1 r2 r3 rf rl; have hbx := (HS.out.o.ext ((Ext.refl _).alloc _)).blw hbel (by omega); obtain ⟨y0, y1, y2, y3, yf, yl⟩ := hbx)
        have hS3 := HS.out.push ((Ext.refl _).alloc _) hbel hown3
        obtain ⟨W3, hW3⟩ : ∃ W, W = w'.setCell ⟨g0, 1, none⟩ (.slice B' (n2 + 1) d') := ⟨_, rfl⟩
        rw [← hW3] at hS3 ⊢
        clear hW3 hbel hown3 y0 y1 y2 y3 yf yl HS
        have HS := Lib.hid hS3
        obtain ⟨o0, o1, o2, o3, of, ol⟩ := hS3.o
        obtain ⟨r0, r1, r2, r3, rf, rl⟩ := hS3.r
        clear hS3
        go_wp2_with fail
        refine bodyPost_ret (v := .agg #[.slice (some ⟨ga, 0, none⟩) m.length c1, .slice B' (n2 + 1) d', .int .i64 L, .bool down]) (by simp [results, Try.results121, go_sem, r0, r1, r2, r3]) rfl ?_
        rw [HG.out, show stG a v false [] = [(a, v, false)] from rfl]
        exact HS.out.ret rfl HL.out
end Go.Proofs.Ytmkcpnklaijkfaa
/-
  The contract of the reference's Store.
-/
namespace Go.Proofs.Ytmkcpnklaijkfaa
open Go.RowKit
theorem dRStored_any (m : List Int) (q : List Dw) (left : Int) (down : Bool) (a v : Int) (A : Option Addr) (c : Nat) (B : Option Addr) (d : Nat) (w : World) (hA : Sl w A m.length c (fU m)) (hB : Sl w B q.length d (fD q)) (h0 : askE m q left down a = 0) :
    Calls Try.prog 121 #[.agg #[.slice A m.length c, .slice B q.length d, .int .i64 left, .bool down], .int .i64 a, .int .u64 v] w (RetW w (storeV m q left down a v)) := by
  obtain ⟨hd, -, -⟩ := askE_ok h0
  by_cases hl : left = 0
  · subst hl
    rw [show storeV m q 0 down a v = (m, q, 0, true) from by simp [storeV, h0]]
    exact dRStored_0 m q down a v A c B d w hA hB hd
  · rw [show storeV m q left down a v = (m, insD a v q, spL left, down) from by simp [storeV, h0, hl]]
    exact dRStored_1 m q left down a v A c B d w hA hB hd hl
end Go.Proofs.Ytmkcpnklaijkfaa
