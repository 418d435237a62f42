/-
  The contract of the reference's Put.
-/
import Derived.Test.YtmkcpnklaijkfaaPutL
import Derived.Test.YtmkcpnklaijkfaaRLines
import Derived.RegionTactic
namespace Go.Proofs.Ytmkcpnklaijkfaa
open Go.RowKit
theorem stored_ok {m : List Int} {q : List Dw} {left : Int} {down : Bool} {a : Int} (v : Int) (hd : devB m q left down = true) (h0 : 0 ≤ a) (h1 : a < m.length) (A : Option Addr) (c : Nat) (B : Option Addr) (d : Nat) (w : World) (hA : Sl w A m.length c (fU m)) (hB : Sl w B q.length d (fD q)) :
    Calls Try.prog 121 #[.agg #[.slice A m.length c, .slice B q.length d, .int .i64 left, .bool down], .int .i64 a, .int .u64 v] w (RetW w (stepD (m, q, left, down) (.st a v))) := by
  have he : askE m q left down a = 0 := by unfold askE; rw [if_pos hd, if_neg (by omega)]
  have := dRStored_any m q left down a v A c B d w hA hB he
  rw [show storeV m q left down a v = stepD (m, q, left, down) (.st a v) from by simp [storeV, he, stepD, effD]] at this
  exact this
theorem flushed_ok {m : List Int} {q : List Dw} {left : Int} {down : Bool} {a : Int} (hd : devB m q left down = true) (h0 : 0 ≤ a) (h1 : a < m.length) (A : Option Addr) (c : Nat) (B : Option Addr) (d : Nat) (w : World) (hA : Sl w A m.length c (fU m)) (hB : Sl w B q.length d (fD q)) :
    Calls Try.prog 122 #[.agg #[.slice A m.length c, .slice B q.length d, .int .i64 left, .bool down], .int .i64 a] w (RetW w (stepD (m, q, left, down) (.fl a))) := by
  have he : askE m q left down a = 0 := by unfold askE; rw [if_pos hd, if_neg (by omega)]
  have := dRFlushed_any m q left down a A c B d w hA hB he
  rw [show flushV m q left down a = stepD (m, q, left, down) (.fl a) from by simp [flushV, he, stepD, effD]] at this
  exact this
theorem fenced_ok {m : List Int} {q : List Dw} {left : Int} {down : Bool} (hd : devB m q left down = true) (A : Option Addr) (c : Nat) (B : Option Addr) (d : Nat) (w : World) (hA : Sl w A m.length c (fU m)) (hB : Sl w B q.length d (fD q)) :
    Calls Try.prog 123 #[.agg #[.slice A m.length c, .slice B q.length d, .int .i64 left, .bool down]] w (RetW w (stepD (m, q, left, down) .fe)) := by
  have he : devE m q left down = 0 := devE_yes hd
  have := dRFenced_any m q left down A c B d w hA hB he
  rw [show fenceV m q left down = stepD (m, q, left, down) .fe from by simp [fenceV, he, stepD, effD]] at this
  exact this
theorem lineL_more {l : List (Int × Int)} (hr : ∀ e ∈ l, 0 ≤ e.1 ∧ e.1 < (2048 : Int)) : ∀ k, lineL l (256 + k) = lineL l 256
  | 0 => rfl
  | k + 1 => by
    have h1 : inLn l (256 + k) = false := by
      cases h : inLn l (256 + k) with
      | false => rfl
      | true =>
        obtain ⟨e, he, h2⟩ := List.any_eq_true.1 h
        have := hr e he
        simp only [decide_eq_true_eq] at h2
        omega
    have : lineL l (256 + k + 1) = lineL l (256 + k) := by
      simp only [lineL, List.range_succ, List.filter_append]
      rw [List.filter_cons_of_neg (by rw [show (l.any fun e => decide (e.1 / 8 = ((256 + k : Nat) : Int))) = inLn l (256 + k) from rfl, h1]; decide)]
      simp
    rw [show 256 + (k + 1) = 256 + k + 1 from rfl, this, lineL_more hr k]
theorem putOps_300 {l : List (Int × Int)} (hr : ∀ e ∈ l, 0 ≤ e.1 ∧ e.1 < (2048 : Int)) : putOps l 300 = putOps l 256 := by
  have := lineL_more hr 44
  simp only [putOps, flOps]
  rw [show (300 : Nat) = 256 + 44 from rfl, this]
/-- The variable gd of a device, and the result's box behind it. -/
structure RT (w0 wr : World) (gd : Nat) (m : List Int) (q : List Dw) (left : Int) (down : Bool) : Prop where
  d : DV wr gd m q left down
  r : Box4 wr (gd + 1) (.slice none 0 0) (.slice none 0 0) (.int .i64 0) (.bool false)
  x : Ext w0 wr
  lo : w0.heap.size ≤ gd
theorem RT.ext {w0 wr w' : World} {gd : Nat} {m : List Int} {q : List Dw} {left : Int} {down : Bool} (h : RT w0 wr gd m q left down) (x : Ext wr w') : RT w0 w' gd m q left down := ⟨h.d.ext x, h.r.ext x, h.x.trans x, h.lo⟩
theorem RT.set {w0 wr : World} {gd : Nat} {m : List Int} {q : List Dw} {left : Int} {down : Bool} (h : RT w0 wr gd m q left down) {m' : List Int} {q' : List Dw} {A B : Option Addr} {c d : Nat} (hA : Sl wr A m'.length c (fU m')) (hB : Sl wr B q'.length d (fD q')) (l' : Int) (n' : Bool) :
    RT w0 (setB wr gd (.slice A m'.length c) (.slice B q'.length d) (.int .i64 l') (.bool n')) gd m' q' l' n' :=
  ⟨h.d.set hA hB l' n', h.r.far4 (g := gd) (by omega) _ _ _ _, h.x.setB h.lo _ _ _ _, h.lo⟩
set_option maxRecDepth 100000 in
set_option maxHeartbeats 6400000 in
theorem refPut_ok (m : List Int) (q : List Dw) (left : Int) (down : Bool) (l : List (Int × Int)) (A : Option Addr) (c : Nat) (B : Option Addr) (d : Nat) (E : Option Addr) (f : Nat) (w : World) (hA : Sl w A m.length c (fU m)) (hB : Sl w B q.length d (fD q)) (hE : Sl w E l.length f (fE l))
    (hd : devB m q left down = true) (hr : ∀ e ∈ l, 0 ≤ e.1 ∧ e.1 < (m.length : Int)) (wf : WfE l) :
    Calls Try.prog 99 #[.agg #[.slice A m.length c, .slice B q.length d, .int .i64 left, .bool down], .slice E l.length f] w (RetW w (runD (m, q, left, down) (putOps l 256))) := by
  obtain ⟨hz, hi⟩ := zero_of_info (P := Try.prog) (t := 86) (v := .agg (Array.replicate 300 (.bool false))) (n := 300) (by kernel_rfl)
  have hbx := (DV.new w m q left down A c B d 46 hA hB).ext ((Ext.refl _).alloc (Obj.cells #[.slice none 0 0, .slice none 0 0, .int .i64 0, .bool false] 46))
  have hrx : Box4 ((w.alloc (Obj.cells #[.slice A m.length c, .slice B q.length d, .int .i64 left, .bool down] 46)).alloc (Obj.cells #[.slice none 0 0, .slice none 0 0, .int .i64 0, .bool false] 46)) (w.heap.size + 1) (.slice none 0 0) (.slice none 0 0) (.int .i64 0) (.bool false) := Box4.new' _ _ (by simp) _ _ _ _ _
  have hsz := sizeB_bd (devB_bd hd).1
  have hr2 : InRange l 2048 := fun e he => by have := hr e he; omega
  have hPT : RT w ((w.alloc (Obj.cells #[.slice A m.length c, .slice B q.length d, .int .i64 left, .bool down] 46)).alloc (Obj.cells #[.slice none 0 0, .slice none 0 0, .int .i64 0, .bool false] 46)) w.heap.size m q left down := ⟨hbx, hrx, ((Ext.refl w).alloc _).alloc _, Nat.le_refl _⟩
  have H0 := Lib.hid (And.intro hd (And.intro (putOps_300 (fun e he => ⟨(hr2 e he).1, (hr2 e he).2⟩)) (And.intro hr (And.intro wf hi))))
  have HR := Lib.hid hr2
  have hlm := hE.max
  have hle := hE.le
  unfold maxLen at hlm
  clear hd hr wf hi hr2 hbx hrx hA hB
  go_enter Try.func99, Try.ntmps99
  go_upto_region 1 with fail
  obtain ⟨W2, hW2⟩ : ∃ W, W = (w.alloc (Obj.cells #[.slice A m.length c, .slice B q.length d, .int .i64 left, .bool down] 46)).alloc (Obj.cells #[.slice none 0 0, .slice none 0 0, .int .i64 0, .bool false] 46) := ⟨_, rfl⟩
  obtain ⟨gd, hgd⟩ : ∃ g, w.heap.size = g := ⟨_, rfl⟩
  have HGD := Lib.hid hgd
  rw [← hW2] at hPT ⊢
  rw [hgd] at hPT ⊢
  clear hW2 hgd
  have HP := Lib.hid hPT
  clear hPT
  go_wp2_with fail
  go_loopw [5] (fun i wr => ∃ (k : Nat) (m' : List Int) (q' : List Dw) (l' : Int) (n' : Bool), k ≤ l.length ∧ i = .int .i64 k ∧ RT w wr gd m' q' l' n' ∧ Hid (runD (m, q, left, down) (stOps (l.take k)) = (m', q', l', n') ∧ devB m' q' l' n' = true ∧ m'.length = m.length)) (fun i _ => l.length - (intOf i).toNat)
  case atStart => exact ⟨0, m, q, left, down, Nat.zero_le _, rfl, HP.out, Lib.hid ⟨rfl, H0.out.1, rfl⟩⟩
  case round =>
    clear HP
    obtain ⟨k, m', q', l', n', hk, rfl, hP, hD⟩ := hrel
    by_cases hlt : k < l.length
    · obtain ⟨ad, x, rfl, hat, g0, g1⟩ := (hE.ext hP.x).e_at (k := k) hlt
      obtain ⟨x0, x1⟩ := H0.out.2.2.1 x (List.mem_of_getElem? hat)
      have hv := (H0.out.2.2.2.1 x (List.mem_of_getElem? hat)).2
      have x2 : x.1 < m'.length := by rw [hD.out.2.2]; exact x1
      have hs := devB_step (o := .st x.1 x.2) hD.out.2.1 ⟨x0, x2, hv⟩
      have hc := fun A c B d W (ha : Sl W A m'.length c (fU m')) (hb : Sl W B q'.length d (fD q')) => stored_ok (a := x.1) x.2 hD.out.2.1 x0 x2 A c B d W ha hb
      have hst := stOps_take hat
      obtain ⟨⟨m2, q2, l2, n2⟩, e2⟩ : ∃ D, stepD (m', q', l', n') (.st x.1 x.2) = D := ⟨_, rfl⟩
      rw [e2] at hs hc
      have HN := Lib.hid (show runD (m, q, left, down) (stOps (l.take (k + 1))) = (m2, q2, l2, n2) ∧ devB m2 q2 l2 n2 = true ∧ m2.length = m.length by
        rw [hst, runD_snoc, hD.out.1, e2]
        exact ⟨rfl, hs.1, hs.2.trans hD.out.2.2⟩)
      have HC := Lib.hid hc
      have HP := Lib.hid hP
      obtain ⟨A1, c1, B1, d1, ⟨b0, b1, b2, b3, bf, bl⟩, sA, sB⟩ := hP.d
      clear hat hv hs hc hst e2 hP
      go_wp2_with fail
      go_region_with (go_at_call 121; refine (HC.out A1 c1 B1 d1 _ (sA.ext (by repeat (first | assumption | exact Ext.refl _ | refine Ext.drewN ?_ _ | refine Ext.drew ?_ | refine Ext.alloc ?_ _ | refine Ext.trans ?_ (by assumption)))) (sB.ext (by repeat (first | assumption | exact Ext.refl _ | refine Ext.drewN ?_ _ | refine Ext.drew ?_ | refine Ext.alloc ?_ _ | refine Ext.trans ?_ (by assumption))))).mono ?_; rintro e w5 ⟨A2, c2, B2, d2, rfl, sA2, sB2, -, -, hx5⟩; obtain ⟨A9, c9, B9, d9, ⟨y0, y1, y2, y3, yf, yl⟩, -, -⟩ := (HP.out.ext (Ext.trans ((Ext.refl wr).drew) hx5)).d)
      all_goals
        go_wp2_with fail
        go_roundw
        case rel => exact ⟨k + 1, m2, q2, l2, n2, by omega, by go_num, (HP.out.ext (Ext.trans ((Ext.refl wr).drew) hx5)).set sA2 sB2 l2 n2, HN⟩
        case measure => simp [intOf]; omega
    · obtain rfl : k = l.length := by omega
      rw [List.take_length] at hD
      have HP := Lib.hid hP
      have HLN := Lib.hid (refLines_any l E f wr (hE.ext hP.x) HR.out)
      clear hP
      go_wp2_with fail
      refine HLN.out.mono ?_
      rintro e w5 ⟨rfl, hx5⟩
      have hst := run_storeCells_new (P := Try.prog) w5 86 (Array.replicate 300 (.bool false)) (lnC l 300) (by rw [lnC_size]; exact H0.out.2.2.2.2) (by simp [lnC_size]) (lnC_one _ _)
      have hP6 := HP.out.ext (hx5.trans ((Ext.refl _).alloc (Obj.cells (lnC l 300) 86)))
      have hH6 := heap_alloc_new w5 (Obj.cells (lnC l 300) 86)
      have hgi : gd + 1 < w5.heap.size := Nat.lt_of_lt_of_le HP.out.r.lt hx5.size
      have HH6 := Lib.hid (And.intro hP6 (And.intro hH6 hgi))
      clear hP6 hH6 hgi hx5 HP
      go_wp2_with fail
      obtain ⟨W6, hW6⟩ : ∃ W, W = w5.alloc (Obj.cells (lnC l 300) 86) := ⟨_, rfl⟩
      obtain ⟨gi, hgi⟩ : ∃ g, w5.heap.size = g := ⟨_, rfl⟩
      obtain ⟨hP6, hH6, hgg⟩ := HH6.out
      rw [← hW6] at hP6 hH6 ⊢
      rw [hgi] at hH6 hgg ⊢
      clear hW6 hgi HH6 hst
      have HGG := Lib.hid hH6
      have HP := Lib.hid hP6
      clear hP6 hH6
      go_loopw [7] (fun i wr => ∃ (k : Nat) (m' : List Int) (q' : List Dw) (l' : Int) (n' : Bool), k ≤ 300 ∧ i = .int .i64 k ∧ RT w wr gd m' q' l' n' ∧ Hid (runD (m, q, left, down) (stOps l ++ flOps l k) = (m', q', l', n') ∧ devB m' q' l' n' = true ∧ m'.length = m.length) ∧ Hid (wr.heap[gi]? = some (.cells (lnC l 300) 86 (0, 0)))) (fun i _ => 300 - (intOf i).toNat)
      case atStart => exact ⟨0, m', q', l', n', Nat.zero_le _, rfl, HP.out, Lib.hid (by rw [show flOps l 0 = [] from rfl, List.append_nil]; exact hD.out), HGG⟩
      case round =>
        clear HP HGG hD hk hlt HLN
        obtain ⟨k, m', q', l', n', hk, rfl, hP, hD, hG⟩ := hrel
        have HP := Lib.hid hP
        obtain ⟨A1, c1, B1, d1, ⟨b0, b1, b2, b3, bf, bl⟩, sA, sB⟩ := hP.d
        clear hP
        by_cases hlt : k < 300
        · have hcell := cell_of_row wr gi k _ 86 (0, 0) hG.out
          rw [lnC_at _ hlt] at hcell
          have hgl := (Array.getElem?_eq_some_iff.1 hG.out).1
          have hfs := flOps_succ l k
          cases hb : inLn l k with
          | false =>
            rw [show (l.any fun e => decide (e.1 / 8 = (k : Int))) = inLn l k from rfl, hb] at hcell
            have HN := Lib.hid (show flOps l (k + 1) = flOps l k by rw [hfs, hb]; simp)
            clear hb hfs
            go_wp2_with fail
            go_roundw
            case rel => exact ⟨k + 1, m', q', l', n', by omega, by go_num, HP.out, by rw [HN.out]; exact hD, hG⟩
            case measure => simp [intOf]; omega
          | true =>
            rw [show (l.any fun e => decide (e.1 / 8 = (k : Int))) = inLn l k from rfl, hb] at hcell
            have h8 : 8 * (k : Int) < m'.length := by rw [hD.out.2.2]; exact inLn_lt hb H0.out.2.2.1 hsz.2.2
            have hs := devB_step (o := .fl (8 * (k : Int))) hD.out.2.1 ⟨by omega, h8⟩
            have hc := fun A c B d W (ha : Sl W A m'.length c (fU m')) (hb : Sl W B q'.length d (fD q')) => flushed_ok (a := 8 * (k : Int)) hD.out.2.1 (by omega) h8 A c B d W ha hb
            obtain ⟨⟨m2, q2, l2, n2⟩, e2⟩ : ∃ D, stepD (m', q', l', n') (.fl (8 * (k : Int))) = D := ⟨_, rfl⟩
            rw [e2] at hs hc
            have HN := Lib.hid (show runD (m, q, left, down) (stOps l ++ flOps l (k + 1)) = (m2, q2, l2, n2) ∧ devB m2 q2 l2 n2 = true ∧ m2.length = m.length by
              rw [hfs, hb, if_pos rfl, ← List.append_assoc, runD_snoc, hD.out.1, e2]
              exact ⟨rfl, hs.1, hs.2.trans hD.out.2.2⟩)
            have HC := Lib.hid hc
            have hw8 : IntKind.i64.wrap (8 * (k : Int)) = 8 * (k : Int) := by rw [IntKind.wrap_i64]; omega
            clear hb hfs hs hc e2 h8
            go_wp2_with fail
            refine (HC.out A1 c1 B1 d1 _ sA sB).mono ?_
            rintro e w7 ⟨A2, c2, B2, d2, rfl, sA2, sB2, -, -, hx7⟩
            clear b0 b1 b2 b3 bf bl hcell sA sB
            have hP7 := HP.out.ext hx7
            have HP7 := Lib.hid (hP7.set sA2 sB2 l2 n2)
            have HG7 := Lib.hid (show (setB w7 gd (.slice A2 m2.length c2) (.slice B2 q2.length d2) (.int .i64 l2) (.bool n2)).heap[gi]? = _ from (heap_setB (by omega) _ _ _ _).trans (hx7.heap hG.out))
            obtain ⟨A9, c9, B9, d9, ⟨y0, y1, y2, y3, yf, yl⟩, -, -⟩ := hP7.d
            clear hP7 hx7 sA2 sB2
            go_wp2_with fail
            go_roundw
            case rel => exact ⟨k + 1, m2, q2, l2, n2, by omega, by go_num, HP7.out, HN, HG7⟩
            case measure => simp [intOf]; omega
        · obtain rfl : k = 300 := by omega
          have hc := fun A c B d W (ha : Sl W A m'.length c (fU m')) (hb : Sl W B q'.length d (fD q')) => fenced_ok hD.out.2.1 A c B d W ha hb
          obtain ⟨⟨m2, q2, l2, n2⟩, e2⟩ : ∃ D, stepD (m', q', l', n') .fe = D := ⟨_, rfl⟩
          rw [e2] at hc
          have HN := Lib.hid (show runD (m, q, left, down) (putOps l 256) = (m2, q2, l2, n2) by
            rw [← H0.out.2.1]
            unfold putOps
            rw [← List.append_assoc, runD_snoc, hD.out.1, e2])
          have HC := Lib.hid hc
          clear hc e2 hG
          go_wp2_with fail
          refine (HC.out A1 c1 B1 d1 _ sA sB).mono ?_
          rintro e w7 ⟨A2, c2, B2, d2, rfl, sA2, sB2, nA2, nB2, hx7⟩
          clear b0 b1 b2 b3 bf bl sA sB
          have hP7 := HP.out.ext hx7
          have hwl : gd + 1 < wr.heap.size := HP.out.r.lt
          obtain ⟨r0, r1, r2, r3, rf, rl⟩ := hP7.r
          have HZ := Lib.hid (And.intro sA2 (And.intro sB2 (And.intro nA2 (And.intro nB2 hP7))))
          clear sA2 sB2 nA2 nB2 hP7 hx7
          go_wp2_with fail
          refine bodyPost_ret (v := .agg #[.slice A2 m2.length c2, .slice B2 q2.length d2, .int .i64 l2, .bool n2]) (by simp [results, Try.results99, go_sem, r0, r1, r2, r3]) rfl ?_
          rw [HN.out]
          have hw0 := HGD.out
          exact retW_at rfl rfl rfl (HZ.out.1.setB_U HZ.out.2.2.2.2.r _ _ _ _) (HZ.out.2.1.setB_D HZ.out.2.2.2.2.r _ _ _ _) (fun ad h => by have := HZ.out.2.2.1 ad h; omega) (fun ad h => by have := HZ.out.2.2.2.1 ad h; omega) (HZ.out.2.2.2.2.x.setB (by omega) _ _ _ _)
end Go.Proofs.Ytmkcpnklaijkfaa
