/-
  The contract of replay.Put.
-/
import Derived.Test.YtmkcpnklaijkfaaPutL
import Derived.RegionTactic
namespace Go.Proofs.Ytmkcpnklaijkfaa
open Go.RowKit
set_option maxRecDepth 100000 in
set_option maxHeartbeats 6400000 in
theorem put_ok (m : List Int) (q : List Dw) (left : Int) (down : Bool) (l : List (Int × Int)) (A : Option Addr) (c : Nat) (B : Option Addr) (d : Nat) (E : Option Addr) (f : Nat) (w : World) (hA : Sl w A m.length c (fU m)) (hB : Sl w B q.length d (fD q)) (hE : Sl w E l.length f (fE l))
    (hd : devB m q left down = true) (hl : l.length ≤ 64) (hr : ∀ e ∈ l, 0 ≤ e.1 ∧ e.1 < (m.length : Int)) (wf : WfE l) :
    Calls Try.prog 56 #[.agg #[.slice A m.length c, .slice B q.length d, .int .i64 left, .bool down], .slice E l.length f] w (RetV w (runD (m, q, left, down) (putOps l 256)) 0) := by
  obtain ⟨hz, hi⟩ := zero_of_info (P := Try.prog) (t := 120) (v := .agg (Array.replicate 256 (.bool false))) (n := 256) (by kernel_rfl)
  have hbx := (DV.new w m q left down A c B d 46 hA hB).ext ((Ext.refl _).alloc (Obj.cells #[.slice none 0 0, .slice none 0 0, .int .i64 0, .bool false] 46))
  have hrx : Box4 ((w.alloc (Obj.cells #[.slice A m.length c, .slice B q.length d, .int .i64 left, .bool down] 46)).alloc (Obj.cells #[.slice none 0 0, .slice none 0 0, .int .i64 0, .bool false] 46)) (w.heap.size + 1) (.slice none 0 0) (.slice none 0 0) (.int .i64 0) (.bool false) := Box4.new' _ _ (by simp) _ _ _ _ _
  have hsz := sizeB_bd (devB_bd hd).1
  have H0 := Lib.hid (And.intro hd (And.intro (devE_yes hd) (And.intro hr (And.intro wf hi))))
  have hr2 : InRange l 2048 := fun e he => by have := hr e he; omega
  have HR := Lib.hid hr2
  have h64 : decide ((64 : Int) < (l.length : Int)) = false := decide_eq_false (by omega)
  clear hd hr wf hi hr2
  go_enter Try.func56, Try.ntmps56
  go_wp2_with fail
  refine (dCheck_any m q left down A c B d _ ((hB.alloc _).alloc _)).mono ?_
  rintro e w1 ⟨rfl, hx1⟩
  rw [H0.out.2.1]
  have hX1 : Ext w w1 := Ext.trans (((Ext.refl w).alloc _).alloc _) hx1
  have hPT : PT w (w1.alloc (Obj.cells #[.int .i64 0] 30)) w.heap.size w1.heap.size m q left down :=
    ⟨(hbx.ext hx1).ext ((Ext.refl _).alloc _), by simp [go_sem], fun o => by simp [go_sem], (hrx.ext hx1).alloc _, hX1.alloc _, Nat.le_refl _, (hrx.ext hx1).lt⟩
  clear hbx hrx hx1 hX1 hA hB
  go_upto_region 6 with fail
  obtain ⟨W2, hW2⟩ : ∃ W, W = w1.alloc (Obj.cells #[.int .i64 0] 30) := ⟨_, rfl⟩
  obtain ⟨ge, hge⟩ : ∃ g, w1.heap.size = g := ⟨_, rfl⟩
  rw [← hW2] at hPT ⊢
  rw [hge] at hPT ⊢
  obtain ⟨gd, hgd⟩ : ∃ g, w.heap.size = g := ⟨_, rfl⟩
  have HGD := Lib.hid hgd
  rw [hgd] at hPT ⊢
  clear hW2 hge hgd
  have HP := Lib.hid hPT
  go_wp2_with fail
  go_loopw [26] (fun i wr => ∃ k : Nat, k ≤ l.length ∧ i = .int .i64 k ∧ Ext W2 wr) (fun i _ => l.length - (intOf i).toNat)
  case atStart => exact ⟨0, Nat.zero_le _, rfl, Ext.refl _⟩
  case round =>
    clear hPT
    obtain ⟨k, hk, rfl, hxk⟩ := hrel
    have hP := HP.out.ext hxk
    obtain ⟨A1, c1, B1, d1, ⟨b0, b1, b2, b3, bf, bl⟩, -, -⟩ := hP.d
    by_cases hlt : k < l.length
    · obtain ⟨ad, x, rfl, hat, g0, g1⟩ := (hE.ext hP.x).e_at (k := k) hlt
      obtain ⟨x0, x1⟩ := H0.out.2.2.1 x (List.mem_of_getElem? hat)
      clear hat
      go_wp2_with fail
      go_roundw
      case rel => exact ⟨k + 1, by omega, by go_num, by first | exact hxk.alloc _ | exact (hxk.alloc _).drewN _⟩
      case measure => simp [intOf]; omega
    · obtain rfl : k = l.length := by omega
      clear b0 b1 b2 b3 bf bl HP
      have HP := Lib.hid hP
      have hl2 := hE.max
      have hl3 := hE.le
      unfold maxLen at hl2
      go_wp2_with fail
      go_loopw [46] (fun i wr => ∃ (k : Nat) (m' : List Int) (q' : List Dw) (l' : Int) (n' : Bool), k ≤ l.length ∧ i = .int .i64 k ∧ PT w wr gd ge m' q' l' n' ∧ Hid (runD (m, q, left, down) (stOps (l.take k)) = (m', q', l', n') ∧ devB m' q' l' n' = true ∧ m'.length = m.length)) (fun i _ => l.length - (intOf i).toNat)
      case atStart => exact ⟨0, m, q, left, down, Nat.zero_le _, rfl, HP.out, Lib.hid ⟨rfl, H0.out.1, rfl⟩⟩
      case round =>
        clear hP HP hxk hk hlt
        obtain ⟨k, m', q', l', n', hk, rfl, hP, hD⟩ := hrel
        by_cases hlt : k < l.length
        · obtain ⟨ad, x, rfl, hat, g0, g1⟩ := (hE.ext hP.x).e_at (k := k) hlt
          obtain ⟨x0, x1⟩ := H0.out.2.2.1 x (List.mem_of_getElem? hat)
          have hv := (H0.out.2.2.2.1 x (List.mem_of_getElem? hat)).2
          have x2 : x.1 < m'.length := by rw [hD.out.2.2]; exact x1
          have hs := devB_step (o := .st x.1 x.2) hD.out.2.1 ⟨x0, x2, hv⟩
          have hc := fun A c B d W (ha : Sl W A m'.length c (fU m')) (hb : Sl W B q'.length d (fD q')) => dStore_ok (a := x.1) x.2 hD.out.2.1 x0 x2 A c B d W ha hb
          have hst := stOps_take hat
          obtain ⟨⟨m2, q2, l2, n2⟩, e2⟩ : ∃ D, stepD (m', q', l', n') (.st x.1 x.2) = D := ⟨_, rfl⟩
          rw [e2] at hs hc
          have HN := Lib.hid (show runD (m, q, left, down) (stOps (l.take (k + 1))) = (m2, q2, l2, n2) ∧ devB m2 q2 l2 n2 = true ∧ m2.length = m.length by
            rw [hst, runD_snoc, hD.out.1, e2]
            exact ⟨rfl, hs.1, hs.2.trans hD.out.2.2⟩)
          have HC := Lib.hid hc
          have HP := Lib.hid hP
          obtain ⟨A1, c1, B1, d1, ⟨b0, b1, b2, b3, bf, bl⟩, sA, sB⟩ := hP.d
          clear hat hv hs hc hst e2 hP
          go_wp2_with fail
          refine (HC.out A1 c1 B1 d1 _ (sA.alloc _) (sB.alloc _)).mono ?_
          rintro e w5 ⟨A2, c2, B2, d2, rfl, sA2, sB2, hx5⟩
          clear b0 b1 b2 b3 bf bl
          have hP5 := HP.out.ext (((Ext.refl _).alloc (Obj.cells #[.int .i64 x.1, .int .u64 x.2] 38)).trans hx5)
          have HP5 := Lib.hid hP5
          clear hP5
          go_wp2_with fail
          refine (putF_any HP5.out l2 n2 A2 c2 B2 d2 sA2 sB2).mono ?_
          rintro e w6 ⟨rfl, hP6, -⟩
          go_wp2_with fail
          go_roundw
          case rel => exact ⟨k + 1, m2, q2, l2, n2, by omega, by go_num, hP6, HN⟩
          case measure => simp [intOf]; omega
        · obtain rfl : k = l.length := by omega
          rw [List.take_length] at hD
          have HP := Lib.hid hP
          have HLN := Lib.hid (lines_any l E f wr (hE.ext hP.x) HR.out)
          clear hP
          go_wp2_with fail
          refine HLN.out.mono ?_
          rintro e w5 ⟨rfl, hx5⟩
          have hst := run_storeCells_new (P := Try.prog) w5 120 (Array.replicate 256 (.bool false)) (lnC l 256) (by rw [lnC_size]; exact H0.out.2.2.2.2) (by simp [lnC_size]) (lnC_one _ _)
          have hP6 := HP.out.ext (hx5.trans ((Ext.refl _).alloc (Obj.cells (lnC l 256) 120)))
          have hH6 := heap_alloc_new w5 (Obj.cells (lnC l 256) 120)
          have hgi : ge < w5.heap.size := Nat.lt_of_lt_of_le (block_lt_of_cell HP.out.e) hx5.size
          have HH6 := Lib.hid (And.intro hP6 (And.intro hH6 hgi))
          clear hP6 hH6 hgi hx5 HP
          go_wp2_with fail
          obtain ⟨W6, hW6⟩ : ∃ W, W = w5.alloc (Obj.cells (lnC l 256) 120) := ⟨_, rfl⟩
          obtain ⟨gi, hgi⟩ : ∃ g, w5.heap.size = g := ⟨_, rfl⟩
          obtain ⟨hP6, hH6, hgg⟩ := HH6.out
          rw [← hW6] at hP6 hH6 ⊢
          rw [hgi] at hH6 hgg ⊢
          clear hW6 hgi HH6 hst
          have HGG := Lib.hid hH6
          have HP := Lib.hid hP6
          clear hP6 hH6
          go_loopw [63] (fun i wr => ∃ (k : Nat) (m' : List Int) (q' : List Dw) (l' : Int) (n' : Bool), k ≤ 256 ∧ i = .int .i64 k ∧ PT w wr gd ge m' q' l' n' ∧ Hid (runD (m, q, left, down) (stOps l ++ flOps l k) = (m', q', l', n') ∧ devB m' q' l' n' = true ∧ m'.length = m.length) ∧ Hid (wr.heap[gi]? = some (.cells (lnC l 256) 120 (0, 0)))) (fun i _ => 256 - (intOf i).toNat)
          case atStart => exact ⟨0, m', q', l', n', Nat.zero_le _, rfl, HP.out, Lib.hid (by rw [show flOps l 0 = [] from rfl, List.append_nil]; exact hD.out), HGG⟩
          case round =>
            clear HP HGG hD hk hlt HLN
            obtain ⟨k, m', q', l', n', hk, rfl, hP, hD, hG⟩ := hrel
            have HP := Lib.hid hP
            obtain ⟨A1, c1, B1, d1, ⟨b0, b1, b2, b3, bf, bl⟩, sA, sB⟩ := hP.d
            clear hP
            by_cases hlt : k < 256
            · have hcell := cell_of_row wr gi k _ 120 (0, 0) hG.out
              rw [lnC_at _ hlt] at hcell
              have hgl := (Array.getElem?_eq_some_iff.1 hG.out).1
              have hfs := flOps_succ l k
              cases hb : inLn l k with
              | false =>
                rw [show (l.any fun e => decide (e.1 / 8 = (k : Int))) = inLn l k from rfl, hb] at hcell
                have HN := Lib.hid (show flOps l (k + 1) = flOps l k by rw [hfs, hb]; simp)
                clear hb hfs
                go_wp2_with fail
                go_roundw
                case rel => exact ⟨k + 1, m', q', l', n', by omega, by go_num, HP.out, by rw [HN.out]; exact hD, hG⟩
                case measure => simp [intOf]; omega
              | true =>
                rw [show (l.any fun e => decide (e.1 / 8 = (k : Int))) = inLn l k from rfl, hb] at hcell
                have h8 : 8 * (k : Int) < m'.length := by rw [hD.out.2.2]; exact inLn_lt hb H0.out.2.2.1 hsz.2.2
                have hs := devB_step (o := .fl (8 * (k : Int))) hD.out.2.1 ⟨by omega, h8⟩
                have hc := fun A c B d W (ha : Sl W A m'.length c (fU m')) (hb : Sl W B q'.length d (fD q')) => dFlush_ok (a := 8 * (k : Int)) hD.out.2.1 (by omega) h8 A c B d W ha hb
                obtain ⟨⟨m2, q2, l2, n2⟩, e2⟩ : ∃ D, stepD (m', q', l', n') (.fl (8 * (k : Int))) = D := ⟨_, rfl⟩
                rw [e2] at hs hc
                have HN := Lib.hid (show runD (m, q, left, down) (stOps l ++ flOps l (k + 1)) = (m2, q2, l2, n2) ∧ devB m2 q2 l2 n2 = true ∧ m2.length = m.length by
                  rw [hfs, hb, if_pos rfl, ← List.append_assoc, runD_snoc, hD.out.1, e2]
                  exact ⟨rfl, hs.1, hs.2.trans hD.out.2.2⟩)
                have HC := Lib.hid hc
                have hw8 : IntKind.i64.wrap (8 * (k : Int)) = 8 * (k : Int) := by rw [IntKind.wrap_i64]; omega
                clear hb hfs hs hc e2 h8
                go_wp2_with fail
                refine (HC.out A1 c1 B1 d1 _ sA sB).mono ?_
                rintro e w7 ⟨A2, c2, B2, d2, rfl, sA2, sB2, hx7⟩
                clear b0 b1 b2 b3 bf bl hcell
                have HP7 := Lib.hid (HP.out.ext hx7)
                have HG7 := Lib.hid (hx7.heap hG.out)
                have HL7 := Lib.hid (Nat.lt_of_lt_of_le hgl hx7.size)
                go_wp2_with fail
                refine (putF_any HP7.out l2 n2 A2 c2 B2 d2 sA2 sB2).mono ?_
                rintro e w8 ⟨rfl, hP8, hkp⟩
                have HK := Lib.hid hkp
                clear hkp
                go_wp2_with fail
                go_roundw
                case rel => exact ⟨k + 1, m2, q2, l2, n2, by omega, by go_num, hP8, HN, Lib.hid (by rw [HK.out gi HL7.out (by have := HP.out.lt; omega) (by omega)]; exact HG7.out)⟩
                case measure => simp [intOf]; omega
            · obtain rfl : k = 256 := by omega
              have hc := fun A c B d W (ha : Sl W A m'.length c (fU m')) (hb : Sl W B q'.length d (fD q')) => dFence_ok hD.out.2.1 A c B d W ha hb
              obtain ⟨⟨m2, q2, l2, n2⟩, e2⟩ : ∃ D, stepD (m', q', l', n') .fe = D := ⟨_, rfl⟩
              rw [e2] at hc
              have HN := Lib.hid (show runD (m, q, left, down) (putOps l 256) = (m2, q2, l2, n2) by
                unfold putOps
                rw [← List.append_assoc, runD_snoc, hD.out.1, e2])
              have HC := Lib.hid hc
              clear hc e2 hG
              go_wp2_with fail
              refine (HC.out A1 c1 B1 d1 _ sA sB).mono ?_
              rintro e w7 ⟨A2, c2, B2, d2, rfl, sA2, sB2, hx7⟩
              clear b0 b1 b2 b3 bf bl sA sB
              have HP7 := Lib.hid (HP.out.ext hx7)
              clear hx7
              go_wp2_with fail
              refine (putF_any HP7.out l2 n2 A2 c2 B2 d2 sA2 sB2).mono ?_
              rintro e w8 ⟨rfl, hP8, -⟩
              have HP8 := Lib.hid hP8
              obtain ⟨A3, c3, B3, d3, ⟨b0, b1, b2, b3, bf, bl⟩, sA, sB⟩ := hP8.d
              obtain ⟨r0, r1, r2, r3, rf, rl⟩ := hP8.r
              have he := hP8.e
              have SA := Lib.hid (And.intro sA sB)
              have hn1 : gd + 1 ≠ ge := by have := HP8.out.lt; omega
              have hn2 : ge ≠ gd + 1 := Ne.symm hn1
              clear hP8 sA sB sA2 sB2
              go_wp2_with fail
              go_region
              all_goals
                go_wp2_with fail
                refine bodyPost_ret (v := .tuple #[.agg #[.slice A3 m2.length c3, .slice B3 q2.length d3, .int .i64 l2, .bool n2], .int .i64 0]) (by simp [results, Try.results56, go_sem, r0, r1, r2, r3]) rfl ?_
                rw [HN.out]
                exact ⟨A3, c3, B3, d3, rfl, (SA.out.1.setB_U HP8.out.r _ _ _ _).drew, (SA.out.2.setB_D HP8.out.r _ _ _ _).drew, (HP8.out.x.setB (Nat.le_succ_of_le HP8.out.lo) _ _ _ _).drew⟩
end Go.Proofs.Ytmkcpnklaijkfaa
