/-
  The reference's Fenced on a device that has operations left.
-/
import Derived.Test.YtmmcbleoglgamaaDSt
namespace Go.Proofs.Ytmmcbleoglgamaa
open Go.RowKit
theorem fen_take {m : List Int} {q : List Dw} {k : Nat} {x : Dw} (h : q[k]? = some x) :
    if x.2.2 = true then fenM m (q.take (k + 1)) = (fenM m (q.take k)).set x.1.toNat x.2.1 ∧ fenD (q.take (k + 1)) = fenD (q.take k) else fenM m (q.take (k + 1)) = fenM m (q.take k) ∧ fenD (q.take (k + 1)) = fenD (q.take k) ++ [x] := by
  rw [List.take_add_one, h, Option.toList_some]
  cases hf : x.2.2 <;> simp [fenM, fenD, List.filter_append, hf]
set_option maxRecDepth 100000 in
set_option maxHeartbeats 6400000 in
theorem dRFenced_1 (m : List Int) (q : List Dw) (left : Int) (down : Bool) (A : Option Addr) (c : Nat) (B : Option Addr) (d : Nat) (w : World) (hA : Sl w A m.length c (fU m)) (hB : Sl w B q.length d (fD q)) (hd : devB m q left down = true) (hl : left ≠ 0) :
    Calls Try.prog 63 #[.agg #[.slice A m.length c, .slice B q.length d, .int .i64 left, .bool down]] w (RetW w (fenM m q, fenD q, spL left, down)) := by
  have hpx : Box4 ((w.alloc (Obj.cells #[.slice A m.length c, .slice B q.length d, .int .i64 left, .bool down] 25)).alloc (Obj.cells #[.slice none 0 0, .slice none 0 0, .int .i64 0, .bool false] 25)) w.heap.size (.slice A m.length c) (.slice B q.length d) (.int .i64 left) (.bool down) := (Box4.new w _ _ _ _ _).alloc _
  have hrx : Box4 ((w.alloc (Obj.cells #[.slice A m.length c, .slice B q.length d, .int .i64 left, .bool down] 25)).alloc (Obj.cells #[.slice none 0 0, .slice none 0 0, .int .i64 0, .bool false] 25)) (w.heap.size + 1) (.slice none 0 0) (.slice none 0 0) (.int .i64 0) (.bool false) := Box4.new' _ _ (by simp) _ _ _ _ _
  obtain ⟨k1, k2, k3, k4, hasc⟩ := devB_bd hd
  have hsz := sizeB_bd k1
  have hql := dirty_le hd
  have hlb : decide (left ≠ 0) = true := decide_eq_true hl
  have H0 := Lib.hid hasc
  clear hasc k4 k1 hd
  go_enter Try.func63, Try.ntmps63
  go_wp2_with fail
  refine (dRSpent_any m q left down A c B d _ ((hA.alloc _).alloc _) ((hB.alloc _).alloc _) (by omega) (by omega) k3).mono ?_
  rw [spD_ne hl, hlb]
  rintro e w1 ⟨A1, c1, B1, d1, rfl, hown1, -, hx1⟩
  obtain ⟨L, hL⟩ : ∃ L, spL left = L := ⟨_, rfl⟩
  simp only [hL]
  have HL := Lib.hid hL
  clear hL
  have hX1 : Ext w w1 := Ext.trans (((Ext.refl w).alloc _).alloc _) hx1
  replace hrx := hrx.ext hx1
  replace hpx := hpx.ext hx1
  have hs : ((w.alloc (Obj.cells #[.slice A m.length c, .slice B q.length d, .int .i64 left, .bool down] 25)).alloc (Obj.cells #[.slice none 0 0, .slice none 0 0, .int .i64 0, .bool false] 25)).heap.size = w.heap.size + 2 := by simp
  rw [hs] at hown1
  obtain ⟨ga, rfl, hga⟩ := own_head hown1 (by show 0 < m.length; omega)
  have hga2 : ga < w1.heap.size := (hown1.lt ga rfl).2
  have hl1 : w.heap.size + 1 < w1.heap.size := hrx.lt
  have hS0 : StD w (w1.alloc (Obj.cells #[.slice (some ⟨ga, 0, none⟩) m.length c1, .slice none 0 0, .int .i64 L, .bool down] 25)) w.heap.size w1.heap.size ga (.slice A m.length c) (.slice B q.length d) (.int .i64 left) (.bool down) m.length c1 m L down none 0 0 [] :=
    ⟨hpx.alloc _, hrx.alloc _, Box4.new _ _ _ _ _ _, own_nil _ _ _ _, hown1.alloc _, hX1.alloc _, Nat.le_refl _, hga, hga2⟩
  obtain ⟨r0, r1, r2, r3, rf, rl⟩ := hrx
  clear hx1 hX1 hs hown1 hA hpx
  go_wp2_with fail
  obtain ⟨W2, hW2⟩ : ∃ W, W = w1.alloc (Obj.cells #[.slice (some ⟨ga, 0, none⟩) m.length c1, .slice none 0 0, .int .i64 L, .bool down] 25) := ⟨_, rfl⟩
  rw [← hW2] at hS0 ⊢
  obtain ⟨g0, hg0⟩ : ∃ g, w1.heap.size = g := ⟨_, rfl⟩
  rw [hg0] at hl1 hS0 hga2 ⊢
  clear hW2 hg0 r0 r1 r2 r3 rf rl
  go_loopw [5] (fun i wr => ∃ (k : Nat) (B2 : Option Addr) (d2 n2 : Nat), k ≤ q.length ∧ i = .int .i64 k ∧ n2 ≤ k ∧ StD w wr w.heap.size g0 ga (.slice A m.length c) (.slice B q.length d) (.int .i64 left) (.bool down) m.length c1 (fenM m (q.take k)) L down B2 d2 n2 (fenD (q.take k))) (fun i _ => q.length - (intOf i).toNat)
  case atStart => exact ⟨0, none, 0, 0, Nat.zero_le _, rfl, Nat.zero_le _, hS0⟩
  case round =>
    obtain ⟨k, B2, d2, n2, hk, rfl, hll, hS⟩ := hrel
    have HS := Lib.hid hS
    obtain ⟨p0, p1, p2, p3, pf, pl⟩ := hS.p
    obtain ⟨o0, o1, o2, o3, of, ol⟩ := hS.o
    by_cases hlt : k < q.length
    · obtain ⟨ad, x, rfl, hat, e0, e1, e2⟩ := (hB.ext hS.x).d_at hlt
      have hxr := ascB_mem H0.out x (List.mem_of_getElem? hat)
      obtain ⟨y, hy, c0, cf⟩ := own_at_U hS.img (i := x.1.toNat) (by rw [fenM_length]; omega)
      have hcl := block_lt_of_cell c0
      have x0 : 0 ≤ x.1 := by omega
      have x1 : x.1 < m.length := by omega
      have HT := Lib.hid (fen_take (m := m) hat)
      clear hat hS hS0 hy hxr
      cases hf : x.2.2 with
      | true =>
        rw [hf] at e2
        have hmm : fenM m (q.take (k + 1)) = (fenM m (q.take k)).set x.1.toNat x.2.1 ∧ fenD (q.take (k + 1)) = fenD (q.take k) := by
          have := HT.out
          rw [hf] at this
          exact this
        have HM := Lib.hid hmm
        clear hmm hf
        go_wp2_with fail
        go_region
        all_goals
          go_wp2_with fail
          go_roundw
          case rel => exact ⟨k + 1, B2, d2, n2, by omega, by go_num, by omega, by rw [HM.out.1, HM.out.2]; first | exact (HS.out.ext (ext_drewN _ 1)).word _ _ | exact (HS.out.word _ _).ext (ext_drewN _ 1)⟩
          case measure => simp [intOf]; omega
      | false =>
        rw [hf] at e2
        have hmm : fenM m (q.take (k + 1)) = fenM m (q.take k) ∧ fenD (q.take (k + 1)) = fenD (q.take k) ++ [x] := by
          have := HT.out
          rw [hf] at this
          exact this
        have HM := Lib.hid (And.intro hmm hf)
        have hx3 : (x.1, x.2.1, false) = x := by rw [← hf]
        have HX := Lib.hid hx3
        clear hmm hf hx3
        go_wp2_with fail
        go_region_law (refine step_app ED rfl (.tmp 44) (.tmp 50) rfl rfl (HS.out.own.alloc _).drew rfl (Sl.lit' _ _ _ _ rfl (by decide)).drew rfl (fD_one [(x.1, x.2.1, false)]) (by omega) (by simp <;> omega) ?_; intro v' w' hown' hbel hat' hgr; have hown3 : w'.ownsRow (g0 + 1) 44 3 v' (n2 + 1) (fD (fenD (q.take k) ++ [x])) := (by rw [fD_append, ← HX.out]; exact hown'); obtain ⟨B', d', hv, hB'⟩ := Sl.of_own hown3; subst hv; clear hown' hat' hgr hB'; have hbx := (HS.out.o.ext (((Ext.refl _).alloc _).drew)).blw hbel (by omega); obtain ⟨y0, y1, y2, y3, yf, yl⟩ := hbx)
        all_goals
          have hS4 := HS.out.push (((Ext.refl _).alloc _).drew) hbel hown3
          clear hbel hown3
          go_wp2_with fail
          go_roundw
          case rel => exact ⟨k + 1, B', d', n2 + 1, by omega, by go_num, by omega, by rw [HM.out.1.1, HM.out.1.2]; exact hS4⟩
          case measure => simp [intOf]; omega
    · obtain rfl : k = q.length := by omega
      rw [List.take_length] at hS HS
      obtain ⟨r0, r1, r2, r3, rf, rl⟩ := hS.r
      clear hS0 hS
      go_wp2_with fail
      refine bodyPost_ret (v := .agg #[.slice (some ⟨ga, 0, none⟩) m.length c1, .slice B2 n2 d2, .int .i64 L, .bool down]) (by simp [results, Try.results63, go_sem, r0, r1, r2, r3]) rfl ?_
      exact HS.out.ret (fenM_length q m) HL.out
end Go.Proofs.Ytmmcbleoglgamaa
