/-
  Superblocks: their words, writing them.
-/
import Derived.Test.YtmkcpnklaijkfaaGD
import Derived.WalkMore
import Derived.ChangeKeysEq
import Derived.WalkLawsBesides
import Derived.Test.YtmkcpnklaijkfaaGB
import Derived.Test.YtmkcpnklaijkfaaGC
import Derived.Test.YtmkcpnklaijkfaaGA
import Derived.Test.YtmkcpnklaijkfaaGG
import Derived.Deep.RegionHeld3
namespace Go.Proofs.Ytmkcpnklaijkfaa
open Go.RowKit
/-- Is the superblock valid? -/
def supB (n t : Int) : Bool := sizeB n && decide (0 ≤ t) && decide (t ≤ 8)
def supE (n t : Int) : Int := if supB n t then 0 else 8
/-- Its first seven words, its sum, all eight. -/
def sup7 (n t : Int) : List Int := [32777959566500194, 1, n, t, 0, 0, 0]
def supS (n t : Int) : Int := sumOf (sup7 n t)
def supW (n t : Int) : List Int := [32777959566500194, 1, n, t, 0, 0, 0, supS n t]
/-- Block b holds two cells. -/
structure Box2 (w : World) (b : Nat) (v0 v1 : Value) : Prop where
  c0 : w.cell? ⟨b, 0, none⟩ = some v0
  c1 : w.cell? ⟨b, 1, none⟩ = some v1
  fz : ∀ o, w.frozen? ⟨b, o, none⟩ = false
  lt : b < w.heap.size
theorem Box2.ext {w w' : World} {b : Nat} {v0 v1 : Value} (h : Box2 w b v0 v1) (x : Ext w w') : Box2 w' b v0 v1 :=
  ⟨x.cell h.c0, x.cell h.c1, fun o => by rw [x.bcell.2 b o h.lt]; exact h.fz o, Nat.lt_of_lt_of_le h.lt x.size⟩
theorem Box2.new (w : World) (v0 v1 : Value) (T : TypeId) : Box2 (w.alloc (Obj.cells #[v0, v1] T)) w.heap.size v0 v1 :=
  ⟨by simp [go_sem], by simp [go_sem], fun o => by simp [go_sem], by simp⟩
/-- Block b holds eight cells. -/
structure Blk8 (w : World) (b : Nat) (v0 v1 v2 v3 v4 v5 v6 v7 : Value) : Prop where
  c0 : w.cell? ⟨b, 0, none⟩ = some v0
  c1 : w.cell? ⟨b, 1, none⟩ = some v1
  c2 : w.cell? ⟨b, 2, none⟩ = some v2
  c3 : w.cell? ⟨b, 3, none⟩ = some v3
  c4 : w.cell? ⟨b, 4, none⟩ = some v4
  c5 : w.cell? ⟨b, 5, none⟩ = some v5
  c6 : w.cell? ⟨b, 6, none⟩ = some v6
  c7 : w.cell? ⟨b, 7, none⟩ = some v7
  fz : ∀ o, w.frozen? ⟨b, o, none⟩ = false
  lt : b < w.heap.size
theorem Blk8.ext {w w' : World} {b : Nat} {v0 v1 v2 v3 v4 v5 v6 v7 : Value} (h : Blk8 w b v0 v1 v2 v3 v4 v5 v6 v7) (x : Ext w w') : Blk8 w' b v0 v1 v2 v3 v4 v5 v6 v7 :=
  ⟨x.cell h.c0, x.cell h.c1, x.cell h.c2, x.cell h.c3, x.cell h.c4, x.cell h.c5, x.cell h.c6, x.cell h.c7, fun o => by rw [x.bcell.2 b o h.lt]; exact h.fz o, Nat.lt_of_lt_of_le h.lt x.size⟩
theorem Blk8.new (w : World) (v0 v1 v2 v3 v4 v5 v6 v7 : Value) (T : TypeId) : Blk8 (w.alloc (Obj.cells #[v0, v1, v2, v3, v4, v5, v6, v7] T)) w.heap.size v0 v1 v2 v3 v4 v5 v6 v7 :=
  ⟨by simp [go_sem], by simp [go_sem], by simp [go_sem], by simp [go_sem], by simp [go_sem], by simp [go_sem], by simp [go_sem], by simp [go_sem], fun o => by simp [go_sem], by simp⟩
theorem Ext.set8 {a w : World} (h : Ext a w) {b : Nat} (hb : a.heap.size ≤ b) (u0 u1 u2 u3 u4 u5 u6 u7 : Value) : Ext a (((((((((((((((((w).setCell ⟨b, 0, none⟩ u0)).setCell ⟨b, 1, none⟩ u1)).setCell ⟨b, 2, none⟩ u2)).setCell ⟨b, 3, none⟩ u3)).setCell ⟨b, 4, none⟩ u4)).setCell ⟨b, 5, none⟩ u5)).setCell ⟨b, 6, none⟩ u6)).setCell ⟨b, 7, none⟩ u7)) :=
  ((((((((((((((((h).setCell (p := ⟨b, 0, none⟩) hb u0)).setCell (p := ⟨b, 1, none⟩) hb u1)).setCell (p := ⟨b, 2, none⟩) hb u2)).setCell (p := ⟨b, 3, none⟩) hb u3)).setCell (p := ⟨b, 4, none⟩) hb u4)).setCell (p := ⟨b, 5, none⟩) hb u5)).setCell (p := ⟨b, 6, none⟩) hb u6)).setCell (p := ⟨b, 7, none⟩) hb u7)
set_option maxHeartbeats 800000 in
theorem supCheck_any (n t : Int) (w : World) :
    Calls Try.prog 66 #[.agg #[.int .i64 n, .int .i64 t]] w fun e w' => e = .returned (.int .i64 (supE n t)) ∧ Ext w w' := by
  go_enter Try.func66, Try.ntmps66
  go_wp2
  all_goals go_ret
  all_goals refine ⟨ret_int ?_, (Ext.refl w).alloc _⟩
  all_goals simp_all [supE, supB, sizeB]
  all_goals omega
set_option maxRecDepth 100000 in
set_option maxHeartbeats 3200000 in
theorem supWords_any (n t : Int) (n0 : 0 ≤ n) (n1 : n ≤ 2048) (t0 : 0 ≤ t) (t1 : t ≤ 2048) (w : World) :
    Calls Try.prog 67 #[.agg #[.int .i64 n, .int .i64 t]] w fun e w' => e = .returned (.agg #[.int .u64 32777959566500194, .int .u64 1, .int .u64 n, .int .u64 t, .int .u64 0, .int .u64 0, .int .u64 0, .int .u64 (supS n t)]) ∧ Ext w w' := by
  have hw1 : IntKind.u64.wrap n = n := u64_small n0 (by omega)
  have hw2 : IntKind.u64.wrap t = t := u64_small t0 (by omega)
  have hR := ((Blk8.new (w.alloc (Obj.cells #[.int .i64 n, .int .i64 t] 28)) (.int .u64 0) (.int .u64 0) (.int .u64 0) (.int .u64 0) (.int .u64 0) (.int .u64 0) (.int .u64 0) (.int .u64 0) 98).ext ((Ext.refl _).alloc (Obj.cells #[.int .u64 32777959566500194, .int .u64 1, .int .u64 n, .int .u64 t, .int .u64 0, .int .u64 0, .int .u64 0, .int .u64 0] 98)))
  have hX := Blk8.new ((w.alloc (Obj.cells #[.int .i64 n, .int .i64 t] 28)).alloc (Obj.cells #[.int .u64 0, .int .u64 0, .int .u64 0, .int .u64 0, .int .u64 0, .int .u64 0, .int .u64 0, .int .u64 0] 98)) (.int .u64 32777959566500194) (.int .u64 1) (.int .u64 n) (.int .u64 t) (.int .u64 0) (.int .u64 0) (.int .u64 0) (.int .u64 0) 98
  have hxW : Ext w (((w.alloc (Obj.cells #[.int .i64 n, .int .i64 t] 28)).alloc (Obj.cells #[.int .u64 0, .int .u64 0, .int .u64 0, .int .u64 0, .int .u64 0, .int .u64 0, .int .u64 0, .int .u64 0] 98)).alloc (Obj.cells #[.int .u64 32777959566500194, .int .u64 1, .int .u64 n, .int .u64 t, .int .u64 0, .int .u64 0, .int .u64 0, .int .u64 0] 98)) := (((Ext.refl w).alloc _).alloc _).alloc _
  have hS := Sl.pre (k := 7) (size := 1) (Sl.lit' (w := (w.alloc (Obj.cells #[.int .i64 n, .int .i64 t] 28)).alloc (Obj.cells #[.int .u64 0, .int .u64 0, .int .u64 0, .int .u64 0, .int .u64 0, .int .u64 0, .int .u64 0, .int .u64 0] 98)) #[.int .u64 32777959566500194, .int .u64 1, .int .u64 n, .int .u64 t, .int .u64 0, .int .u64 0, .int .u64 0, .int .u64 0] 98 (w.heap.size + 1 + 1) 8 (by simp) (by decide)) (by decide)
  simp only [World.size_alloc] at hR hX
  go_enter Try.func67, Try.ntmps67
  go_wp2_with fail
  obtain ⟨W, hW⟩ : ∃ W, W = ((w.alloc (Obj.cells #[.int .i64 n, .int .i64 t] 28)).alloc (Obj.cells #[.int .u64 0, .int .u64 0, .int .u64 0, .int .u64 0, .int .u64 0, .int .u64 0, .int .u64 0, .int .u64 0] 98)).alloc (Obj.cells #[.int .u64 32777959566500194, .int .u64 1, .int .u64 n, .int .u64 t, .int .u64 0, .int .u64 0, .int .u64 0, .int .u64 0] 98) := ⟨_, rfl⟩
  rw [← hW] at hR hX hS hxW ⊢
  obtain ⟨gX, hgX⟩ : ∃ g, w.heap.size + 1 + 1 = g := ⟨_, rfl⟩
  have loX : w.heap.size ≤ gX := by omega
  rw [hgX] at hX hS ⊢
  obtain ⟨gR, hgR⟩ : ∃ g, w.heap.size + 1 = g := ⟨_, rfl⟩
  have loR : w.heap.size ≤ gR := by omega
  have ne1 : gR ≠ gX := by omega
  have ne2 : gX ≠ gR := by omega
  rw [hgR] at hR ⊢
  clear hW hgX hgR
  refine (sumOf_any (sup7 n t) (some ⟨gX, 0, none⟩) 8 W hS (show 7 ≤ 2048 by decide)).mono ?_
  rintro e w1 ⟨rfl, hx⟩
  rw [show sumOf (sup7 n t) = supS n t from rfl]
  obtain ⟨sv, hsv⟩ : ∃ v, supS n t = v := ⟨_, rfl⟩
  rw [hsv]
  obtain ⟨x0, x1, x2, x3, x4, x5, x6, x7, xf, xl⟩ := hX.ext hx
  obtain ⟨r0, r1, r2, r3, r4, r5, r6, r7, rf, rl⟩ := hR.ext hx
  have HXW := Lib.hid (hxW.trans hx)
  have HSV := Lib.hid hsv
  clear hX hR hS hxW hx hsv
  go_wp2_with fail
  refine bodyPost_ret (v := .agg #[.int .u64 32777959566500194, .int .u64 1, .int .u64 n, .int .u64 t, .int .u64 0, .int .u64 0, .int .u64 0, .int .u64 sv]) (by simp [results, Try.results67, go_sem, r0, r1, r2, r3, r4, r5, r6, r7]) rfl ⟨by rw [HSV.out], ?_⟩
  exact Ext.set8 (HXW.out.setCell (p := ⟨gX, 7, none⟩) loX _) loR _ _ _ _ _ _ _ _
set_option maxRecDepth 100000 in
set_option maxHeartbeats 3200000 in
theorem supWrite_any (n t : Int) (w : World) :
    Calls Try.prog 22 #[.agg #[.int .i64 n, .int .i64 t]] w fun e w' => (supB n t = true ∧ (∃ g c, e = .returned (.tuple #[.slice (some ⟨g, 0, none⟩) 8 c, .int .i64 0]) ∧ Sl w' (some ⟨g, 0, none⟩) 8 c (fU (supW n t)) ∧ w.heap.size ≤ g) ∧ Ext w w') ∨ (supB n t = false ∧ e = .returned (.tuple #[.slice none 0 0, .int .i64 8]) ∧ Ext w w') := by
  have hc := fun W => supCheck_any n t W
  cases hb : supB n t with
  | false =>
    rw [show supE n t = 8 from by simp [supE, hb]] at hc
    go_enter Try.func22, Try.ntmps22
    go_wp2_with fail
    refine (hc _).mono ?_
    rintro e w1 ⟨rfl, hx⟩
    go_wp2_with fail
    exact bodyPost_ret (v := .tuple #[.slice none 0 0, .int .i64 8]) (by simp [results, Try.results22, go_sem]) rfl (.inr ⟨trivial, rfl, Ext.trans ((Ext.refl w).alloc _) hx⟩)
  | true =>
    have hbd : 0 ≤ n ∧ n ≤ 2048 ∧ 0 ≤ t ∧ t ≤ 2048 := by
      simp only [supB, Bool.and_eq_true, decide_eq_true_eq] at hb
      have := sizeB_bd hb.1.1
      omega
    have hws := fun W => supWords_any n t hbd.1 hbd.2.1 hbd.2.2.1 hbd.2.2.2 W
    rw [show supE n t = 0 from by simp [supE, hb]] at hc
    have HH := Lib.hid (And.intro hc hws)
    clear hc hws hb hbd
    go_enter Try.func22, Try.ntmps22
    go_wp2_with fail
    have hB := Box2.new w (.int .i64 n) (.int .i64 t) 28
    refine (HH.out.1 _).mono ?_
    rintro e w1 ⟨rfl, hx⟩
    have hxw : Ext w w1 := Ext.trans ((Ext.refl w).alloc _) hx
    obtain ⟨b0, b1, bf, bl⟩ := hB.ext hx
    clear hB hx
    go_wp2_with fail
    refine (HH.out.2 _).mono ?_
    rintro e w2 ⟨rfl, hx2⟩
    have hs := Sl.lit' (w := w2) #[.int .u64 32777959566500194, .int .u64 1, .int .u64 n, .int .u64 t, .int .u64 0, .int .u64 0, .int .u64 0, .int .u64 (supS n t)] 98 w2.heap.size 8 rfl (by decide)
    have HF := Lib.hid (And.intro hs (And.intro (hxw.trans hx2) (hxw.trans hx2).size))
    clear hs hxw hx2 b0 b1 bf bl
    go_wp2_with fail
    exact bodyPost_ret (v := .tuple #[.slice (some ⟨w2.heap.size, 0, none⟩) 8 8, .int .i64 0]) (by simp [results, Try.results22, go_sem]) rfl (.inl ⟨trivial, ⟨_, _, rfl, HF.out.1, HF.out.2.2⟩, HF.out.2.1.alloc _⟩)
theorem run_eqlS (a b d e : Int) (w : World) : (binOp .eql 28 (.agg #[.int .i64 a, .int .i64 b]) (.agg #[.int .i64 d, .int .i64 e])).run Try.prog w = .ok (.bool (a == d && b == e)) w := by
  go_simp
  by_cases h : a = d <;> by_cases h' : b = e <;> simp [h, h']
theorem Box2.set (w : World) (b : Nat) (v0 v1 u0 u1 : Value) (h : Box2 w b v0 v1) : Box2 ((w.setCell ⟨b, 0, none⟩ u0).setCell ⟨b, 1, none⟩ u1) b u0 u1 :=
  ⟨by rw [cell_other (by simp)]; exact cell_same h.c0, cell_same (by rw [cell_other (by simp)]; exact h.c1), fun o => by rw [World.frozen?_setCell, World.frozen?_setCell]; exact h.fz o, by simpa using h.lt⟩
theorem Box2.far {w : World} {b : Nat} {v0 v1 : Value} (h : Box2 w b v0 v1) {p : Addr} (hp : p.block ≠ b) (u : Value) : Box2 (w.setCell p u) b v0 v1 := by
  have hne : ∀ o, p ≠ ⟨b, o, none⟩ := fun o e => hp (by rw [e])
  exact ⟨by rw [cell_other (hne 0)]; exact h.c0, by rw [cell_other (hne 1)]; exact h.c1, fun o => by rw [World.frozen?_setCell]; exact h.fz o, by simpa using h.lt⟩
theorem Blk8.far {w : World} {b : Nat} {v0 v1 v2 v3 v4 v5 v6 v7 : Value} (h : Blk8 w b v0 v1 v2 v3 v4 v5 v6 v7) {p : Addr} (hp : p.block ≠ b) (u : Value) : Blk8 (w.setCell p u) b v0 v1 v2 v3 v4 v5 v6 v7 := by
  have hne : ∀ o, p ≠ ⟨b, o, none⟩ := fun o e => hp (by rw [e])
  exact ⟨by rw [cell_other (hne 0)]; exact h.c0, by rw [cell_other (hne 1)]; exact h.c1, by rw [cell_other (hne 2)]; exact h.c2, by rw [cell_other (hne 3)]; exact h.c3, by rw [cell_other (hne 4)]; exact h.c4, by rw [cell_other (hne 5)]; exact h.c5, by rw [cell_other (hne 6)]; exact h.c6, by rw [cell_other (hne 7)]; exact h.c7, fun o => by rw [World.frozen?_setCell]; exact h.fz o, by simpa using h.lt⟩
/-- Are eight words the words of a superblock? -/
def rdS (x0 x1 x2 x3 x4 x5 x6 x7 : Int) : Bool := supB x2 x3 && (x0 == 32777959566500194 && x1 == 1 && x4 == 0 && x5 == 0 && x6 == 0 && x7 == supS x2 x3)
theorem run_neq8 (x0 x1 x2 x3 x4 x5 x6 x7 a0 a1 a2 a3 a4 a5 a6 a7 : Int) (w : World) : (binOp .neq 98 (.agg #[.int .u64 a0, .int .u64 a1, .int .u64 a2, .int .u64 a3, .int .u64 a4, .int .u64 a5, .int .u64 a6, .int .u64 a7]) (.agg #[.int .u64 x0, .int .u64 x1, .int .u64 x2, .int .u64 x3, .int .u64 x4, .int .u64 x5, .int .u64 x6, .int .u64 x7])).run Try.prog w = .ok (.bool (!(a0 == x0 && a1 == x1 && a2 == x2 && a3 == x3 && a4 == x4 && a5 == x5 && a6 == x6 && a7 == x7))) w := by
  obtain ⟨i, hi, -, -, -⟩ := info_parts (show (Try.prog.info? 24).map (fun i => (i.zero, i.size, i.bytes)) = some (some (.int .u64 0), 1, 8) by kernel_rfl)
  have hu : Try.prog.underlying 98 = some (.array 8 24) := by kernel_rfl
  have hc : Try.prog.cellsOf 24 = 1 := by kernel_rfl
  rw [run_neq_struct, run_equalIn_array w 9999 _ _ hu hi, hc, show List.range 8 = [0, 1, 2, 3, 4, 5, 6, 7] from rfl]
  simp only [Op.eqItems]
  go_simp
  (repeat' split) <;> simp [*]
set_option maxRecDepth 100000 in
set_option maxHeartbeats 12800000 in
theorem supRead_any (x0 x1 x2 x3 x4 x5 x6 x7 : Int) (A : Option Addr) (c : Nat) (w : World) (hA : Sl w A 8 c (fU [x0, x1, x2, x3, x4, x5, x6, x7])) :
    Calls Try.prog 34 #[.slice A 8 c] w fun e w' => ((rdS x0 x1 x2 x3 x4 x5 x6 x7 = true ∧ e = .returned (.tuple #[.agg #[.int .i64 x2, .int .i64 x3], .int .i64 0])) ∨ (rdS x0 x1 x2 x3 x4 x5 x6 x7 = false ∧ e = .returned (.tuple #[.agg #[.int .i64 0, .int .i64 0], .int .i64 50]))) ∧ Ext w w' := by
  obtain ⟨a0, ha0, hc⟩ := hA.cells (by simp [fU])
  subst ha0
  have c0 := hc 0 (.int .u64 x0) rfl
  rw [show a0.add 0 = a0 from rfl] at c0
  have c1 := hc 1 (.int .u64 x1) rfl
  rw [add_lit_] at c1
  have c2 := hc 2 (.int .u64 x2) rfl
  rw [add_lit_] at c2
  have c3 := hc 3 (.int .u64 x3) rfl
  rw [add_lit_] at c3
  have c4 := hc 4 (.int .u64 x4) rfl
  rw [add_lit_] at c4
  have c5 := hc 5 (.int .u64 x5) rfl
  rw [add_lit_] at c5
  have c6 := hc 6 (.int .u64 x6) rfl
  rw [add_lit_] at c6
  have c7 := hc 7 (.int .u64 x7) rfl
  rw [add_lit_] at c7
  clear hc
  have hb0 := block_lt_of_cell c0
  have hb1 : a0.block < w.heap.size + 1 := by omega
  have hb2 : a0.block ≠ w.heap.size := by omega
  have hb3 : a0.block ≠ w.heap.size + 1 := by omega
  have hap : ∀ w, (Instr.arrayAt 98 (.slice (some a0) 8 c)).run Try.prog w = .ok (.pointer (some a0)) w := fun w => by kernel_rfl
  have hR := ((Box2.new w (.int .i64 0) (.int .i64 0) 28).ext ((Ext.refl _).alloc (Obj.cells #[.int .i64 0, .int .i64 0] 28))).ext ((Ext.refl _).alloc (Obj.cells #[.int .u64 x0, .int .u64 x1, .int .u64 x2, .int .u64 x3, .int .u64 x4, .int .u64 x5, .int .u64 x6, .int .u64 x7] 98))
  have hS := (Box2.new (w.alloc (Obj.cells #[.int .i64 0, .int .i64 0] 28)) (.int .i64 0) (.int .i64 0) 28).ext ((Ext.refl _).alloc (Obj.cells #[.int .u64 x0, .int .u64 x1, .int .u64 x2, .int .u64 x3, .int .u64 x4, .int .u64 x5, .int .u64 x6, .int .u64 x7] 98))
  have hX := Blk8.new ((w.alloc (Obj.cells #[.int .i64 0, .int .i64 0] 28)).alloc (Obj.cells #[.int .i64 0, .int .i64 0] 28)) (.int .u64 x0) (.int .u64 x1) (.int .u64 x2) (.int .u64 x3) (.int .u64 x4) (.int .u64 x5) (.int .u64 x6) (.int .u64 x7) 98
  have hxW : Ext w (((w.alloc (Obj.cells #[.int .i64 0, .int .i64 0] 28)).alloc (Obj.cells #[.int .i64 0, .int .i64 0] 28)).alloc (Obj.cells #[.int .u64 x0, .int .u64 x1, .int .u64 x2, .int .u64 x3, .int .u64 x4, .int .u64 x5, .int .u64 x6, .int .u64 x7] 98)) := (((Ext.refl w).alloc _).alloc _).alloc _
  simp only [World.size_alloc] at hR hS hX
  have HQ := Lib.hid (And.intro hR (And.intro hS (And.intro hX hxW)))
  clear hR hS hX hxW hA
  go_enter Try.func34, Try.ntmps34
  go_wp2_with fail
  go_step3
  go_wp2_with fail
  go_step3
  go_wp2_with fail
  clear c0 c1 c2 c3 c4 c5 c6 c7 hb0 hb1 hb2 hb3 hap
  obtain ⟨hR, hS, hX, hxW⟩ := HQ.out
  obtain ⟨W, hW⟩ : ∃ W, W = ((w.alloc (Obj.cells #[.int .i64 0, .int .i64 0] 28)).alloc (Obj.cells #[.int .i64 0, .int .i64 0] 28)).alloc (Obj.cells #[.int .u64 x0, .int .u64 x1, .int .u64 x2, .int .u64 x3, .int .u64 x4, .int .u64 x5, .int .u64 x6, .int .u64 x7] 98) := ⟨_, rfl⟩
  rw [← hW] at hR hS hX hxW ⊢
  obtain ⟨gX, hgX⟩ : ∃ g, w.heap.size + 1 + 1 = g := ⟨_, rfl⟩
  have loX : w.heap.size ≤ gX := by omega
  rw [hgX] at hX ⊢
  obtain ⟨gS, hgS⟩ : ∃ g, w.heap.size + 1 = g := ⟨_, rfl⟩
  have loS : w.heap.size ≤ gS := by omega
  have ne1 : gS ≠ gX := by omega
  rw [hgS] at hS ⊢
  obtain ⟨gR, hgR⟩ : ∃ g, w.heap.size = g := ⟨_, rfl⟩
  have loR : w.heap.size ≤ gR := by omega
  have ne2 : gR ≠ gS := by omega
  rw [hgR] at hR
  simp only [hgR]
  have H := Lib.hid (And.intro hR (And.intro hS (And.intro hX hxW)))
  clear hR hS hX hxW hW hgX hgS hgR HQ
  go_loopw [6] (fun v wr => ∃ n : Int, v = .int .i64 n ∧ 256 ≤ n ∧ n ≤ 2056 ∧ n % 8 = 0 ∧ ¬ (supB x2 x3 = true ∧ x2 < n) ∧ wr = W) (fun v _ => (2056 - intOf v).toNat)
  case atStart =>
    refine ⟨256, rfl, by decide, by decide, by decide, ?_, rfl⟩
    rintro ⟨h1, h2⟩
    simp only [supB, Bool.and_eq_true, decide_eq_true_eq] at h1
    have := sizeB_bd h1.1.1
    omega
  case round =>
    obtain ⟨n, rfl, n0, n1, n8, hnot, rfl⟩ := hrel
    by_cases hlt : n ≤ 2048
    · have HN := Lib.hid hnot
      clear hnot
      have hwn : IntKind.u64.wrap n = n := u64_small (by omega) hlt
      go_wp2_with fail
      go_loopw [19] (fun v wr' => ∃ t : Int, v = .int .i64 t ∧ 0 ≤ t ∧ t ≤ 9 ∧ ¬ (x2 = n ∧ 0 ≤ x3 ∧ x3 < t) ∧ wr' = wr) (fun v _ => (9 - intOf v).toNat)
      case atStart => exact ⟨0, rfl, by decide, by decide, by omega, rfl⟩
      case round =>
        obtain ⟨t, rfl, t0, t1, hnt, rfl⟩ := hrel
        by_cases hlt2 : t < 9
        · have HT := Lib.hid hnt
          clear hnt
          have hwt : IntKind.u64.wrap t = t := u64_small t0 (by omega)
          obtain ⟨w0, w1, w2, w3, w4, w5, w6, w7, wf, wl⟩ := H.out.2.2.1
          by_cases h2 : x2 = n
          · by_cases h3 : x3 = t
            · subst h2 h3
              have hs : supB x2 x3 = true := by
                simp only [supB, sizeB, Bool.and_eq_true, decide_eq_true_eq]
                omega
              have hx0 : (x2 == 0) = false := by simp; omega
              have heq := run_eqlS x2 x3 0 0
              rw [hx0, Bool.false_and] at heq
              have hne := run_neq8 x0 x1 x2 x3 x4 x5 x6 x7 32777959566500194 1 x2 x3 0 0 0 (supS x2 x3)
              have hrd : (32777959566500194 == x0 && 1 == x1 && x2 == x2 && x3 == x3 && 0 == x4 && 0 == x5 && 0 == x6 && supS x2 x3 == x7) = rdS x0 x1 x2 x3 x4 x5 x6 x7 := by
                rw [Bool.eq_iff_iff]
                simp only [rdS, hs, Bool.and_eq_true, beq_iff_eq, true_and]
                constructor
                · rintro ⟨⟨⟨⟨⟨⟨⟨h0, h1⟩, _⟩, _⟩, h4⟩, h5⟩, h6⟩, h7⟩
                  exact ⟨⟨⟨⟨⟨h0.symm, h1.symm⟩, h4.symm⟩, h5.symm⟩, h6.symm⟩, h7.symm⟩
                · rintro ⟨⟨⟨⟨⟨h0, h1⟩, h4⟩, h5⟩, h6⟩, h7⟩
                  exact ⟨⟨⟨⟨⟨⟨⟨h0.symm, h1.symm⟩, trivial⟩, trivial⟩, h4.symm⟩, h5.symm⟩, h6.symm⟩, h7.symm⟩
              rw [hrd] at hne
              have hws := fun W => supWords_any x2 x3 (by omega) (by omega) (by omega) (by omega) W
              obtain ⟨sv, hsv⟩ : ∃ v, supS x2 x3 = v := ⟨_, rfl⟩
              rw [hsv] at hne hws
              have HW := Lib.hid hws
              have hb2 : (x2 == x2) = true := by simp
              have hb3 : (x3 == x3) = true := by simp
              have hS := Box2.set wr gS _ _ (.int .i64 x2) (.int .i64 x3) H.out.2.1
              have hX := ((H.out.2.2.1).far (p := ⟨gS, 0, none⟩) ne1 (.int .i64 x2)).far (p := ⟨gS, 1, none⟩) ne1 (.int .i64 x3)
              have hR := (H.out.1.far (p := ⟨gS, 0, none⟩) (Ne.symm ne2) (.int .i64 x2)).far (p := ⟨gS, 1, none⟩) (Ne.symm ne2) (.int .i64 x3)
              have hxW := (H.out.2.2.2.setCell (p := ⟨gS, 0, none⟩) loS (.int .i64 x2)).setCell (p := ⟨gS, 1, none⟩) loS (.int .i64 x3)
              have HS := Lib.hid (And.intro hS (And.intro hX (And.intro hR hxW)))
              obtain ⟨s0, s1, sf, sl⟩ := H.out.2.1
              clear hS hX hR hxW hws hsv hrd hs hx0 HN HT
              go_upto_region 14 with fail
              clear s0 s1 sf sl w0 w1 w2 w3 w4 w5 w6 w7 wf wl
              obtain ⟨W4, hW4⟩ : ∃ W, W = (wr.setCell ⟨gS, 0, none⟩ (.int .i64 x2)).setCell ⟨gS, 1, none⟩ (.int .i64 x3) := ⟨_, rfl⟩
              rw [← hW4] at HS ⊢
              clear hW4
              obtain ⟨s0, s1, sf, sl⟩ := HS.out.1
              obtain ⟨w0, w1, w2, w3, w4, w5, w6, w7, wf, wl⟩ := HS.out.2.1
              cases hr : rdS x0 x1 x2 x3 x4 x5 x6 x7 with
              | true =>
                rw [hr] at hne
                have HR := Lib.hid hr
                clear hr
                go_region_held3 (fun w' => w'.cell? ⟨gS, 0, none⟩ = some (.int .i64 x2) ∧ w'.cell? ⟨gS, 1, none⟩ = some (.int .i64 x3) ∧ w'.cell? ⟨gX, 0, none⟩ = some (.int .u64 x0) ∧ w'.cell? ⟨gX, 1, none⟩ = some (.int .u64 x1) ∧ w'.cell? ⟨gX, 2, none⟩ = some (.int .u64 x2) ∧ w'.cell? ⟨gX, 3, none⟩ = some (.int .u64 x3) ∧ w'.cell? ⟨gX, 4, none⟩ = some (.int .u64 x4) ∧ w'.cell? ⟨gX, 5, none⟩ = some (.int .u64 x5) ∧ w'.cell? ⟨gX, 6, none⟩ = some (.int .u64 x6) ∧ w'.cell? ⟨gX, 7, none⟩ = some (.int .u64 x7)) (go_keep) ((go_at_call 67; refine (HW.out _).mono ?_; rintro e w2 ⟨rfl, hxn⟩; have hxw : Ext W4 w2 := (by repeat (first | assumption | exact Ext.refl _ | refine Ext.drewN ?_ _ | refine Ext.drew ?_ | refine Ext.alloc ?_ _ | refine Ext.trans ?_ (by assumption))); obtain ⟨v0, v1, vf, vl⟩ := HS.out.1.ext hxw; obtain ⟨y0, y1, y2, y3, y4, y5, y6, y7, yf, yl⟩ := HS.out.2.1.ext hxw; obtain ⟨r0, r1, rf, rl⟩ := HS.out.2.2.1.ext hxw))
                all_goals
                  go_wp2_with fail
                  rw [Exit.noGoto_ret]
                  refine bodyPost_ret (v := .tuple #[.agg #[.int .i64 x2, .int .i64 x3], .int .i64 0]) (by simp [results, Try.results34, go_sem, r0, r1]) rfl ⟨.inl ⟨HR.out, rfl⟩, ?_⟩
                  exact ((HS.out.2.2.2.trans (by repeat (first | assumption | exact Ext.refl _ | refine Ext.drewN ?_ _ | refine Ext.drew ?_ | refine Ext.alloc ?_ _ | refine Ext.trans ?_ (by assumption)))).setCell (p := ⟨gR, 0, none⟩) loR _).setCell (p := ⟨gR, 1, none⟩) loR _
              | false =>
                rw [hr] at hne
                have HR := Lib.hid hr
                clear hr
                go_region_held3 (fun w' => w'.cell? ⟨gS, 0, none⟩ = some (.int .i64 x2) ∧ w'.cell? ⟨gS, 1, none⟩ = some (.int .i64 x3) ∧ w'.cell? ⟨gX, 0, none⟩ = some (.int .u64 x0) ∧ w'.cell? ⟨gX, 1, none⟩ = some (.int .u64 x1) ∧ w'.cell? ⟨gX, 2, none⟩ = some (.int .u64 x2) ∧ w'.cell? ⟨gX, 3, none⟩ = some (.int .u64 x3) ∧ w'.cell? ⟨gX, 4, none⟩ = some (.int .u64 x4) ∧ w'.cell? ⟨gX, 5, none⟩ = some (.int .u64 x5) ∧ w'.cell? ⟨gX, 6, none⟩ = some (.int .u64 x6) ∧ w'.cell? ⟨gX, 7, none⟩ = some (.int .u64 x7)) (go_keep) ((go_at_call 67; refine (HW.out _).mono ?_; rintro e w2 ⟨rfl, hxn⟩; have hxw : Ext W4 w2 := (by repeat (first | assumption | exact Ext.refl _ | refine Ext.drewN ?_ _ | refine Ext.drew ?_ | refine Ext.alloc ?_ _ | refine Ext.trans ?_ (by assumption))); obtain ⟨v0, v1, vf, vl⟩ := HS.out.1.ext hxw; obtain ⟨y0, y1, y2, y3, y4, y5, y6, y7, yf, yl⟩ := HS.out.2.1.ext hxw; obtain ⟨r0, r1, rf, rl⟩ := HS.out.2.2.1.ext hxw))
                all_goals
                  go_wp2_with fail
                  rw [Exit.noGoto_ret]
                  refine bodyPost_ret (v := .tuple #[.agg #[.int .i64 0, .int .i64 0], .int .i64 50]) (by simp [results, Try.results34, go_sem, r0, r1]) rfl ⟨.inr ⟨HR.out, rfl⟩, ?_⟩
                  exact ((HS.out.2.2.2.trans (by repeat (first | assumption | exact Ext.refl _ | refine Ext.drewN ?_ _ | refine Ext.drew ?_ | refine Ext.alloc ?_ _ | refine Ext.trans ?_ (by assumption)))).setCell (p := ⟨gR, 0, none⟩) loR _).setCell (p := ⟨gR, 1, none⟩) loR _
            · have hb2 : (n == x2) = true := by simp [h2]
              have hb3 : (t == x3) = false := by simp; omega
              go_wp2_with fail
              go_roundw
              case rel => exact ⟨t + 1, by go_num, by omega, by omega, by rintro ⟨_, h4, h5⟩; exact HT.out ⟨h2, h4, by omega⟩, trivial⟩
              case measure => simp [intOf]; omega
          · have hb2 : (n == x2) = false := by simp; omega
            go_wp2_with fail
            go_roundw
            case rel => exact ⟨t + 1, by go_num, by omega, by omega, by rintro ⟨h4, _⟩; exact h2 h4, trivial⟩
            case measure => simp [intOf]; omega
        · go_wp2_with fail
          go_roundw
          case rel =>
            refine ⟨n + 8, by go_num, by omega, by omega, by omega, ?_, trivial⟩
            rintro ⟨h4, h5⟩
            have h6 := h4
            simp only [supB, Bool.and_eq_true, decide_eq_true_eq] at h6
            have h7 := sizeB_bd h6.1.1
            by_cases h8 : x2 = n
            · exact hnt ⟨h8, by omega, by omega⟩
            · exact HN.out ⟨h4, by omega⟩
          case measure => simp [intOf]; omega
    · have hsb : supB x2 x3 = false := by
        cases hs : supB x2 x3 with
        | false => rfl
        | true =>
          have h6 := hs
          simp only [supB, Bool.and_eq_true, decide_eq_true_eq] at h6
          have h7 := sizeB_bd h6.1.1
          exact absurd ⟨hs, by omega⟩ hnot
      have HR := Lib.hid (show rdS x0 x1 x2 x3 x4 x5 x6 x7 = false by simp [rdS, hsb])
      have heq := run_eqlS 0 0 0 0
      simp only [beq_self_eq_true, Bool.and_self] at heq
      obtain ⟨s0, s1, sf, sl⟩ := H.out.2.1
      clear hsb hnot
      go_wp2_with fail
      go_quiet (fail)
      obtain ⟨r0, r1, rf, rl⟩ := H.out.1.ext (ext_drewN wr nq)
      go_wp2_with fail
      rw [Exit.noGoto_ret]
      refine bodyPost_ret (v := .tuple #[.agg #[.int .i64 0, .int .i64 0], .int .i64 50]) (by simp [results, Try.results34, go_sem, r0, r1]) rfl ⟨.inr ⟨HR.out, rfl⟩, ?_⟩
      exact ((H.out.2.2.2.trans (ext_drewN wr nq)).setCell (p := ⟨gR, 0, none⟩) loR _).setCell (p := ⟨gR, 1, none⟩) loR _
end Go.Proofs.Ytmkcpnklaijkfaa
