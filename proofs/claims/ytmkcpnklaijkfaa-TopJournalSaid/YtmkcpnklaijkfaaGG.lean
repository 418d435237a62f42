/-
  Several texts in one: DLoad, DRefL, Box, DTwin, DRTwin, DOwn, DFlush, CopyS, DIns.
-/
import Derived.Test.YtmkcpnklaijkfaaGF
import Derived.Test.YtmkcpnklaijkfaaGA
import Derived.Deep.RegionLaw
import Derived.Deep.Cut
import Derived.Lib.AppendZerosOnto
import Derived.Lib.Overlaps
import Derived.Laws.Externs
/-
  The contracts of loading, of all words, of new devices, and of copies.
-/
namespace Go.Proofs.Ytmkcpnklaijkfaa
open Go.RowKit
/-- A device: the words that are safe, the dirty ones, Left, Down. -/
abbrev Dev4 := List Int × List Dw × Int × Bool
def zeroV : Dev4 := ([], [], 0, false)
/-- The call returned a device and a number. -/
def RetV (w0 : World) (D : Dev4) (er : Int) (en : Ending) (w' : World) : Prop :=
  ∃ A c B k, en = .returned (.tuple #[.agg #[.slice A D.1.length c, .slice B D.2.1.length k, .int .i64 D.2.2.1, .bool D.2.2.2], .int .i64 er]) ∧ Sl w' A D.1.length c (fU D.1) ∧ Sl w' B D.2.1.length k (fD D.2.1) ∧ Ext w0 w'
/-- The call returned words of its own and a number. -/
def RetUo (w0 : World) (l : List Int) (er : Int) (en : Ending) (w' : World) : Prop :=
  ∃ A c, en = .returned (.tuple #[.slice A l.length c, .int .i64 er]) ∧ w'.ownsRow w0.heap.size 24 1 (.slice A l.length c) l.length (fU l) ∧ Sl w' A l.length c (fU l) ∧ Ext w0 w'
theorem retUo_mk {w0 w' : World} {l : List Int} {n : Nat} {er : Int} {v : Value} (hn : l.length = n) (h : w'.ownsRow w0.heap.size 24 1 v n (fU l)) (hx : Ext w0 w') : RetUo w0 l er (.returned (.tuple #[v, .int .i64 er])) w' := by
  subst hn
  obtain ⟨A, c, rfl, hs⟩ := Sl.of_own h
  exact ⟨A, c, rfl, h, hs, hx⟩
theorem retUo_nil {w0 w' : World} {er : Int} (hx : Ext w0 w') : RetUo w0 [] er (.returned (.tuple #[.slice none 0 0, .int .i64 er])) w' := ⟨none, 0, rfl, own_nil _ _ _ _, Sl.nil_ _, hx⟩
theorem retV_zero {w0 w' : World} {er : Int} (hx : Ext w0 w') : RetV w0 zeroV er (.returned (.tuple #[.agg #[.slice none 0 0, .slice none 0 0, .int .i64 0, .bool false], .int .i64 er])) w' := ⟨none, 0, none, 0, rfl, Sl.nil_ _, Sl.nil_ _, hx⟩
/-- What is loaded, and all words. -/
def loadV (m : List Int) (q : List Dw) (left : Int) (down : Bool) (a : Int) : Int := if askE m q left down a = 0 then ldV m q a else 0
def viewL (m : List Int) (q : List Dw) (left : Int) (down : Bool) : List Int := if devE m q left down = 0 then wrd m q else []
theorem askE_ok {m : List Int} {q : List Dw} {left : Int} {down : Bool} {a : Int} (h : askE m q left down a = 0) : devB m q left down = true ∧ 0 ≤ a ∧ a < m.length := by
  unfold askE at h
  split at h
  · split at h
    · cases h
    · exact ⟨by assumption, by omega, by omega⟩
  · cases h
theorem devE_ok {m : List Int} {q : List Dw} {left : Int} {down : Bool} (h : devE m q left down = 0) : devB m q left down = true := by
  unfold devE at h
  split at h
  · assumption
  · cases h
theorem own_far {w : World} {base : Nat} {e : TypeId} {size n : Nat} {A : Option Addr} {c b : Nat} {xs : List Value} (h : w.ownsRow base e size (.slice A n c) n xs) (hb : b < base) : ∀ ad, A = some ad → ad.block ≠ b := by
  rintro ad rfl
  rcases h.2 with ⟨hv, _⟩ | ⟨g, cap, cur, hv, hg, _⟩
  · cases hv
  · injection hv with h1 h2 h3
    injection h1 with h1
    subst h1
    intro he
    simp only at he
    omega
theorem set4_ext {a w : World} (h : Ext a w) {b : Nat} (hb : a.heap.size ≤ b) (v0 v1 v2 v3 : Value) : Ext a ((((w.setCell ⟨b, 0, none⟩ v0).setCell ⟨b, 1, none⟩ v1).setCell ⟨b, 2, none⟩ v2).setCell ⟨b, 3, none⟩ v3) :=
  (((h.setCell (p := ⟨b, 0, none⟩) hb v0).setCell (p := ⟨b, 1, none⟩) hb v1).setCell (p := ⟨b, 2, none⟩) hb v2).setCell (p := ⟨b, 3, none⟩) hb v3
theorem set4_sl {w : World} {A : Option Addr} {n c b : Nat} {xs : List Value} (h : Sl w A n c xs) (hb : ∀ ad, A = some ad → ad.block ≠ b) (v0 v1 v2 v3 : Value) : Sl ((((w.setCell ⟨b, 0, none⟩ v0).setCell ⟨b, 1, none⟩ v1).setCell ⟨b, 2, none⟩ v2).setCell ⟨b, 3, none⟩ v3) A n c xs :=
  (((h.setCell (p := ⟨b, 0, none⟩) hb v0).setCell (p := ⟨b, 1, none⟩) hb v1).setCell (p := ⟨b, 2, none⟩) hb v2).setCell (p := ⟨b, 3, none⟩) hb v3
set_option maxHeartbeats 1600000 in
theorem dView_any (m : List Int) (q : List Dw) (left : Int) (down : Bool) (A : Option Addr) (c : Nat) (B : Option Addr) (d : Nat) (w : World) (hA : Sl w A m.length c (fU m)) (hB : Sl w B q.length d (fD q)) :
    Calls Try.prog 59 #[.agg #[.slice A m.length c, .slice B q.length d, .int .i64 left, .bool down]] w (RetUo w (viewL m q left down) (devE m q left down)) := by
  by_cases h0 : devE m q left down = 0
  · have hd := devE_ok h0
    obtain ⟨k1, k2, k3, k4, hasc⟩ := devB_bd hd
    have hsz := sizeB_bd k1
    have hql := dirty_le hd
    have hv : viewL m q left down = wrd m q := by simp [viewL, h0]
    rw [hv, h0]
    have H0 := Lib.hid h0
    have HA := Lib.hid hasc
    have K4 := Lib.hid k4
    clear h0 hv hd hasc k4 k1
    go_enter Try.func59, Try.ntmps59
    go_wp2_with fail
    refine (dCheck_any m q left down A c B d _ (hB.alloc _)).mono ?_
    rintro e w1 ⟨rfl, hx⟩
    rw [H0.out]
    obtain ⟨b0, b1, b2, b3, bs, hX⟩ := box4 hx
    go_wp2_with fail
    refine (cloneU_any m A c w1 (hA.ext hX) (by omega)).mono ?_
    rintro e w2 ⟨A2, c2, rfl, hown, hA2, hx2⟩
    obtain ⟨b0', b1', b2', b3', bs', hX'⟩ := box4 (hx.trans hx2)
    obtain ⟨g, rfl, hg⟩ := own_head hown (by omega)
    have hown2 := own_base hown hX.size
    have hg2 := Nat.le_trans hX.size hg
    clear b0 b1 b2 b3 bs hown hA2 hg
    go_wp2_with fail
    go_loopw [19] (fun i wr => ∃ k : Nat, k ≤ q.length ∧ i = .int .i64 k ∧ wr.ownsRow w.heap.size 24 1 (.slice (some ⟨g, 0, none⟩) m.length c2) m.length (fU (wrd m (q.take k))) ∧ Ext w wr) (fun i _ => q.length - (intOf i).toNat)
    case atStart => exact ⟨0, Nat.zero_le _, rfl, hown2, hX'⟩
    case round =>
      obtain ⟨k, hk, rfl, hown, hx3⟩ := hrel
      by_cases hlt : k < q.length
      · obtain ⟨ad, x, rfl, hat, g0, g1, g2⟩ := (hB.ext hx3).d_at hlt
        obtain ⟨r0, r1⟩ := ascB_mem HA.out x (List.mem_of_getElem? hat)
        have hlen := wrd_length (q.take k) m
        obtain ⟨y, hy, hc, hf⟩ := own_at_U hown (i := x.1.toNat) (by rw [hlen]; omega)
        have hgl := block_lt_of_cell hc
        have Hat := Lib.hid hat
        have i0 : 0 ≤ x.1 := by omega
        clear hat hy hlen
        go_wp2_with fail
        go_roundw
        case rel =>
          refine ⟨k + 1, by omega, by go_num, ?_, ?_⟩
          · rw [wrd_take Hat.out]
            first | exact own_set_U (hown.alloc _) _ _ | exact (own_set_U hown _ _).alloc _
          · first | exact (hx3.alloc _).setCell (p := ⟨g, x.1.toNat, none⟩) hg2 _ | exact (hx3.setCell (p := ⟨g, x.1.toNat, none⟩) hg2 _).alloc _
        case measure => simp [intOf]; omega
      · obtain rfl : k = q.length := by omega
        rw [List.take_length] at hown
        go_wp2_with fail
        go_ret2
        exact retUo_mk (wrd_length q m) hown hx3
  · have hv : viewL m q left down = [] := by simp [viewL, h0]
    rw [hv]
    have hb : (devE m q left down != 0) = true := by simpa using h0
    clear hv
    go_enter Try.func59, Try.ntmps59
    go_wp2_with fail
    refine (dCheck_any m q left down A c B d _ (hB.alloc _)).mono ?_
    rintro e w1 ⟨rfl, hx⟩
    go_wp2_with fail
    go_ret2
    exact retUo_nil (by repeat (first | assumption | exact Ext.refl _ | refine Ext.drewN ?_ _ | refine Ext.drew ?_ | refine Ext.alloc ?_ _ | refine Ext.trans ?_ (by assumption)))
end Go.Proofs.Ytmkcpnklaijkfaa
/-
  The contracts of the reference's loading, words, copies, comparisons of devices.
-/
namespace Go.Proofs.Ytmkcpnklaijkfaa
open Go.RowKit
theorem box4b {w w1 : World} {T : TypeId} {v0 v1 v2 v3 u0 u1 u2 u3 : Value} (hx : Ext ((w.alloc (Obj.cells #[v0, v1, v2, v3] T)).alloc (Obj.cells #[u0, u1, u2, u3] T)) w1) :
    w1.cell? ⟨w.heap.size, 0, none⟩ = some v0 ∧ w1.cell? ⟨w.heap.size, 1, none⟩ = some v1 ∧ w1.cell? ⟨w.heap.size, 2, none⟩ = some v2 ∧ w1.cell? ⟨w.heap.size, 3, none⟩ = some v3 ∧
    w1.cell? ⟨w.heap.size + 1, 0, none⟩ = some u0 ∧ w1.cell? ⟨w.heap.size + 1, 1, none⟩ = some u1 ∧ w1.cell? ⟨w.heap.size + 1, 2, none⟩ = some u2 ∧ w1.cell? ⟨w.heap.size + 1, 3, none⟩ = some u3 ∧ w.heap.size + 1 < w1.heap.size ∧ Ext w w1 :=
  ⟨hx.cell (by simp [go_sem]), hx.cell (by simp [go_sem]), hx.cell (by simp [go_sem]), hx.cell (by simp [go_sem]), hx.cell (by simp [go_sem]), hx.cell (by simp [go_sem]), hx.cell (by simp [go_sem]), hx.cell (by simp [go_sem]), by have := hx.size; simp at this; omega, Ext.trans (((Ext.refl w).alloc _).alloc _) hx⟩
theorem dGreat_any (left : Int) (down : Bool) (A : Option Addr) (n c : Nat) (B : Option Addr) (k d : Nat) (w : World) :
    Calls Try.prog 48 #[.agg #[.slice A n c, .slice B k d, .int .i64 left, .bool down]] w fun e w' => e = .returned (.bool (decide (2100 < n) || decide (2100 < k))) ∧ Ext w w' := by
  by_cases h : 2100 < n
  · have h' : decide (2100 < n) = true := decide_eq_true h
    go_enter Try.func48, Try.ntmps48
    go_wp2_with fail
    refine (great2_any _ _ _ _).mono ?_
    rintro e w' ⟨rfl, rfl⟩
    go_wp2_with fail
    go_ret
    exact ⟨ret_bool (by rw [h']; rfl), (by repeat (first | assumption | exact Ext.refl _ | refine Ext.drewN ?_ _ | refine Ext.drew ?_ | refine Ext.alloc ?_ _ | refine Ext.trans ?_ (by assumption)))⟩
  · have h' : decide (2100 < n) = false := decide_eq_false h
    go_enter Try.func48, Try.ntmps48
    go_wp2_with fail
    refine (great2_any _ _ _ _).mono ?_
    rintro e w' ⟨rfl, rfl⟩
    go_wp2_with fail
    go_ret
    refine ⟨ret_bool (Bool.eq_iff_iff.2 ?_), (by repeat (first | assumption | exact Ext.refl _ | refine Ext.drewN ?_ _ | refine Ext.drew ?_ | refine Ext.alloc ?_ _ | refine Ext.trans ?_ (by assumption)))⟩
    simp
    omega
set_option maxHeartbeats 1600000 in
theorem dWords_any (m : List Int) (q : List Dw) (left : Int) (down : Bool) (A : Option Addr) (c : Nat) (B : Option Addr) (d : Nat) (w : World) (hA : Sl w A m.length c (fU m)) (hB : Sl w B q.length d (fD q)) (hd : devB m q left down = true) :
    Calls Try.prog 93 #[.agg #[.slice A m.length c, .slice B q.length d, .int .i64 left, .bool down]] w (RetOwn w 24 1 m.length (fU (wrd m q))) := by
  obtain ⟨k1, k2, k3, k4, hasc⟩ := devB_bd hd
  have hsz := sizeB_bd k1
  have hql := dirty_le hd
  have HA := Lib.hid hasc
  clear hd hasc k4 k1
  go_enter Try.func93, Try.ntmps93
  go_wp2_with fail
  refine (twin2_any m A c _ (hA.alloc _) (by omega)).mono ?_
  rintro e w2 ⟨A2, c2, rfl, hown, hA2, hx2⟩
  obtain ⟨b0', b1', b2', b3', bs', hX'⟩ := box4 hx2
  obtain ⟨g, rfl, hg⟩ := own_head hown (by omega)
  have hown2 := own_base hown (base' := w.heap.size) (by simp)
  have hg2 : w.heap.size + 1 ≤ g := by simpa using hg
  clear hown hA2 hg b0' b1' b2' b3' bs'
  go_wp2_with fail
  go_loopw [4] (fun i wr => ∃ k : Nat, k ≤ q.length ∧ i = .int .i64 k ∧ wr.ownsRow w.heap.size 24 1 (.slice (some ⟨g, 0, none⟩) m.length c2) m.length (fU (wrd m (q.take k))) ∧ Ext (w.alloc (Obj.cells #[.slice A m.length c, .slice B q.length d, .int .i64 left, .bool down] 46)) wr) (fun i _ => q.length - (intOf i).toNat)
  case atStart => exact ⟨0, Nat.zero_le _, rfl, hown2, hx2⟩
  case round =>
    obtain ⟨k, hk, rfl, hown, hx3⟩ := hrel
    obtain ⟨b0, b1, b2, b3, bs, hX⟩ := box4 hx3
    by_cases hlt : k < q.length
    · obtain ⟨ad, x, rfl, hat, g0, g1, g2⟩ := (hB.ext hX).d_at hlt
      obtain ⟨r0, r1⟩ := ascB_mem HA.out x (List.mem_of_getElem? hat)
      have hlen := wrd_length (q.take k) m
      obtain ⟨y, hy, hc, hf⟩ := own_at_U hown (i := x.1.toNat) (by rw [hlen]; omega)
      have hgl := block_lt_of_cell hc
      have Hat := Lib.hid hat
      have i0 : 0 ≤ x.1 := by omega
      have i1 : (0 : Int) ≤ k := by omega
      have i2 : (k : Int) < q.length := by omega
      clear hat hy hlen
      go_wp2_with fail
      go_region
      go_wp2_with fail
      go_roundw
      case rel =>
        refine ⟨k + 1, by omega, by go_num, ?_, (hx3.setCell (p := ⟨g, x.1.toNat, none⟩) (by simpa using hg2) _).drew⟩
        rw [wrd_take Hat.out]
        exact own_set_U hown _ _
      case measure => simp [intOf]; omega
    · obtain rfl : k = q.length := by omega
      rw [List.take_length] at hown
      go_wp2_with fail
      go_ret
      exact retOwn_mk hown hX
set_option maxHeartbeats 1600000 in
theorem dSame_yes (m : List Int) (q : List Dw) (left : Int) (down : Bool) (A : Option Addr) (c : Nat) (B : Option Addr) (d : Nat) (A' : Option Addr) (c' : Nat) (B' : Option Addr) (d' : Nat) (w : World) (hA : Sl w A m.length c (fU m)) (hB : Sl w B q.length d (fD q)) (hA' : Sl w A' m.length c' (fU m)) (hB' : Sl w B' q.length d' (fD q)) :
    Calls Try.prog 54 #[.agg #[.slice A m.length c, .slice B q.length d, .int .i64 left, .bool down], .agg #[.slice A' m.length c', .slice B' q.length d', .int .i64 left, .bool down]] w fun e w' => e = .returned (.bool true) ∧ Ext w w' := by
  have hql := hB.max
  unfold maxLen at hql
  have hqc := hB.le
  have hne := run_neqD
  have hdn : (down != down) = false := by simp
  go_enter Try.func54, Try.ntmps54
  go_wp2_with fail
  refine (same2_yes m m rfl A A' c c' _ ((hA.alloc _).alloc _) ((hA'.alloc _).alloc _)).mono ?_
  rintro e w1 ⟨rfl, hd1⟩
  obtain ⟨b0, b1, b2, b3, e0, e1, e2, e3, bs, hX⟩ := box4b hd1.ext
  go_wp2_with fail
  clear b0 b1 b2 b3 e0 e1 e2 e3 bs
  go_loopw [5] (fun i wr => ∃ k : Nat, k ≤ q.length ∧ i = .int .i64 k ∧ Ext ((w.alloc (Obj.cells #[.slice A m.length c, .slice B q.length d, .int .i64 left, .bool down] 46)).alloc (Obj.cells #[.slice A' m.length c', .slice B' q.length d', .int .i64 left, .bool down] 46)) wr) (fun i _ => q.length - (intOf i).toNat)
  case atStart => exact ⟨0, Nat.zero_le _, rfl, hd1.ext⟩
  case round =>
    obtain ⟨k, hk, rfl, hx3⟩ := hrel
    obtain ⟨b0, b1, b2, b3, e0, e1, e2, e3, bs, hX3⟩ := box4b hx3
    by_cases hlt : k < q.length
    · obtain ⟨ad, x, rfl, hat, g0, g1, g2⟩ := (hB.ext hX3).d_at hlt
      obtain ⟨ad', x', rfl, hat', g0', g1', g2'⟩ := (hB'.ext hX3).d_at hlt
      rw [hat] at hat'
      injection hat' with hat'
      subst hat'
      have hself := neD_self x
      have i1 : (0 : Int) ≤ k := by omega
      have i2 : (k : Int) < q.length := by omega
      clear hat
      go_wp2_with fail
      go_quiet (fail)
      go_wp2_with fail
      go_roundw
      case rel => exact ⟨k + 1, by omega, by go_num, hx3.drewN _⟩
      case measure => simp [intOf]; omega
    · obtain rfl : k = q.length := by omega
      go_wp2_with fail
      go_ret
      exact ⟨rfl, hX3⟩
end Go.Proofs.Ytmkcpnklaijkfaa
/-
  A device in a variable: a block of four cells.
-/
namespace Go.Proofs.Ytmkcpnklaijkfaa
open Go.RowKit
theorem cell_other {w : World} {p q : Addr} {u : Value} (h : p ≠ q) : (w.setCell p u).cell? q = w.cell? q := by
  rw [World.cell?_setCell_other]
  exact h
theorem cell_same {w : World} {p : Addr} {u v : Value} (h : w.cell? p = some v) : (w.setCell p u).cell? p = some u := by
  rw [World.cell?_setCell_same']
  simp [h]
/-- Block b holds the four cells of a device. -/
structure Box4 (w : World) (b : Nat) (v0 v1 v2 v3 : Value) : Prop where
  c0 : w.cell? ⟨b, 0, none⟩ = some v0
  c1 : w.cell? ⟨b, 1, none⟩ = some v1
  c2 : w.cell? ⟨b, 2, none⟩ = some v2
  c3 : w.cell? ⟨b, 3, none⟩ = some v3
  fz : ∀ o, w.frozen? ⟨b, o, none⟩ = false
  lt : b < w.heap.size
theorem Box4.ext {w w' : World} {b : Nat} {v0 v1 v2 v3 : Value} (h : Box4 w b v0 v1 v2 v3) (x : Ext w w') : Box4 w' b v0 v1 v2 v3 :=
  ⟨x.cell h.c0, x.cell h.c1, x.cell h.c2, x.cell h.c3, fun o => by rw [x.bcell.2 b o h.lt]; exact h.fz o, Nat.lt_of_lt_of_le h.lt x.size⟩
theorem Box4.new (w : World) (v0 v1 v2 v3 : Value) (T : TypeId) : Box4 (w.alloc (Obj.cells #[v0, v1, v2, v3] T)) w.heap.size v0 v1 v2 v3 :=
  ⟨by simp [go_sem], by simp [go_sem], by simp [go_sem], by simp [go_sem], fun o => by simp [go_sem], by simp⟩
theorem Box4.new' (w : World) (g : Nat) (hg : g = w.heap.size) (v0 v1 v2 v3 : Value) (T : TypeId) : Box4 (w.alloc (Obj.cells #[v0, v1, v2, v3] T)) g v0 v1 v2 v3 := by
  subst hg
  exact Box4.new w v0 v1 v2 v3 T
theorem Box4.alloc {w : World} {b : Nat} {v0 v1 v2 v3 : Value} (h : Box4 w b v0 v1 v2 v3) (o : Obj) : Box4 (w.alloc o) b v0 v1 v2 v3 := h.ext ((Ext.refl w).alloc o)
theorem Box4.far {w : World} {b : Nat} {v0 v1 v2 v3 : Value} (h : Box4 w b v0 v1 v2 v3) {p : Addr} (hp : p.block ≠ b) (u : Value) : Box4 (w.setCell p u) b v0 v1 v2 v3 := by
  have hne : ∀ o, p ≠ ⟨b, o, none⟩ := fun o e => hp (by rw [e])
  exact ⟨by rw [cell_other (hne 0)]; exact h.c0, by rw [cell_other (hne 1)]; exact h.c1, by rw [cell_other (hne 2)]; exact h.c2, by rw [cell_other (hne 3)]; exact h.c3, fun o => by rw [World.frozen?_setCell]; exact h.fz o, by simpa using h.lt⟩
section
variable {w : World} {b : Nat} {v0 v1 v2 v3 : Value}
theorem Box4.set0 (h : Box4 w b v0 v1 v2 v3) (u : Value) : Box4 (w.setCell ⟨b, 0, none⟩ u) b u v1 v2 v3 :=
  ⟨cell_same h.c0, by rw [cell_other (by simp)]; exact h.c1, by rw [cell_other (by simp)]; exact h.c2, by rw [cell_other (by simp)]; exact h.c3, fun o => by rw [World.frozen?_setCell]; exact h.fz o, by simpa using h.lt⟩
theorem Box4.set1 (h : Box4 w b v0 v1 v2 v3) (u : Value) : Box4 (w.setCell ⟨b, 1, none⟩ u) b v0 u v2 v3 :=
  ⟨by rw [cell_other (by simp)]; exact h.c0, cell_same h.c1, by rw [cell_other (by simp)]; exact h.c2, by rw [cell_other (by simp)]; exact h.c3, fun o => by rw [World.frozen?_setCell]; exact h.fz o, by simpa using h.lt⟩
theorem Box4.set2 (h : Box4 w b v0 v1 v2 v3) (u : Value) : Box4 (w.setCell ⟨b, 2, none⟩ u) b v0 v1 u v3 :=
  ⟨by rw [cell_other (by simp)]; exact h.c0, by rw [cell_other (by simp)]; exact h.c1, cell_same h.c2, by rw [cell_other (by simp)]; exact h.c3, fun o => by rw [World.frozen?_setCell]; exact h.fz o, by simpa using h.lt⟩
theorem Box4.set3 (h : Box4 w b v0 v1 v2 v3) (u : Value) : Box4 (w.setCell ⟨b, 3, none⟩ u) b v0 v1 v2 u :=
  ⟨by rw [cell_other (by simp)]; exact h.c0, by rw [cell_other (by simp)]; exact h.c1, by rw [cell_other (by simp)]; exact h.c2, cell_same h.c3, fun o => by rw [World.frozen?_setCell]; exact h.fz o, by simpa using h.lt⟩
theorem Box4.set4 (h : Box4 w b v0 v1 v2 v3) (u0 u1 u2 u3 : Value) : Box4 ((((w.setCell ⟨b, 0, none⟩ u0).setCell ⟨b, 1, none⟩ u1).setCell ⟨b, 2, none⟩ u2).setCell ⟨b, 3, none⟩ u3) b u0 u1 u2 u3 := (((h.set0 u0).set1 u1).set2 u2).set3 u3
theorem Box4.far4 (h : Box4 w b v0 v1 v2 v3) {g : Nat} (hg : g ≠ b) (u0 u1 u2 u3 : Value) : Box4 ((((w.setCell ⟨g, 0, none⟩ u0).setCell ⟨g, 1, none⟩ u1).setCell ⟨g, 2, none⟩ u2).setCell ⟨g, 3, none⟩ u3) b v0 v1 v2 v3 := (((h.far (p := ⟨g, 0, none⟩) hg u0).far (p := ⟨g, 1, none⟩) hg u1).far (p := ⟨g, 2, none⟩) hg u2).far (p := ⟨g, 3, none⟩) hg u3
end
theorem own_sl4 {w : World} {base : Nat} {e : TypeId} {size : Nat} {A : Option Addr} {c n : Nat} {xs : List Value} (h : w.ownsRow base e size (.slice A n c) n xs) : Sl w A n c xs := by
  obtain ⟨A', c', hv, hs⟩ := Sl.of_own h
  injection hv with h1 h2 h3
  subst h1 h3
  exact hs
theorem own_cell {w : World} {base : Nat} {e : TypeId} {size n : Nat} {A : Option Addr} {c : Nat} {xs : List Value} (h : w.ownsRow base e size (.slice A n c) n xs) {b : Nat} (hb : b < base) (o : Nat) (v : Value) : (w.setCell ⟨b, o, none⟩ v).ownsRow base e size (.slice A n c) n xs := by
  have hg : w.grownBy (w.setCell ⟨b, o, none⟩ v) (some b) := ⟨rfl, rfl, rfl, by simp, fun k _ hk => heap_setCell_other w ⟨b, o, none⟩ k v (fun e => hk (by simp [e]))⟩
  refine h.kept hg ?_
  cases A with
  | none => exact .inl rfl
  | some ad =>
    refine .inr ?_
    have := own_far h hb ad rfl
    simp only [Value.ownBlock, ne_eq, Option.some.injEq]
    exact this
theorem own_set4 {w : World} {base : Nat} {e : TypeId} {size n : Nat} {A : Option Addr} {c : Nat} {xs : List Value} (h : w.ownsRow base e size (.slice A n c) n xs) {b : Nat} (hb : b < base) (v0 v1 v2 v3 : Value) :
    ((((w.setCell ⟨b, 0, none⟩ v0).setCell ⟨b, 1, none⟩ v1).setCell ⟨b, 2, none⟩ v2).setCell ⟨b, 3, none⟩ v3).ownsRow base e size (.slice A n c) n xs :=
  own_cell (own_cell (own_cell (own_cell h hb 0 v0) hb 1 v1) hb 2 v2) hb 3 v3
end Go.Proofs.Ytmkcpnklaijkfaa
/-
  The contracts of the copies of devices, and of beginning an operation.
-/
namespace Go.Proofs.Ytmkcpnklaijkfaa
open Go.RowKit
/-- The call returned a device of its own. -/
def RetT (w0 : World) (D : Dev4) (en : Ending) (w' : World) : Prop :=
  ∃ A c B k, en = .returned (.agg #[.slice A D.1.length c, .slice B D.2.1.length k, .int .i64 D.2.2.1, .bool D.2.2.2]) ∧ w'.ownsRow w0.heap.size 24 1 (.slice A D.1.length c) D.1.length (fU D.1) ∧ w'.ownsRow w0.heap.size 88 3 (.slice B D.2.1.length k) D.2.1.length (fD D.2.1) ∧ Ext w0 w'
/-- The call returned a device of its own and a bool. -/
def RetTb (w0 : World) (D : Dev4) (b : Bool) (en : Ending) (w' : World) : Prop :=
  ∃ A c B k, en = .returned (.tuple #[.agg #[.slice A D.1.length c, .slice B D.2.1.length k, .int .i64 D.2.2.1, .bool D.2.2.2], .bool b]) ∧ w'.ownsRow w0.heap.size 24 1 (.slice A D.1.length c) D.1.length (fU D.1) ∧ w'.ownsRow w0.heap.size 88 3 (.slice B D.2.1.length k) D.2.1.length (fD D.2.1) ∧ Ext w0 w'
set_option maxHeartbeats 1600000 in
theorem dTwin_any (m : List Int) (q : List Dw) (left : Int) (down : Bool) (A : Option Addr) (c : Nat) (B : Option Addr) (d : Nat) (w : World) (hA : Sl w A m.length c (fU m)) (hB : Sl w B q.length d (fD q)) (hm : m.length ≤ 100000) (hq : q.length ≤ 100000) :
    Calls Try.prog 130 #[.agg #[.slice A m.length c, .slice B q.length d, .int .i64 left, .bool down]] w (RetT w (m, q, left, down)) := by
  have hbx : Box4 ((w.alloc (Obj.cells #[.slice A m.length c, .slice B q.length d, .int .i64 left, .bool down] 46)).alloc (Obj.cells #[.slice none 0 0, .slice none 0 0, .int .i64 0, .bool false] 46)) w.heap.size (.slice A m.length c) (.slice B q.length d) (.int .i64 left) (.bool down) := (Box4.new w _ _ _ _ _).alloc _
  have hrx : Box4 ((w.alloc (Obj.cells #[.slice A m.length c, .slice B q.length d, .int .i64 left, .bool down] 46)).alloc (Obj.cells #[.slice none 0 0, .slice none 0 0, .int .i64 0, .bool false] 46)) (w.heap.size + 1) (.slice none 0 0) (.slice none 0 0) (.int .i64 0) (.bool false) := Box4.new' _ _ (by simp) _ _ _ _ _
  go_enter Try.func130, Try.ntmps130
  go_wp2_with fail
  refine (cloneU_any m A c _ ((hA.alloc _).alloc _) hm).mono ?_
  rintro e w1 ⟨A1, c1, rfl, hown1, hA1, hx1⟩
  replace hbx := hbx.ext hx1
  replace hrx := hrx.ext hx1
  have hX1 : Ext w w1 := Ext.trans (((Ext.refl w).alloc _).alloc _) hx1
  obtain ⟨b0, b1, b2, b3, bf, bl⟩ := hbx
  go_wp2_with fail
  replace hbx := Box4.set0 (Box4.mk b0 b1 b2 b3 bf bl) (.slice A1 m.length c1)
  replace hrx := hrx.far (p := ⟨w.heap.size, 0, none⟩) (by simp) (.slice A1 m.length c1)
  have hX2 : Ext w (w1.setCell ⟨w.heap.size, 0, none⟩ (.slice A1 m.length c1)) := hX1.setCell (Nat.le_refl _) _
  have hown2 := own_cell (b := w.heap.size) hown1 (by simp; omega) 0 (.slice A1 m.length c1)
  clear b0 b1 b2 b3 bf bl hown1 hA1 hx1 hX1
  refine (cloneD_any q B d _ (hB.ext hX2) hq).mono ?_
  rintro e w2 ⟨B2, d2, rfl, hown3, hB2, hx2⟩
  have hsz3 := hrx.lt
  replace hbx := hbx.ext hx2
  replace hrx := hrx.ext hx2
  have hX3 := hX2.trans hx2
  replace hown2 := own_ext hown2 hx2
  obtain ⟨b0, b1, b2, b3, bf, bl⟩ := hbx
  obtain ⟨r0, r1, r2, r3, rf, rl⟩ := hrx
  go_wp2_with fail
  refine bodyPost_ret (v := .agg #[.slice A1 m.length c1, .slice B2 q.length d2, .int .i64 left, .bool down]) (by simp [results, Try.results130, go_sem, r0, r1, r2, r3]) rfl ?_
  refine ⟨_, _, _, _, rfl, own_base (own_set4 (own_cell (b := w.heap.size) hown2 (by simp; omega) 1 (.slice B2 q.length d2)) (b := w.heap.size + 1) (by simp) _ _ _ _) (by simp; omega), own_base (own_set4 (own_cell (b := w.heap.size) hown3 (by omega) 1 (.slice B2 q.length d2)) (b := w.heap.size + 1) hsz3 _ _ _ _) (by omega), set4_ext (hX3.setCell (p := ⟨w.heap.size, 1, none⟩) (Nat.le_refl _) _) (Nat.le_succ _) _ _ _ _⟩
/-- A device on which an operation begins. -/
def spD (m : List Int) (q : List Dw) (left : Int) (down : Bool) : Dev4 := if left = 0 then (m, q, 0, true) else (m, q, spL left, down)
theorem spD_0 (m : List Int) (q : List Dw) (down : Bool) : spD m q 0 down = (m, q, 0, true) := by simp [spD]
theorem spD_p {left : Int} (h : 0 < left) (m : List Int) (q : List Dw) (down : Bool) : spD m q left down = (m, q, left - 1, down) := by
  have : left ≠ 0 := by omega
  simp [spD, spL, this, h]
theorem spD_n {left : Int} (h : left < 0) (m : List Int) (q : List Dw) (down : Bool) : spD m q left down = (m, q, left, down) := by
  have h1 : left ≠ 0 := by omega
  have h2 : ¬ 0 < left := by omega
  simp [spD, spL, h1, h2]
set_option maxHeartbeats 1600000 in
theorem dSpend_0 (m : List Int) (q : List Dw)  (down : Bool) (A : Option Addr) (c : Nat) (B : Option Addr) (d : Nat) (w : World) (hA : Sl w A m.length c (fU m)) (hB : Sl w B q.length d (fD q)) (hm : m.length ≤ 100000) (hq : q.length ≤ 100000)  :
    Calls Try.prog 116 #[.agg #[.slice A m.length c, .slice B q.length d, .int .i64 0, .bool down]] w (RetTb w (m, q, 0, true) false) := by
  have hbx : Box4 ((w.alloc (Obj.cells #[.slice A m.length c, .slice B q.length d, .int .i64 0, .bool down] 46)).alloc (Obj.cells #[.slice none 0 0, .slice none 0 0, .int .i64 0, .bool false] 46)) w.heap.size (.slice A m.length c) (.slice B q.length d) (.int .i64 0) (.bool down) := (Box4.new w _ _ _ _ _).alloc _
  have hrx : Box4 ((w.alloc (Obj.cells #[.slice A m.length c, .slice B q.length d, .int .i64 0, .bool down] 46)).alloc (Obj.cells #[.slice none 0 0, .slice none 0 0, .int .i64 0, .bool false] 46)) (w.heap.size + 1) (.slice none 0 0) (.slice none 0 0) (.int .i64 0) (.bool false) := Box4.new' _ _ (by simp) _ _ _ _ _
  skip
  go_enter Try.func116, Try.ntmps116
  go_wp2_with fail
  refine (dTwin_any m q 0 down A c B d _ ((hA.alloc _).alloc _) ((hB.alloc _).alloc _) hm hq).mono ?_
  rintro e w1 ⟨A1, c1, B1, d1, rfl, hown1, hown2, hx1⟩
  have hX1 : Ext w w1 := Ext.trans (((Ext.refl w).alloc _).alloc _) hx1
  replace hbx := hbx.ext hx1
  replace hrx := hrx.ext hx1
  obtain ⟨b0, b1, b2, b3, bf, bl⟩ := hbx
  go_upto_region 2 with fail
  obtain ⟨W2, hW2⟩ : ∃ W2, W2 = ((((w1.setCell ⟨w.heap.size, 0, none⟩ (.slice A1 m.length c1)).setCell ⟨w.heap.size, 1, none⟩ (.slice B1 q.length d1)).setCell ⟨w.heap.size, 2, none⟩ (.int .i64 0)).setCell ⟨w.heap.size, 3, none⟩ (.bool down)) := ⟨_, rfl⟩
  rw [← hW2]
  replace hbx := Box4.set4 (Box4.mk b0 b1 b2 b3 bf bl) (.slice A1 m.length c1) (.slice B1 q.length d1) (.int .i64 0) (.bool down)
  replace hrx := Box4.far4 hrx (g := w.heap.size) (by omega) (.slice A1 m.length c1) (.slice B1 q.length d1) (.int .i64 0) (.bool down)
  have hX2 := set4_ext hX1 (b := w.heap.size) (Nat.le_refl _) (.slice A1 m.length c1) (.slice B1 q.length d1) (.int .i64 0) (.bool down)
  replace hown1 := own_set4 (b := w.heap.size) hown1 (by simp; omega) (.slice A1 m.length c1) (.slice B1 q.length d1) (.int .i64 0) (.bool down)
  replace hown2 := own_set4 (b := w.heap.size) hown2 (by simp; omega) (.slice A1 m.length c1) (.slice B1 q.length d1) (.int .i64 0) (.bool down)
  rw [← hW2] at hbx hrx hX2 hown1 hown2
  clear b0 b1 b2 b3 bf bl hW2 hX1 hx1
  obtain ⟨b0, b1, b2, b3, bf, bl⟩ := hbx
  obtain ⟨r0, r1, r2, r3, rf, rl⟩ := hrx
  go_wp2_with fail
  refine bodyPost_ret (v := .tuple #[.agg #[.slice A1 m.length c1, .slice B1 q.length d1, .int .i64 0, .bool true], .bool false]) (by simp [results, Try.results116, go_sem, r0, r1, r2, r3]) rfl ?_
  refine ⟨_, _, _, _, rfl, own_base (own_set4 (own_cell (b := w.heap.size) hown1 (by simp; omega) 3 _) (b := w.heap.size + 1) (by simp) _ _ _ _) (by simp; omega), own_base (own_set4 (own_cell (b := w.heap.size) hown2 (by simp; omega) 3 _) (b := w.heap.size + 1) (by simp) _ _ _ _) (by simp; omega), set4_ext (Ext.setCell hX2 (p := ⟨w.heap.size, 3, none⟩) (Nat.le_refl _) _) (Nat.le_succ _) _ _ _ _⟩
set_option maxHeartbeats 1600000 in
theorem dSpend_1 (m : List Int) (q : List Dw) (left : Int) (down : Bool) (A : Option Addr) (c : Nat) (B : Option Addr) (d : Nat) (w : World) (hA : Sl w A m.length c (fU m)) (hB : Sl w B q.length d (fD q)) (hm : m.length ≤ 100000) (hq : q.length ≤ 100000) (hl : 0 < left) (hl2 : left ≤ 1000000) :
    Calls Try.prog 116 #[.agg #[.slice A m.length c, .slice B q.length d, .int .i64 left, .bool down]] w (RetTb w (m, q, left - 1, down) true) := by
  have hbx : Box4 ((w.alloc (Obj.cells #[.slice A m.length c, .slice B q.length d, .int .i64 left, .bool down] 46)).alloc (Obj.cells #[.slice none 0 0, .slice none 0 0, .int .i64 0, .bool false] 46)) w.heap.size (.slice A m.length c) (.slice B q.length d) (.int .i64 left) (.bool down) := (Box4.new w _ _ _ _ _).alloc _
  have hrx : Box4 ((w.alloc (Obj.cells #[.slice A m.length c, .slice B q.length d, .int .i64 left, .bool down] 46)).alloc (Obj.cells #[.slice none 0 0, .slice none 0 0, .int .i64 0, .bool false] 46)) (w.heap.size + 1) (.slice none 0 0) (.slice none 0 0) (.int .i64 0) (.bool false) := Box4.new' _ _ (by simp) _ _ _ _ _
  have hl0 : (left == 0) = false := beq_eq_false_iff_ne.2 (by omega)
  go_enter Try.func116, Try.ntmps116
  go_wp2_with fail
  refine (dTwin_any m q left down A c B d _ ((hA.alloc _).alloc _) ((hB.alloc _).alloc _) hm hq).mono ?_
  rintro e w1 ⟨A1, c1, B1, d1, rfl, hown1, hown2, hx1⟩
  have hX1 : Ext w w1 := Ext.trans (((Ext.refl w).alloc _).alloc _) hx1
  replace hbx := hbx.ext hx1
  replace hrx := hrx.ext hx1
  obtain ⟨b0, b1, b2, b3, bf, bl⟩ := hbx
  go_upto_region 2 with fail
  obtain ⟨W2, hW2⟩ : ∃ W2, W2 = ((((w1.setCell ⟨w.heap.size, 0, none⟩ (.slice A1 m.length c1)).setCell ⟨w.heap.size, 1, none⟩ (.slice B1 q.length d1)).setCell ⟨w.heap.size, 2, none⟩ (.int .i64 left)).setCell ⟨w.heap.size, 3, none⟩ (.bool down)) := ⟨_, rfl⟩
  rw [← hW2]
  replace hbx := Box4.set4 (Box4.mk b0 b1 b2 b3 bf bl) (.slice A1 m.length c1) (.slice B1 q.length d1) (.int .i64 left) (.bool down)
  replace hrx := Box4.far4 hrx (g := w.heap.size) (by omega) (.slice A1 m.length c1) (.slice B1 q.length d1) (.int .i64 left) (.bool down)
  have hX2 := set4_ext hX1 (b := w.heap.size) (Nat.le_refl _) (.slice A1 m.length c1) (.slice B1 q.length d1) (.int .i64 left) (.bool down)
  replace hown1 := own_set4 (b := w.heap.size) hown1 (by simp; omega) (.slice A1 m.length c1) (.slice B1 q.length d1) (.int .i64 left) (.bool down)
  replace hown2 := own_set4 (b := w.heap.size) hown2 (by simp; omega) (.slice A1 m.length c1) (.slice B1 q.length d1) (.int .i64 left) (.bool down)
  rw [← hW2] at hbx hrx hX2 hown1 hown2
  clear b0 b1 b2 b3 bf bl hW2 hX1 hx1
  obtain ⟨b0, b1, b2, b3, bf, bl⟩ := hbx
  obtain ⟨r0, r1, r2, r3, rf, rl⟩ := hrx
  go_wp2_with fail
  refine bodyPost_ret (v := .tuple #[.agg #[.slice A1 m.length c1, .slice B1 q.length d1, .int .i64 (left - 1), .bool down], .bool true]) (by simp [results, Try.results116, go_sem, r0, r1, r2, r3]) rfl ?_
  refine ⟨_, _, _, _, rfl, own_base (own_set4 (own_cell (b := w.heap.size) hown1 (by simp; omega) 2 _) (b := w.heap.size + 1) (by simp) _ _ _ _) (by simp; omega), own_base (own_set4 (own_cell (b := w.heap.size) hown2 (by simp; omega) 2 _) (b := w.heap.size + 1) (by simp) _ _ _ _) (by simp; omega), set4_ext (Ext.setCell hX2 (p := ⟨w.heap.size, 2, none⟩) (Nat.le_refl _) _) (Nat.le_succ _) _ _ _ _⟩
set_option maxHeartbeats 1600000 in
theorem dSpend_2 (m : List Int) (q : List Dw) (left : Int) (down : Bool) (A : Option Addr) (c : Nat) (B : Option Addr) (d : Nat) (w : World) (hA : Sl w A m.length c (fU m)) (hB : Sl w B q.length d (fD q)) (hm : m.length ≤ 100000) (hq : q.length ≤ 100000) (hl : left < 0) :
    Calls Try.prog 116 #[.agg #[.slice A m.length c, .slice B q.length d, .int .i64 left, .bool down]] w (RetTb w (m, q, left, down) true) := by
  have hbx : Box4 ((w.alloc (Obj.cells #[.slice A m.length c, .slice B q.length d, .int .i64 left, .bool down] 46)).alloc (Obj.cells #[.slice none 0 0, .slice none 0 0, .int .i64 0, .bool false] 46)) w.heap.size (.slice A m.length c) (.slice B q.length d) (.int .i64 left) (.bool down) := (Box4.new w _ _ _ _ _).alloc _
  have hrx : Box4 ((w.alloc (Obj.cells #[.slice A m.length c, .slice B q.length d, .int .i64 left, .bool down] 46)).alloc (Obj.cells #[.slice none 0 0, .slice none 0 0, .int .i64 0, .bool false] 46)) (w.heap.size + 1) (.slice none 0 0) (.slice none 0 0) (.int .i64 0) (.bool false) := Box4.new' _ _ (by simp) _ _ _ _ _
  have hl0 : (left == 0) = false := beq_eq_false_iff_ne.2 (by omega)
  go_enter Try.func116, Try.ntmps116
  go_wp2_with fail
  refine (dTwin_any m q left down A c B d _ ((hA.alloc _).alloc _) ((hB.alloc _).alloc _) hm hq).mono ?_
  rintro e w1 ⟨A1, c1, B1, d1, rfl, hown1, hown2, hx1⟩
  have hX1 : Ext w w1 := Ext.trans (((Ext.refl w).alloc _).alloc _) hx1
  replace hbx := hbx.ext hx1
  replace hrx := hrx.ext hx1
  obtain ⟨b0, b1, b2, b3, bf, bl⟩ := hbx
  go_upto_region 2 with fail
  obtain ⟨W2, hW2⟩ : ∃ W2, W2 = ((((w1.setCell ⟨w.heap.size, 0, none⟩ (.slice A1 m.length c1)).setCell ⟨w.heap.size, 1, none⟩ (.slice B1 q.length d1)).setCell ⟨w.heap.size, 2, none⟩ (.int .i64 left)).setCell ⟨w.heap.size, 3, none⟩ (.bool down)) := ⟨_, rfl⟩
  rw [← hW2]
  replace hbx := Box4.set4 (Box4.mk b0 b1 b2 b3 bf bl) (.slice A1 m.length c1) (.slice B1 q.length d1) (.int .i64 left) (.bool down)
  replace hrx := Box4.far4 hrx (g := w.heap.size) (by omega) (.slice A1 m.length c1) (.slice B1 q.length d1) (.int .i64 left) (.bool down)
  have hX2 := set4_ext hX1 (b := w.heap.size) (Nat.le_refl _) (.slice A1 m.length c1) (.slice B1 q.length d1) (.int .i64 left) (.bool down)
  replace hown1 := own_set4 (b := w.heap.size) hown1 (by simp; omega) (.slice A1 m.length c1) (.slice B1 q.length d1) (.int .i64 left) (.bool down)
  replace hown2 := own_set4 (b := w.heap.size) hown2 (by simp; omega) (.slice A1 m.length c1) (.slice B1 q.length d1) (.int .i64 left) (.bool down)
  rw [← hW2] at hbx hrx hX2 hown1 hown2
  clear b0 b1 b2 b3 bf bl hW2 hX1 hx1
  obtain ⟨b0, b1, b2, b3, bf, bl⟩ := hbx
  obtain ⟨r0, r1, r2, r3, rf, rl⟩ := hrx
  go_wp2_with fail
  refine bodyPost_ret (v := .tuple #[.agg #[.slice A1 m.length c1, .slice B1 q.length d1, .int .i64 left, .bool down], .bool true]) (by simp [results, Try.results116, go_sem, r0, r1, r2, r3]) rfl ?_
  refine ⟨_, _, _, _, rfl, own_base (own_set4  hown1  (b := w.heap.size + 1) (by simp) _ _ _ _) (by simp; omega), own_base (own_set4  hown2  (b := w.heap.size + 1) (by simp) _ _ _ _) (by simp; omega), set4_ext  hX2  (Nat.le_succ _) _ _ _ _⟩
theorem dSpend_any (m : List Int) (q : List Dw) (left : Int) (down : Bool) (A : Option Addr) (c : Nat) (B : Option Addr) (d : Nat) (w : World) (hA : Sl w A m.length c (fU m)) (hB : Sl w B q.length d (fD q)) (hm : m.length ≤ 100000) (hq : q.length ≤ 100000) (hl : left ≤ 1000000) :
    Calls Try.prog 116 #[.agg #[.slice A m.length c, .slice B q.length d, .int .i64 left, .bool down]] w (RetTb w (spD m q left down) (decide (left ≠ 0))) := by
  by_cases h0 : left = 0
  · subst h0
    rw [spD_0]
    exact dSpend_0 m q down A c B d w hA hB hm hq
  · rw [decide_eq_true h0]
    by_cases h1 : 0 < left
    · rw [spD_p h1]
      exact dSpend_1 m q left down A c B d w hA hB hm hq h1 hl
    · rw [spD_n (by omega)]
      exact dSpend_2 m q left down A c B d w hA hB hm hq (by omega)
end Go.Proofs.Ytmkcpnklaijkfaa
/-
  The contracts of the reference's copies of devices, and of beginning an operation.
-/
namespace Go.Proofs.Ytmkcpnklaijkfaa
open Go.RowKit
theorem own_ne_hi {w : World} {base : Nat} {e : TypeId} {size n : Nat} {A : Option Addr} {c b : Nat} {xs : List Value} (h : w.ownsRow base e size (.slice A n c) n xs) (hb : w.heap.size ≤ b) : ∀ ad, A = some ad → ad.block ≠ b := by
  rintro ad rfl
  have := (h.lt ad.block rfl).2
  omega
theorem own_cellF {w : World} {base : Nat} {e : TypeId} {size n : Nat} {A : Option Addr} {c : Nat} {xs : List Value} (h : w.ownsRow base e size (.slice A n c) n xs) {b : Nat} (hb : ∀ ad, A = some ad → ad.block ≠ b) (o : Nat) (v : Value) : (w.setCell ⟨b, o, none⟩ v).ownsRow base e size (.slice A n c) n xs := by
  have hg : w.grownBy (w.setCell ⟨b, o, none⟩ v) (some b) := ⟨rfl, rfl, rfl, by simp, fun k _ hk => heap_setCell_other w ⟨b, o, none⟩ k v (fun e => hk (by simp [e]))⟩
  refine h.kept hg ?_
  cases A with
  | none => exact .inl rfl
  | some ad =>
    refine .inr ?_
    have := hb ad rfl
    simp only [Value.ownBlock, ne_eq, Option.some.injEq]
    exact this
set_option maxHeartbeats 1600000 in
theorem dRTwin_any (m : List Int) (q : List Dw) (left : Int) (down : Bool) (A : Option Addr) (c : Nat) (B : Option Addr) (d : Nat) (w : World) (hA : Sl w A m.length c (fU m)) (hB : Sl w B q.length d (fD q)) (hm : m.length ≤ 100000) (hq : q.length ≤ 100000) :
    Calls Try.prog 49 #[.agg #[.slice A m.length c, .slice B q.length d, .int .i64 left, .bool down]] w (RetT w (m, q, left, down)) := by
  have hbx : Box4 ((w.alloc (Obj.cells #[.slice A m.length c, .slice B q.length d, .int .i64 left, .bool down] 46)).alloc (Obj.cells #[.slice none 0 0, .slice none 0 0, .int .i64 0, .bool false] 46)) w.heap.size (.slice A m.length c) (.slice B q.length d) (.int .i64 left) (.bool down) := (Box4.new w _ _ _ _ _).alloc _
  have hrx : Box4 ((w.alloc (Obj.cells #[.slice A m.length c, .slice B q.length d, .int .i64 left, .bool down] 46)).alloc (Obj.cells #[.slice none 0 0, .slice none 0 0, .int .i64 0, .bool false] 46)) (w.heap.size + 1) (.slice none 0 0) (.slice none 0 0) (.int .i64 0) (.bool false) := Box4.new' _ _ (by simp) _ _ _ _ _
  go_enter Try.func49, Try.ntmps49
  go_wp2_with fail
  refine (twin2_any m A c _ ((hA.alloc _).alloc _) hm).mono ?_
  rintro e w1 ⟨A1, c1, rfl, hown1, hA1, hx1⟩
  replace hbx := hbx.ext hx1
  replace hrx := hrx.ext hx1
  have hX1 : Ext w w1 := Ext.trans (((Ext.refl w).alloc _).alloc _) hx1
  obtain ⟨b0, b1, b2, b3, bf, bl⟩ := hbx
  go_upto_region 2 with fail
  obtain ⟨W2, hW2⟩ : ∃ W2, W2 = w1.setCell ⟨w.heap.size, 0, none⟩ (.slice A1 m.length c1) := ⟨_, rfl⟩
  rw [← hW2]
  replace hbx := Box4.set0 (Box4.mk b0 b1 b2 b3 bf bl) (.slice A1 m.length c1)
  replace hrx := hrx.far (p := ⟨w.heap.size, 0, none⟩) (by simp) (.slice A1 m.length c1)
  have hX2 : Ext w (w1.setCell ⟨w.heap.size, 0, none⟩ (.slice A1 m.length c1)) := hX1.setCell (Nat.le_refl _) _
  have hown2 := own_cell (b := w.heap.size) hown1 (by simp; omega) 0 (.slice A1 m.length c1)
  rw [← hW2] at hbx hrx hX2 hown2
  clear b0 b1 b2 b3 bf bl hown1 hA1 hx1 hX1 hW2
  have hsz := hrx.lt
  obtain ⟨b0, b1, b2, b3, bf, bl⟩ := hbx
  obtain ⟨r0, r1, r2, r3, rf, rl⟩ := hrx
  go_wp2_with (at_builtin; refine wpList_app ED rfl (.tmp 7) (.tmp 9) rfl rfl (own_lit (w := W2) (base := W2.heap.size) (e := 88) (size := 3) #[] _ 0 (by simp) (Nat.le_refl _) (by decide) rfl) rfl ((hB.ext hX2).alloc _) (fD_length q) (fD_one q) (by omega) (by simp) ?_; intro v' w2 hown' hbel hat hgr; have hown3 : w2.ownsRow W2.heap.size 88 3 v' q.length (fD q) := (by simpa using hown'); obtain ⟨B2, d2, hv, hB2⟩ := Sl.of_own hown3; subst hv; clear hown' hat hgr; have hx2 : Ext W2 w2 := Below.trans ((Ext.refl W2).alloc _) hbel; obtain ⟨b0', b1', b2', b3', bf', bl'⟩ := (Box4.mk b0 b1 b2 b3 bf bl).ext hx2; obtain ⟨r0', r1', r2', r3', rf', rl'⟩ := (Box4.mk r0 r1 r2 r3 rf rl).ext hx2; clear b0 b1 b2 b3 bf bl r0 r1 r2 r3 rf rl)
  have hX3 := hX2.trans hx2
  replace hown2 := own_ext hown2 hx2
  refine bodyPost_ret (v := .agg #[.slice A1 m.length c1, .slice B2 q.length d2, .int .i64 left, .bool down]) (by simp [results, Try.results49, go_sem, r0', r1', r2', r3']) rfl ?_
  refine ⟨_, _, _, _, rfl, own_base (own_set4 (own_cell (b := w.heap.size) hown2 (by simp; omega) 1 (.slice B2 q.length d2)) (b := w.heap.size + 1) (by simp) _ _ _ _) (by simp; omega), own_base (own_set4 (own_cell (b := w.heap.size) hown3 (by omega) 1 (.slice B2 q.length d2)) (b := w.heap.size + 1) hsz _ _ _ _) (by omega), set4_ext (hX3.setCell (p := ⟨w.heap.size, 1, none⟩) (Nat.le_refl _) _) (Nat.le_succ _) _ _ _ _⟩
set_option maxHeartbeats 1600000 in
theorem dRSpent_0 (m : List Int) (q : List Dw)  (down : Bool) (A : Option Addr) (c : Nat) (B : Option Addr) (d : Nat) (w : World) (hA : Sl w A m.length c (fU m)) (hB : Sl w B q.length d (fD q)) (hm : m.length ≤ 100000) (hq : q.length ≤ 100000)  :
    Calls Try.prog 137 #[.agg #[.slice A m.length c, .slice B q.length d, .int .i64 0, .bool down]] w (RetTb w (m, q, 0, true) false) := by
  have hbx : Box4 ((w.alloc (Obj.cells #[.slice A m.length c, .slice B q.length d, .int .i64 0, .bool down] 46)).alloc (Obj.cells #[.slice none 0 0, .slice none 0 0, .int .i64 0, .bool false] 46)) w.heap.size (.slice A m.length c) (.slice B q.length d) (.int .i64 0) (.bool down) := (Box4.new w _ _ _ _ _).alloc _
  have hrx : Box4 ((w.alloc (Obj.cells #[.slice A m.length c, .slice B q.length d, .int .i64 0, .bool down] 46)).alloc (Obj.cells #[.slice none 0 0, .slice none 0 0, .int .i64 0, .bool false] 46)) (w.heap.size + 1) (.slice none 0 0) (.slice none 0 0) (.int .i64 0) (.bool false) := Box4.new' _ _ (by simp) _ _ _ _ _
  skip
  go_enter Try.func137, Try.ntmps137
  go_wp2_with fail
  refine (dRTwin_any m q 0 down A c B d _ ((hA.alloc _).alloc _) ((hB.alloc _).alloc _) hm hq).mono ?_
  rintro e w1 ⟨A1, c1, B1, d1, rfl, hown1, hown2, hx1⟩
  have hX1 : Ext w w1 := Ext.trans (((Ext.refl w).alloc _).alloc _) hx1
  replace hbx := hbx.ext hx1
  replace hrx := hrx.ext hx1
  go_upto_region 2 with fail
  obtain ⟨W2, hW2⟩ : ∃ W2, W2 = w1.alloc (Obj.cells #[.slice A1 m.length c1, .slice B1 q.length d1, .int .i64 0, .bool down] 46) := ⟨_, rfl⟩
  rw [← hW2]
  have hox := Box4.new w1 (.slice A1 m.length c1) (.slice B1 q.length d1) (.int .i64 0) (.bool down) 46
  have hx2 := (Ext.refl w1).alloc (Obj.cells #[.slice A1 m.length c1, .slice B1 q.length d1, .int .i64 0, .bool down] 46)
  have hl1 := hrx.lt
  rw [← hW2] at hox hx2
  replace hbx := hbx.ext hx2
  replace hrx := hrx.ext hx2
  have hX2 := hX1.trans hx2
  have hf1 := own_ne_hi hown1 (Nat.le_refl _)
  have hf2 := own_ne_hi hown2 (Nat.le_refl _)
  replace hown1 := own_ext hown1 hx2
  replace hown2 := own_ext hown2 hx2
  obtain ⟨g, hg⟩ : ∃ g, w1.heap.size = g := ⟨_, rfl⟩
  rw [hg] at hox hl1 hf1 hf2 ⊢
  have hn1 : g ≠ w.heap.size := by omega
  have hn2 : g ≠ w.heap.size + 1 := by omega
  clear hW2 hX1 hx1 hx2 hg
  obtain ⟨b0, b1, b2, b3, bf, bl⟩ := hbx
  obtain ⟨r0, r1, r2, r3, rf, rl⟩ := hrx
  obtain ⟨o0, o1, o2, o3, of, ol⟩ := hox
  go_wp2_with fail
  refine bodyPost_ret (v := .tuple #[.agg #[.slice A1 m.length c1, .slice B1 q.length d1, .int .i64 0, .bool true], .bool false]) (by simp [results, Try.results137, go_sem, r0, r1, r2, r3]) rfl ?_
  refine ⟨_, _, _, _, rfl, own_base (own_set4 (own_cellF hown1 hf1 3 _) (b := w.heap.size + 1) (by simp) _ _ _ _) (by simp; omega), own_base (own_set4 (own_cellF hown2 hf2 3 _) (b := w.heap.size + 1) (by simp) _ _ _ _) (by simp; omega), set4_ext (hX2.setCell (p := ⟨g, 3, none⟩) (by show w.heap.size ≤ g; omega) _) (Nat.le_succ _) _ _ _ _⟩
set_option maxHeartbeats 1600000 in
theorem dRSpent_1 (m : List Int) (q : List Dw) (left : Int) (down : Bool) (A : Option Addr) (c : Nat) (B : Option Addr) (d : Nat) (w : World) (hA : Sl w A m.length c (fU m)) (hB : Sl w B q.length d (fD q)) (hm : m.length ≤ 100000) (hq : q.length ≤ 100000) (hl : 0 < left) (hl2 : left ≤ 1000000) :
    Calls Try.prog 137 #[.agg #[.slice A m.length c, .slice B q.length d, .int .i64 left, .bool down]] w (RetTb w (m, q, left - 1, down) true) := by
  have hbx : Box4 ((w.alloc (Obj.cells #[.slice A m.length c, .slice B q.length d, .int .i64 left, .bool down] 46)).alloc (Obj.cells #[.slice none 0 0, .slice none 0 0, .int .i64 0, .bool false] 46)) w.heap.size (.slice A m.length c) (.slice B q.length d) (.int .i64 left) (.bool down) := (Box4.new w _ _ _ _ _).alloc _
  have hrx : Box4 ((w.alloc (Obj.cells #[.slice A m.length c, .slice B q.length d, .int .i64 left, .bool down] 46)).alloc (Obj.cells #[.slice none 0 0, .slice none 0 0, .int .i64 0, .bool false] 46)) (w.heap.size + 1) (.slice none 0 0) (.slice none 0 0) (.int .i64 0) (.bool false) := Box4.new' _ _ (by simp) _ _ _ _ _
  have hl0 : (left == 0) = false := beq_eq_false_iff_ne.2 (by omega)
  go_enter Try.func137, Try.ntmps137
  go_wp2_with fail
  refine (dRTwin_any m q left down A c B d _ ((hA.alloc _).alloc _) ((hB.alloc _).alloc _) hm hq).mono ?_
  rintro e w1 ⟨A1, c1, B1, d1, rfl, hown1, hown2, hx1⟩
  have hX1 : Ext w w1 := Ext.trans (((Ext.refl w).alloc _).alloc _) hx1
  replace hbx := hbx.ext hx1
  replace hrx := hrx.ext hx1
  go_upto_region 2 with fail
  obtain ⟨W2, hW2⟩ : ∃ W2, W2 = w1.alloc (Obj.cells #[.slice A1 m.length c1, .slice B1 q.length d1, .int .i64 left, .bool down] 46) := ⟨_, rfl⟩
  rw [← hW2]
  have hox := Box4.new w1 (.slice A1 m.length c1) (.slice B1 q.length d1) (.int .i64 left) (.bool down) 46
  have hx2 := (Ext.refl w1).alloc (Obj.cells #[.slice A1 m.length c1, .slice B1 q.length d1, .int .i64 left, .bool down] 46)
  have hl1 := hrx.lt
  rw [← hW2] at hox hx2
  replace hbx := hbx.ext hx2
  replace hrx := hrx.ext hx2
  have hX2 := hX1.trans hx2
  have hf1 := own_ne_hi hown1 (Nat.le_refl _)
  have hf2 := own_ne_hi hown2 (Nat.le_refl _)
  replace hown1 := own_ext hown1 hx2
  replace hown2 := own_ext hown2 hx2
  obtain ⟨g, hg⟩ : ∃ g, w1.heap.size = g := ⟨_, rfl⟩
  rw [hg] at hox hl1 hf1 hf2 ⊢
  have hn1 : g ≠ w.heap.size := by omega
  have hn2 : g ≠ w.heap.size + 1 := by omega
  clear hW2 hX1 hx1 hx2 hg
  obtain ⟨b0, b1, b2, b3, bf, bl⟩ := hbx
  obtain ⟨r0, r1, r2, r3, rf, rl⟩ := hrx
  obtain ⟨o0, o1, o2, o3, of, ol⟩ := hox
  go_wp2_with fail
  refine bodyPost_ret (v := .tuple #[.agg #[.slice A1 m.length c1, .slice B1 q.length d1, .int .i64 (left - 1), .bool down], .bool true]) (by simp [results, Try.results137, go_sem, r0, r1, r2, r3]) rfl ?_
  refine ⟨_, _, _, _, rfl, own_base (own_set4 (own_cellF hown1 hf1 2 _) (b := w.heap.size + 1) (by simp) _ _ _ _) (by simp; omega), own_base (own_set4 (own_cellF hown2 hf2 2 _) (b := w.heap.size + 1) (by simp) _ _ _ _) (by simp; omega), set4_ext (hX2.setCell (p := ⟨g, 2, none⟩) (by show w.heap.size ≤ g; omega) _) (Nat.le_succ _) _ _ _ _⟩
set_option maxHeartbeats 1600000 in
theorem dRSpent_2 (m : List Int) (q : List Dw) (left : Int) (down : Bool) (A : Option Addr) (c : Nat) (B : Option Addr) (d : Nat) (w : World) (hA : Sl w A m.length c (fU m)) (hB : Sl w B q.length d (fD q)) (hm : m.length ≤ 100000) (hq : q.length ≤ 100000) (hl : left < 0) :
    Calls Try.prog 137 #[.agg #[.slice A m.length c, .slice B q.length d, .int .i64 left, .bool down]] w (RetTb w (m, q, left, down) true) := by
  have hbx : Box4 ((w.alloc (Obj.cells #[.slice A m.length c, .slice B q.length d, .int .i64 left, .bool down] 46)).alloc (Obj.cells #[.slice none 0 0, .slice none 0 0, .int .i64 0, .bool false] 46)) w.heap.size (.slice A m.length c) (.slice B q.length d) (.int .i64 left) (.bool down) := (Box4.new w _ _ _ _ _).alloc _
  have hrx : Box4 ((w.alloc (Obj.cells #[.slice A m.length c, .slice B q.length d, .int .i64 left, .bool down] 46)).alloc (Obj.cells #[.slice none 0 0, .slice none 0 0, .int .i64 0, .bool false] 46)) (w.heap.size + 1) (.slice none 0 0) (.slice none 0 0) (.int .i64 0) (.bool false) := Box4.new' _ _ (by simp) _ _ _ _ _
  have hl0 : (left == 0) = false := beq_eq_false_iff_ne.2 (by omega)
  go_enter Try.func137, Try.ntmps137
  go_wp2_with fail
  refine (dRTwin_any m q left down A c B d _ ((hA.alloc _).alloc _) ((hB.alloc _).alloc _) hm hq).mono ?_
  rintro e w1 ⟨A1, c1, B1, d1, rfl, hown1, hown2, hx1⟩
  have hX1 : Ext w w1 := Ext.trans (((Ext.refl w).alloc _).alloc _) hx1
  replace hbx := hbx.ext hx1
  replace hrx := hrx.ext hx1
  go_upto_region 2 with fail
  obtain ⟨W2, hW2⟩ : ∃ W2, W2 = w1.alloc (Obj.cells #[.slice A1 m.length c1, .slice B1 q.length d1, .int .i64 left, .bool down] 46) := ⟨_, rfl⟩
  rw [← hW2]
  have hox := Box4.new w1 (.slice A1 m.length c1) (.slice B1 q.length d1) (.int .i64 left) (.bool down) 46
  have hx2 := (Ext.refl w1).alloc (Obj.cells #[.slice A1 m.length c1, .slice B1 q.length d1, .int .i64 left, .bool down] 46)
  have hl1 := hrx.lt
  rw [← hW2] at hox hx2
  replace hbx := hbx.ext hx2
  replace hrx := hrx.ext hx2
  have hX2 := hX1.trans hx2
  have hf1 := own_ne_hi hown1 (Nat.le_refl _)
  have hf2 := own_ne_hi hown2 (Nat.le_refl _)
  replace hown1 := own_ext hown1 hx2
  replace hown2 := own_ext hown2 hx2
  obtain ⟨g, hg⟩ : ∃ g, w1.heap.size = g := ⟨_, rfl⟩
  rw [hg] at hox hl1 hf1 hf2 ⊢
  have hn1 : g ≠ w.heap.size := by omega
  have hn2 : g ≠ w.heap.size + 1 := by omega
  clear hW2 hX1 hx1 hx2 hg
  obtain ⟨b0, b1, b2, b3, bf, bl⟩ := hbx
  obtain ⟨r0, r1, r2, r3, rf, rl⟩ := hrx
  obtain ⟨o0, o1, o2, o3, of, ol⟩ := hox
  go_wp2_with fail
  refine bodyPost_ret (v := .tuple #[.agg #[.slice A1 m.length c1, .slice B1 q.length d1, .int .i64 left, .bool down], .bool true]) (by simp [results, Try.results137, go_sem, r0, r1, r2, r3]) rfl ?_
  refine ⟨_, _, _, _, rfl, own_base (own_set4 hown1 (b := w.heap.size + 1) (by simp) _ _ _ _) (by simp; omega), own_base (own_set4 hown2 (b := w.heap.size + 1) (by simp) _ _ _ _) (by simp; omega), set4_ext hX2 (Nat.le_succ _) _ _ _ _⟩
theorem dRSpent_any (m : List Int) (q : List Dw) (left : Int) (down : Bool) (A : Option Addr) (c : Nat) (B : Option Addr) (d : Nat) (w : World) (hA : Sl w A m.length c (fU m)) (hB : Sl w B q.length d (fD q)) (hm : m.length ≤ 100000) (hq : q.length ≤ 100000) (hl : left ≤ 1000000) :
    Calls Try.prog 137 #[.agg #[.slice A m.length c, .slice B q.length d, .int .i64 left, .bool down]] w (RetTb w (spD m q left down) (decide (left ≠ 0))) := by
  by_cases h0 : left = 0
  · subst h0
    rw [spD_0]
    exact dRSpent_0 m q down A c B d w hA hB hm hq
  · rw [decide_eq_true h0]
    by_cases h1 : 0 < left
    · rw [spD_p h1]
      exact dRSpent_1 m q left down A c B d w hA hB hm hq h1 hl
    · rw [spD_n (by omega)]
      exact dRSpent_2 m q left down A c B d w hA hB hm hq (by omega)
end Go.Proofs.Ytmkcpnklaijkfaa
/-
  Rows of dirty words of the call's own: reading and storing; what an operation makes of a device.
-/
namespace Go.Proofs.Ytmkcpnklaijkfaa
open Go.RowKit
theorem fD_set2 {q : List Dw} {i : Nat} {x : Dw} (hx : q[i]? = some x) (b : Bool) : (fD q).set (i * 3 + 2) (.bool b) = fD (q.set i (x.1, x.2.1, b)) := by
  induction q generalizing i with
  | nil => simp at hx
  | cons e l ih =>
    cases i with
    | zero => simp at hx; subst hx; simp [fD]
    | succ i =>
      have := ih (i := i) (by simpa using hx)
      rw [show (i + 1) * 3 + 2 = (i * 3 + 2) + 1 + 1 + 1 from by omega]
      simp only [fD, List.set_cons_succ, this]
theorem fD_set3 {q : List Dw} {i : Nat} (hi : i < q.length) (y : Dw) : (((fD q).set (i * 3) (.int .i64 y.1)).set (i * 3 + 1) (.int .u64 y.2.1)).set (i * 3 + 2) (.bool y.2.2) = fD (q.set i y) := by
  induction q generalizing i with
  | nil => simp at hi
  | cons e l ih =>
    cases i with
    | zero => simp [fD]
    | succ i =>
      have := ih (i := i) (by simpa using hi)
      rw [show (i + 1) * 3 = (i * 3) + 1 + 1 + 1 from by omega]
      simp only [fD, List.set_cons_succ]
      rw [this]
theorem own_at_D {w : World} {base : Nat} {e : TypeId} {g n c : Nat} {q : List Dw} (h : w.ownsRow base e 3 (.slice (some ⟨g, 0, none⟩) n c) n (fD q)) {i : Nat} (hi : i < q.length) :
    ∃ x, q[i]? = some x ∧ w.cell? ⟨g, i * 3, none⟩ = some (.int .i64 x.1) ∧ w.cell? ⟨g, i * 3 + 1, none⟩ = some (.int .u64 x.2.1) ∧ w.cell? ⟨g, i * 3 + 2, none⟩ = some (.bool x.2.2) ∧ ∀ o, w.frozen? ⟨g, o, none⟩ = false := by
  have hl := h.1
  rw [fD_length] at hl
  have hx := List.getElem?_eq_getElem hi
  obtain ⟨g0, g1, g2⟩ := fD_get hx
  exact ⟨q[i], hx, by rw [h.cellAt _ (by omega)]; exact g0, by rw [h.cellAt _ (by omega)]; exact g1, by rw [h.cellAt _ (by omega)]; exact g2, h.frozenAt⟩
theorem own_set_D2 {w : World} {base : Nat} {e : TypeId} {g n c : Nat} {q : List Dw} (h : w.ownsRow base e 3 (.slice (some ⟨g, 0, none⟩) n c) n (fD q)) {i : Nat} {x : Dw} (hx : q[i]? = some x) (b : Bool) :
    (w.setCell ⟨g, i * 3 + 2, none⟩ (.bool b)).ownsRow base e 3 (.slice (some ⟨g, 0, none⟩) n c) n (fD (q.set i (x.1, x.2.1, b))) := by
  have := (h.stored (i * 3 + 2) (.bool b)).1
  rwa [fD_set2 hx] at this
theorem own_set_D3 {w : World} {base : Nat} {e : TypeId} {g n c : Nat} {q : List Dw} (h : w.ownsRow base e 3 (.slice (some ⟨g, 0, none⟩) n c) n (fD q)) {i : Nat} (hi : i < q.length) (y : Dw) :
    (((w.setCell ⟨g, i * 3, none⟩ (.int .i64 y.1)).setCell ⟨g, i * 3 + 1, none⟩ (.int .u64 y.2.1)).setCell ⟨g, i * 3 + 2, none⟩ (.bool y.2.2)).ownsRow base e 3 (.slice (some ⟨g, 0, none⟩) n c) n (fD (q.set i y)) := by
  have h1 := (h.stored (i * 3) (.int .i64 y.1)).1
  have h2 := (h1.stored (i * 3 + 1) (.int .u64 y.2.1)).1
  have h3 := (h2.stored (i * 3 + 2) (.bool y.2.2)).1
  rwa [fD_set3 hi] at h3
/-- Two rows of two element types lie in two blocks. -/
theorem own_apart {w : World} {b1 b2 : Nat} {e1 e2 : TypeId} {s1 s2 n1 n2 : Nat} {A : Option Addr} {c1 c2 g : Nat} {xs ys : List Value} (h1 : w.ownsRow b1 e1 s1 (.slice A n1 c1) n1 xs) (h2 : w.ownsRow b2 e2 s2 (.slice (some ⟨g, 0, none⟩) n2 c2) n2 ys) (hne : e1 ≠ e2) : ∀ ad, A = some ad → ad.block ≠ g := by
  rintro ad rfl he
  rcases h1.2 with ⟨hv, _⟩ | ⟨g1, _, cur1, hv1, _, hg1, _⟩
  · cases hv
  · rcases h2.2 with ⟨hv, _⟩ | ⟨g2, _, cur2, hv2, _, hg2, _⟩
    · cases hv
    · injection hv1 with a1 _ _
      injection a1 with a1
      injection hv2 with a2 _ _
      injection a2 with a2
      injection a2 with a2 _ _
      subst a1 a2
      simp only at he
      subst he
      rw [hg1] at hg2
      injection hg2 with hg2
      injection hg2 with _ hg2 _
      exact hne hg2
theorem spD_ne {left : Int} (h : left ≠ 0) (m : List Int) (q : List Dw) (down : Bool) : spD m q left down = (m, q, spL left, down) := by simp [spD, h]
/-- What flushing, storing, fencing make of a device. -/
def flushV (m : List Int) (q : List Dw) (left : Int) (down : Bool) (a : Int) : Dev4 := if askE m q left down a = 0 then (if left = 0 then (m, q, 0, true) else (m, fluD a q, spL left, down)) else zeroV
def storeV (m : List Int) (q : List Dw) (left : Int) (down : Bool) (a v : Int) : Dev4 := if askE m q left down a = 0 then (if left = 0 then (m, q, 0, true) else (m, insD a v q, spL left, down)) else zeroV
def fenceV (m : List Int) (q : List Dw) (left : Int) (down : Bool) : Dev4 := if devE m q left down = 0 then (if left = 0 then (m, q, 0, true) else (fenM m q, fenD q, spL left, down)) else zeroV
theorem flu_at {a : Int} {q : List Dw} {k : Nat} {x : Dw} (h : q[k]? = some x) : (fluD a (q.take k) ++ q.drop k)[k]? = some x := by
  have hk := (List.getElem?_eq_some_iff.1 h).1
  rw [List.getElem?_append_right (by simp [fluD]; omega)]
  simp only [fluD_length, List.length_take, List.getElem?_drop]
  rw [show k + (k - min k q.length) = k from by omega]
  exact h
theorem flu_step {a : Int} {q : List Dw} {k : Nat} {x : Dw} (h : q[k]? = some x) : fluD a (q.take (k + 1)) ++ q.drop (k + 1) = (fluD a (q.take k) ++ q.drop k).set k (if x.1 / 8 = a / 8 then (x.1, x.2.1, true) else x) := by
  obtain ⟨hk, rfl⟩ := List.getElem?_eq_some_iff.1 h
  have hl : (fluD a (q.take k)).length = k := by simp [fluD]; omega
  rw [List.drop_eq_getElem_cons hk, List.set_append_right _ _ (by omega), hl, Nat.sub_self, List.set_cons_zero, List.take_add_one, h]
  simp only [fluD, Option.toList_some, List.map_append, List.map_cons, List.map_nil, List.append_assoc, List.cons_append, List.nil_append]
theorem retV_at {w0 w' : World} {m : List Int} {q : List Dw} {left : Int} {down : Bool} {er : Int} {n k : Nat} {L : Int} {A B : Option Addr} {c d : Nat} (hm : m.length = n) (hq : q.length = k) (hl : left = L) (hA : Sl w' A n c (fU m)) (hB : Sl w' B k d (fD q)) (hx : Ext w0 w') :
    RetV w0 (m, q, left, down) er (.returned (.tuple #[.agg #[.slice A n c, .slice B k d, .int .i64 L, .bool down], .int .i64 er])) w' := by
  subst hm hq hl
  exact ⟨A, c, B, d, rfl, hA, hB, hx⟩
end Go.Proofs.Ytmkcpnklaijkfaa
/-
  The contract of flushing.
-/
namespace Go.Proofs.Ytmkcpnklaijkfaa
open Go.RowKit
theorem set_same {α : Type} {l : List α} {k : Nat} {x : α} (h : l[k]? = some x) : l.set k x = l := by
  obtain ⟨hk, rfl⟩ := List.getElem?_eq_some_iff.1 h
  exact List.set_getElem_self hk
set_option maxHeartbeats 3200000 in
theorem dFlush_any (m : List Int) (q : List Dw) (left : Int) (down : Bool) (a : Int) (A : Option Addr) (c : Nat) (B : Option Addr) (d : Nat) (w : World) (hA : Sl w A m.length c (fU m)) (hB : Sl w B q.length d (fD q)) :
    Calls Try.prog 97 #[.agg #[.slice A m.length c, .slice B q.length d, .int .i64 left, .bool down], .int .i64 a] w (RetV w (flushV m q left down a) (askE m q left down a)) := by
  have hbx : Box4 ((w.alloc (Obj.cells #[.slice A m.length c, .slice B q.length d, .int .i64 left, .bool down] 46)).alloc (Obj.cells #[.slice none 0 0, .slice none 0 0, .int .i64 0, .bool false] 46)) w.heap.size (.slice A m.length c) (.slice B q.length d) (.int .i64 left) (.bool down) := (Box4.new w _ _ _ _ _).alloc _
  have hrx : Box4 ((w.alloc (Obj.cells #[.slice A m.length c, .slice B q.length d, .int .i64 left, .bool down] 46)).alloc (Obj.cells #[.slice none 0 0, .slice none 0 0, .int .i64 0, .bool false] 46)) (w.heap.size + 1) (.slice none 0 0) (.slice none 0 0) (.int .i64 0) (.bool false) := Box4.new' _ _ (by simp) _ _ _ _ _
  by_cases h0 : askE m q left down a = 0
  · obtain ⟨hd, a0, a1⟩ := askE_ok h0
    obtain ⟨k1, k2, k3, k4, hasc⟩ := devB_bd hd
    have hsz := sizeB_bd k1
    have hql := dirty_le hd
    have H0 := Lib.hid (And.intro h0 (And.intro hasc k4))
    have hfl : flushV m q left down a = if left = 0 then (m, q, 0, true) else (m, fluD a q, spL left, down) := by simp [flushV, h0]
    rw [hfl, h0]
    clear hd hasc k1 k4 h0 hfl
    by_cases hl : left = 0
    · subst hl
      rw [if_pos rfl]
      go_enter Try.func97, Try.ntmps97
      go_wp2_with fail
      refine (dAsk_any m q 0 down a A c B d _ ((hB.alloc _).alloc _)).mono ?_
      rintro e w1 ⟨rfl, hx1⟩
      rw [H0.out.1]
      replace hbx := hbx.ext hx1
      replace hrx := hrx.ext hx1
      have hX1 : Ext w w1 := Ext.trans (((Ext.refl w).alloc _).alloc _) hx1
      obtain ⟨b0, b1, b2, b3, bf, bl⟩ := hbx
      go_wp2_with fail
      refine (dSpend_any m q 0 down A c B d w1 (hA.ext hX1) (hB.ext hX1) (by omega) (by omega) (by decide)).mono ?_
      rw [spD_0]
      rintro e w2 ⟨A1, c1, B1, d1, rfl, hown1, hown2, hx2⟩
      rw [show (decide ((0 : Int) ≠ 0)) = false from rfl]
      have hX2 := hX1.trans hx2
      have hf1 := own_far (b := w.heap.size) hown1 bl
      have hf2 := own_far (b := w.heap.size) hown2 bl
      have hg1 := own_far (b := w.heap.size + 1) hown1 hrx.lt
      have hg2 := own_far (b := w.heap.size + 1) hown2 hrx.lt
      replace hbx := (Box4.mk b0 b1 b2 b3 bf bl).ext hx2
      replace hrx := hrx.ext hx2
      clear b0 b1 b2 b3 bf bl
      obtain ⟨b0, b1, b2, b3, bf, bl⟩ := hbx
      go_upto_region 5 with fail
      obtain ⟨W2, hW2⟩ : ∃ W2, W2 = ((((w2.setCell ⟨w.heap.size, 0, none⟩ (.slice A1 m.length c1)).setCell ⟨w.heap.size, 1, none⟩ (.slice B1 q.length d1)).setCell ⟨w.heap.size, 2, none⟩ (.int .i64 0)).setCell ⟨w.heap.size, 3, none⟩ (.bool true)) := ⟨_, rfl⟩
      rw [← hW2]
      replace hbx := Box4.set4 (Box4.mk b0 b1 b2 b3 bf bl) (.slice A1 m.length c1) (.slice B1 q.length d1) (.int .i64 0) (.bool true)
      replace hrx := Box4.far4 hrx (g := w.heap.size) (by omega) (.slice A1 m.length c1) (.slice B1 q.length d1) (.int .i64 0) (.bool true)
      have hX3 := set4_ext hX2 (b := w.heap.size) (Nat.le_refl _) (.slice A1 m.length c1) (.slice B1 q.length d1) (.int .i64 0) (.bool true)
      have hA1 := set4_sl (own_sl4 hown1) hf1 (.slice A1 m.length c1) (.slice B1 q.length d1) (.int .i64 0) (.bool true)
      have hB1 := set4_sl (own_sl4 hown2) hf2 (.slice A1 m.length c1) (.slice B1 q.length d1) (.int .i64 0) (.bool true)
      rw [← hW2] at hbx hrx hX3 hA1 hB1
      clear b0 b1 b2 b3 bf bl hW2 hX1 hx1 hX2 hx2 hown1 hown2
      obtain ⟨b0, b1, b2, b3, bf, bl⟩ := hbx
      obtain ⟨r0, r1, r2, r3, rf, rl⟩ := hrx
      go_wp2_with fail
      exact bodyPost_ret (v := .tuple #[.agg #[.slice A1 m.length c1, .slice B1 q.length d1, .int .i64 0, .bool true], .int .i64 0]) (by simp [results, Try.results97, go_sem, r0, r1, r2, r3]) rfl ⟨_, _, _, _, rfl, set4_sl hA1 hg1 _ _ _ _, set4_sl hB1 hg2 _ _ _ _, set4_ext hX3 (Nat.le_succ _) _ _ _ _⟩
    · rw [if_neg hl]
      have hlb : decide (left ≠ 0) = true := decide_eq_true hl
      go_enter Try.func97, Try.ntmps97
      go_wp2_with fail
      refine (dAsk_any m q left down a A c B d _ ((hB.alloc _).alloc _)).mono ?_
      rintro e w1 ⟨rfl, hx1⟩
      rw [H0.out.1]
      replace hbx := hbx.ext hx1
      replace hrx := hrx.ext hx1
      have hX1 : Ext w w1 := Ext.trans (((Ext.refl w).alloc _).alloc _) hx1
      obtain ⟨b0, b1, b2, b3, bf, bl⟩ := hbx
      go_wp2_with fail
      refine (dSpend_any m q left down A c B d w1 (hA.ext hX1) (hB.ext hX1) (by omega) (by omega) k3).mono ?_
      rw [spD_ne hl, hlb]
      rintro e w2 ⟨A1, c1, B1, d1, rfl, hown1, hown2, hx2⟩
      obtain ⟨L, hL⟩ : ∃ L, spL left = L := ⟨_, rfl⟩
      simp only [hL]
      have HL := Lib.hid hL
      clear hL
      have hX2 := hX1.trans hx2
      have hl1 : w.heap.size + 2 ≤ w1.heap.size := hrx.lt
      replace hbx := (Box4.mk b0 b1 b2 b3 bf bl).ext hx2
      replace hrx := hrx.ext hx2
      clear b0 b1 b2 b3 bf bl
      obtain ⟨b0, b1, b2, b3, bf, bl⟩ := hbx
      go_upto_region 5 with fail
      obtain ⟨W2, hW2⟩ : ∃ W2, W2 = ((((w2.setCell ⟨w.heap.size, 0, none⟩ (.slice A1 m.length c1)).setCell ⟨w.heap.size, 1, none⟩ (.slice B1 q.length d1)).setCell ⟨w.heap.size, 2, none⟩ (.int .i64 L)).setCell ⟨w.heap.size, 3, none⟩ (.bool down)) := ⟨_, rfl⟩
      rw [← hW2]
      replace hbx := Box4.set4 (Box4.mk b0 b1 b2 b3 bf bl) (.slice A1 m.length c1) (.slice B1 q.length d1) (.int .i64 L) (.bool down)
      replace hrx := Box4.far4 hrx (g := w.heap.size) (by omega) (.slice A1 m.length c1) (.slice B1 q.length d1) (.int .i64 L) (.bool down)
      have hX3 := set4_ext hX2 (b := w.heap.size) (Nat.le_refl _) (.slice A1 m.length c1) (.slice B1 q.length d1) (.int .i64 L) (.bool down)
      have hA1 := own_set4 (own_base hown1 hl1) (b := w.heap.size) (by omega) (.slice A1 m.length c1) (.slice B1 q.length d1) (.int .i64 L) (.bool down)
      have hB1 := own_set4 (own_base hown2 hl1) (b := w.heap.size) (by omega) (.slice A1 m.length c1) (.slice B1 q.length d1) (.int .i64 L) (.bool down)
      rw [← hW2] at hbx hrx hX3 hA1 hB1
      clear b0 b1 b2 b3 bf bl hW2 hX1 hx1 hX2 hx2 hown1 hown2
      obtain ⟨b0, b1, b2, b3, bf, bl⟩ := hbx
      go_wp2_with fail
      go_loopw [28] (fun i wr => ∃ k : Nat, k ≤ q.length ∧ i = .int .i64 k ∧ wr.ownsRow (w.heap.size + 2) 88 3 (.slice B1 q.length d1) q.length (fD (fluD a (q.take k) ++ q.drop k)) ∧ wr.ownsRow (w.heap.size + 2) 24 1 (.slice A1 m.length c1) m.length (fU m) ∧ Box4 wr w.heap.size (.slice A1 m.length c1) (.slice B1 q.length d1) (.int .i64 L) (.bool down) ∧ Box4 wr (w.heap.size + 1) (.slice none 0 0) (.slice none 0 0) (.int .i64 0) (.bool false) ∧ Ext w wr) (fun i _ => q.length - (intOf i).toNat)
      case atStart => exact ⟨0, Nat.zero_le _, rfl, hB1, hA1, ⟨b0, b1, b2, b3, bf, bl⟩, hrx, hX3⟩
      case round =>
        clear b0 b1 b2 b3 bf bl hX3 hrx hA1 hB1
        obtain ⟨k, hk, rfl, hB1, hA1, hbx, hrx, hx⟩ := hrel
        by_cases hlt : k < q.length
        · obtain ⟨x, hat⟩ : ∃ x, q[k]? = some x := ⟨_, List.getElem?_eq_getElem hlt⟩
          have hcur := flu_at (a := a) hat
          have hstep := flu_step (a := a) hat
          obtain ⟨r0, r1⟩ := ascB_mem H0.out.2.1 x (List.mem_of_getElem? hat)
          have hcl := (List.getElem?_eq_some_iff.1 hcur).1
          obtain ⟨g, rfl, hg⟩ := own_head hB1 (by omega)
          obtain ⟨y, hy, g0, g1, g2, gf⟩ := own_at_D hB1 hcl
          rw [hcur] at hy
          injection hy with hy
          subst hy
          have hap := own_apart hA1 hB1 (by decide)
          have gl := block_lt_of_cell g0
          simp only at gl
          have Hst := Lib.hid (And.intro hstep (And.intro hcur hat))
          have i0 : (0 : Int) ≤ k := by omega
          have i1 : (k : Int) < q.length := by omega
          have x0 : 0 ≤ x.1 := by omega
          have ne1 : g ≠ w.heap.size := by omega
          have ne2 : g ≠ w.heap.size + 1 := by omega
          obtain ⟨b0, b1, b2, b3, bf, bl⟩ := hbx
          clear hcur hstep hat
          by_cases hc : x.1 / 8 = a / 8
          · have hcb : (x.1 / 8 == a / 8) = true := by simpa using hc
            have hH : Hid (fluD a (q.take (k + 1)) ++ q.drop (k + 1) = (fluD a (q.take k) ++ q.drop k).set k (x.1, x.2.1, true)) := Lib.hid (by rw [Hst.out.1, if_pos hc])
            clear hc
            go_wp2_with fail
            go_roundw
            case rel =>
              refine ⟨k + 1, by omega, by go_num, ?_, ?_, ?_, ?_, ?_⟩
              · rw [hH.out]
                first | exact own_set_D2 (hB1.alloc _) Hst.out.2.1 true | exact (own_set_D2 hB1 Hst.out.2.1 true).alloc _
              · first | exact own_cellF (hA1.alloc _) hap _ _ | exact (own_cellF hA1 hap _ _).alloc _
              · first | exact ((Box4.mk b0 b1 b2 b3 bf bl).alloc _).far (p := ⟨g, k * 3 + 2, none⟩) ne1 _ | exact ((Box4.mk b0 b1 b2 b3 bf bl).far (p := ⟨g, k * 3 + 2, none⟩) ne1 _).alloc _
              · first | exact (hrx.alloc _).far (p := ⟨g, k * 3 + 2, none⟩) ne2 _ | exact (hrx.far (p := ⟨g, k * 3 + 2, none⟩) ne2 _).alloc _
              · first | exact (hx.alloc _).setCell (p := ⟨g, k * 3 + 2, none⟩) (by show w.heap.size ≤ g; omega) _ | exact (hx.setCell (p := ⟨g, k * 3 + 2, none⟩) (by show w.heap.size ≤ g; omega) _).alloc _
            case measure => simp [intOf]; omega
          · have hcb : (x.1 / 8 == a / 8) = false := by simpa using hc
            have hH : Hid (fluD a (q.take (k + 1)) ++ q.drop (k + 1) = fluD a (q.take k) ++ q.drop k) := Lib.hid (by rw [Hst.out.1, if_neg hc, set_same Hst.out.2.1])
            clear hc
            go_wp2_with fail
            go_roundw
            case rel => exact ⟨k + 1, by omega, by go_num, by rw [hH.out]; exact hB1.alloc _, hA1.alloc _, (Box4.mk b0 b1 b2 b3 bf bl).alloc _, hrx.alloc _, hx.alloc _⟩
            case measure => simp [intOf]; omega
        · obtain rfl : k = q.length := by omega
          rw [List.take_length, List.drop_length, List.append_nil] at hB1
          obtain ⟨b0, b1, b2, b3, bf, bl⟩ := hbx
          obtain ⟨r0, r1, r2, r3, rf, rl⟩ := hrx
          have hg1 := own_far (b := w.heap.size + 1) hA1 (by omega)
          have hg2 := own_far (b := w.heap.size + 1) hB1 (by omega)
          have hfl := fluD_length a q
          have HF := Lib.hid hfl
          have HA1 := own_sl4 hA1
          have HB1 := own_sl4 hB1
          clear hfl hA1 hB1
          go_wp2_with fail
          refine bodyPost_ret (v := .tuple #[.agg #[.slice A1 m.length c1, .slice B1 q.length d1, .int .i64 L, .bool down], .int .i64 0]) (by simp [results, Try.results97, go_sem, r0, r1, r2, r3]) rfl ?_
          exact retV_at rfl HF.out HL.out (set4_sl HA1 hg1 _ _ _ _) (set4_sl HB1 hg2 _ _ _ _) (set4_ext hx (Nat.le_succ _) _ _ _ _)
  · have hz : flushV m q left down a = zeroV := by simp [flushV, h0]
    rw [hz]
    have hb : (askE m q left down a != 0) = true := by simpa using h0
    clear hz
    go_enter Try.func97, Try.ntmps97
    go_wp2_with fail
    refine (dAsk_any m q left down a A c B d _ ((hB.alloc _).alloc _)).mono ?_
    rintro e w1 ⟨rfl, hx1⟩
    replace hrx := hrx.ext hx1
    have hX1 : Ext w w1 := Ext.trans (((Ext.refl w).alloc _).alloc _) hx1
    obtain ⟨r0, r1, r2, r3, rf, rl⟩ := hrx
    clear hbx
    go_wp2_with fail
    exact bodyPost_ret (v := .tuple #[.agg #[.slice none 0 0, .slice none 0 0, .int .i64 0, .bool false], .int .i64 (askE m q left down a)]) (by simp [results, Try.results97, go_sem, r0, r1, r2, r3]) rfl (retV_zero (set4_ext hX1 (Nat.le_succ _) _ _ _ _))
end Go.Proofs.Ytmkcpnklaijkfaa
/-
  Copies into a row, at elements of more than one cell; the steps of a walk whose builtin's run is known.
-/
namespace Go.Proofs.Ytmkcpnklaijkfaa
open Go.RowKit
section
variable {P : Program}
theorem run_copy_rowS (w : World) (dT sT ty elem : TypeId) (s g o dLen dCap : Nat) (a : Addr) (sLen sCap : Nat) (cur : Array Value) (t : TypeId) (cs : List Value)
    (hu : P.underlying dT = some (.slice elem)) (hs : (P.info? elem).map (·.size) = some s)
    (hg : w.heap[g]? = some (.cells cur t (0, 0))) (k : Nat) (hk : Nat.min sLen dLen = k) (hn : cs.length = k * s)
    (hsrc : ∀ j v, cs[j]? = some v → w.cell? (a.add j) = some v) (hfit : o + cs.length ≤ cur.size) (h1 : ∀ v ∈ cs, v.oneCell' = true) :
    (Builtin.copy_ #[dT, sT] ty #[.slice (some ⟨g, o, none⟩) dLen dCap, .slice (some a) sLen sCap]).run P w =
      .ok (goInt k) (w.setRow g (cur.toList.take o ++ cs ++ cur.toList.drop (o + cs.length)).toArray) := by
  have hl := run_loadCells_list (P := P) w a cs hsrc
  have hst := run_storeCells_at P g o t cs 0 cur w hg (by simpa using hfit) h1
  cases hq : P.info? elem with
  | none => simp [hq] at hs
  | some i =>
    have hi : i.size = s := by simpa [hq] using hs
    simp [Builtin.copy_, run_underlying hu, Builtin.lenOf, Builtin.firstCells, sizeOf, typeInfo, hq, hi, hk, ← hn, hl, hst]
theorem wp_copy_known (w : World) {o : Oper} {a : Act} {K : Act → World → Prop} {Q : Exit → Act → World → Prop} (d s : Operand) (t t' : TypeId)
    (ho : o.op = .call { callee := .builtin .copy, args := #[d, s], argTypes := #[t, t'] }) (v u : Value) (hd : a.eval d = v) (hs : a.eval s = u) {v' : Value} {w' : World}
    (hr : (Builtin.copy_ #[t, t'] o.type #[v, u]).run P w = .ok v' w') (h : K (a.put o.dst v') w') : o.wp P a w K Q := by
  unfold Oper.wp execOp
  simp only [ho, resolve, invoke, builtin, Sem.run_bind, Sem.run_pure, Result.andThen_ok, List.map_toArray, List.map_cons, List.map_nil, hd, hs, hr]
  exact h
theorem wpList_copy_known (w : World) {ops : Array Oper} {rest : List Oper} {o : Oper} {a : Act} {Q : Exit → Act → World → Prop} (hgd : o.guard = none) (d s : Operand) (t t' : TypeId)
    (ho : o.op = .call { callee := .builtin .copy, args := #[d, s], argTypes := #[t, t'] }) (v u : Value) (hd : a.eval d = v) (hs : a.eval s = u) {v' : Value} {w' : World}
    (hr : (Builtin.copy_ #[t, t'] o.type #[v, u]).run P w = .ok v' w') (h : wpList P ops Q rest (a.put o.dst v') w') : wpList P ops Q (o :: rest) a w :=
  wpList_plain hgd fun _ hK => wp_copy_known w d s t t' ho v u hd hs hr (hK _ _ h)
theorem step_copy_known {ops : Array Oper} {o : Oper} {a : Act} {w : World} {K : Act → World → Prop} {Q : Exit → Act → World → Prop} {E : Prop}
    (hg : o.guard = none) (d x : Operand) (dT sT : TypeId) (hop : o.op = Op.call { callee := Callee.builtin Builtin.copy, args := #[d, x], argTypes := #[dT, sT] })
    (v u : Value) (hd : a.eval d = v) (hx : a.eval x = u) {v' : Value} {w' : World} (hr : (Builtin.copy_ #[dT, sT] o.type #[v, u]).run P w = .ok v' w') (hK : K (a.put o.dst v') w') :
    if Region.wanted o (yielded ops a.tmps) = true then Oper.wp P o a w K Q else E := by
  have hw : Region.wanted o (yielded ops a.tmps) = true := by simp [Region.wanted, hg]
  rw [if_pos hw]
  exact wp_copy_known w d x dT sT hop v u hd hx hr hK
theorem wpList_app_known (w : World) {ops : Array Oper} {rest : List Oper} {o : Oper} {a : Act} {Q : Exit → Act → World → Prop} (hgd : o.guard = none) (d s : Operand) (t t' : TypeId)
    (ho : o.op = .call { callee := .builtin .append, args := #[d, s], argTypes := #[t, t'] }) (v u : Value) (hd : a.eval d = v) (hs : a.eval s = u) {v' : Value} {w' : World}
    (hr : (Builtin.append_ #[t, t'] o.type #[v, u]).run P w = .ok v' w') (h : wpList P ops Q rest (a.put o.dst v') w') : wpList P ops Q (o :: rest) a w :=
  wpList_plain hgd fun _ hK => by
    unfold Oper.wp execOp
    simp only [ho, resolve, invoke, builtin, Sem.run_bind, Sem.run_pure, Result.andThen_ok, List.map_toArray, List.map_cons, List.map_nil, hd, hs, hr]
    exact hK _ _ h
end
theorem below_row {B g : Nat} {w0 w : World} (hb : Below B w0 w) (hg : B ≤ g) (cs : Array Value) : Below B w0 (w.setRow g cs) :=
  hb.trans ⟨rfl, rfl, rfl, by simp [World.setRow], fun k hk => setRow_other w g k cs (by omega)⟩
/-- An element is put into a row: what stood from it on moves up first. -/
theorem row_shift {α : Type} {R P S T X : List α} {a b s : Nat} (hR : R = P ++ (S ++ T)) (ha : P.length = a) (hb : S.length = b) (hs : X.length = s) (hT : s ≤ T.length) :
    ((R.take (a + s) ++ S ++ R.drop (a + s + b)).take a ++ X ++ (R.take (a + s) ++ S ++ R.drop (a + s + b)).drop (a + s)).take (a + s + b) = P ++ (X ++ S) := by
  have hlen : R.length = a + b + T.length := by rw [hR]; simp [ha, hb]; omega
  have e1 : (R.take (a + s) ++ S ++ R.drop (a + s + b)).take a = P := by
    rw [List.append_assoc, List.take_append_of_le_length (by simp; omega), List.take_take, Nat.min_eq_left (by omega), hR, List.take_append_of_le_length (by omega), List.take_of_length_le (by omega)]
  have e2 : (R.take (a + s) ++ S ++ R.drop (a + s + b)).drop (a + s) = S ++ R.drop (a + s + b) := by
    rw [List.append_assoc, List.drop_append_of_le_length (by simp; omega), List.drop_eq_nil_of_le (by simp; omega), List.nil_append]
  rw [e1, e2]

  rw [← List.append_assoc (P ++ X) S, List.take_append_of_le_length (by simp; omega), List.take_of_length_le (by simp; omega), List.append_assoc]
/-- A new row is filled: the element, then what stood from it on. -/
theorem row_fill {α : Type} {R P S Z X : List α} {a b s : Nat} (hR : R = P ++ Z) (ha : P.length = a) (hb : S.length = b) (hs : X.length = s) :
    ((R.take a ++ X ++ R.drop (a + s)).take (a + s) ++ S ++ (R.take a ++ X ++ R.drop (a + s)).drop (a + s + b)).take (a + s + b) = P ++ (X ++ S) := by
  have e0 : R.take a = P := by rw [hR, List.take_append_of_le_length (by omega), List.take_of_length_le (by omega)]
  rw [e0]
  have e1 : (P ++ X ++ R.drop (a + s)).take (a + s) = P ++ X := by rw [List.take_append_of_le_length (by simp; omega), List.take_of_length_le (by simp; omega)]
  rw [e1, List.append_assoc (P ++ X), ← List.append_assoc (P ++ X) S, List.take_append_of_le_length (by simp; omega), List.take_of_length_le (by simp; omega), List.append_assoc]
end Go.Proofs.Ytmkcpnklaijkfaa
/-
  The library's slices.Insert, at a row of dirty words of the call's own.
-/
namespace Go.Proofs.Ytmkcpnklaijkfaa
open Go.RowKit
/-- The call returned a row that may be written; of what was there only the row of v0 has changed. -/
def RetRow (base : Nat) (v0 : Value) (w0 : World) (e : TypeId) (size n : Nat) (xs : List Value) (en : Ending) (w' : World) : Prop :=
  ∃ A c, en = .returned (.slice A n c) ∧ w'.ownsRow base e size (.slice A n c) n xs ∧ w0.grownBy w' v0.ownBlock
theorem retRow_mk {base : Nat} {v0 : Value} {w0 w' : World} {e : TypeId} {size n : Nat} {xs : List Value} {v : Value} (h : w'.ownsRow base e size v n xs) (hx : w0.grownBy w' v0.ownBlock) : RetRow base v0 w0 e size n xs (.returned v) w' := by
  obtain ⟨A, c, rfl, _⟩ := Sl.of_own h
  exact ⟨A, c, rfl, h, hx⟩
theorem fD_cons (x : Dw) (l : List Dw) : fD (x :: l) = fD [x] ++ fD l := rfl
theorem sz_of {P : Program} {t e : TypeId} {size bytes : Nat} (E : ElT P t e size bytes) : (P.info? e).map (·.size) = some size ∧ ∀ w, (Go.sizeOf e).run P w = .ok size w := by
  obtain ⟨i, z, hi, _, hs, _⟩ := E.inf
  exact ⟨by rw [hi]; simp [hs], fun w => by simp [sizeOf, typeInfo, hi, hs]⟩
set_option maxRecDepth 100000 in
set_option maxHeartbeats 1600000 in
theorem ins_end (q : List Dw) (x : Dw) (A : Option Addr) (c base vb : Nat) (w : World) (hown : w.ownsRow base 88 3 (.slice A q.length c) q.length (fD q)) (hx : Sl w (some ⟨vb, 0, none⟩) 1 1 (fD [x])) (hb : base ≤ w.heap.size) (hl : q.length ≤ 100000) :
    Calls Try.prog 118 #[.slice A q.length c, .int .i64 q.length, .slice (some ⟨vb, 0, none⟩) 1 1] w (RetRow base (.slice A q.length c) w 88 3 (q.length + 1) (fD (q ++ [x]))) := by
  have hmax := (own_sl4 hown).max
  have hle := (own_sl4 hown).le
  unfold maxLen at hmax
  have HO := Lib.hid hown
  rcases hown.2 with ⟨hv, h0⟩ | ⟨g, cap, cur, hv, -, -, -⟩
  · injection hv with h1 h2 h3
    obtain rfl := h1
    obtain rfl := List.eq_nil_of_length_eq_zero h0
    obtain rfl := h3
    clear hown h2 h0
    go_enter Try.func118, Try.ntmps118
    go_wp2_with (at_builtin; refine wpList_app ED rfl (.tmp 23) (.tmp 24) rfl rfl HO.out rfl hx rfl (fD_one [x]) (by decide) hb ?_; intro v' w' hown' hbel hat hgr)
    go_ret
    exact retRow_mk hown' hgr
  · injection hv with h1 h2 h3
    obtain rfl := h1
    obtain rfl := h3
    clear hown
    go_enter Try.func118, Try.ntmps118
    go_wp2_with (at_builtin; refine wpList_app ED rfl (.tmp 23) (.tmp 24) rfl rfl HO.out rfl hx rfl (fD_one [x]) (by omega) hb ?_; intro v' w' hown' hbel hat hgr)
    all_goals
      go_ret
      exact retRow_mk (by rw [fD_append]; exact hown') hgr
set_option maxRecDepth 100000 in
set_option maxHeartbeats 3200000 in
theorem ins_room (q : List Dw) (i : Nat) (hi : i < q.length) (x : Dw) (g c base vb : Nat) (T0 : TypeId) (w : World) (hown : w.ownsRow base 88 3 (.slice (some ⟨g, 0, none⟩) q.length c) q.length (fD q)) (hv : w.heap[vb]? = some (.cells (fD [x]).toArray T0 (0, 0))) (hne : vb ≠ g) (hroom : q.length + 1 ≤ c) (hl : q.length ≤ 100000) :
    Calls Try.prog 118 #[.slice (some ⟨g, 0, none⟩) q.length c, .int .i64 i, .slice (some ⟨vb, 0, none⟩) 1 1] w (RetRow base (.slice (some ⟨g, 0, none⟩) q.length c) w 88 3 (q.length + 1) (fD (q.take i ++ x :: q.drop i))) := by
  obtain ⟨hxl, ⟨hz, -⟩ | ⟨g', cap, cur, hz, hbg, hg, hnc, hmax, hsz, htk⟩⟩ := hown
  · cases hz
  injection hz with h1 _ h3
  injection h1 with h1
  injection h1 with h1
  subst h1 h3
  obtain ⟨hs3, hsO⟩ := sz_of ED
  have hov : ∀ lb cb, (callFunc 134 #[.slice (some ⟨vb, 0, none⟩) 1 1, .slice (some ⟨g, (i + 1) * 3, none⟩) lb cb]).run Try.prog w = .ok (.value (.bool false)) w := fun lb cb => by
    rw [run_callFunc_extern Try.func134 (by kernel_rfl) (by kernel_rfl) (by kernel_rfl) (e := Extern.SlicesOverlaps.overlaps #[44, 44] #[4]) (by kernel_rfl),
      Lib.run_overlaps_apart w 44 4 88 Try.underlying44 3 hsO ⟨vb, 0, none⟩ ⟨g, (i + 1) * 3, none⟩ 1 1 lb cb hne T0 88 3 cur.size (by simp [World.shape?, hv, fD]) (by simp [World.shape?, hg]) (by omega) (by simp [World.frozen?, hv]) (by simp [World.frozen?, hv])]
    rfl
  have hq3 := fD_length q
  have hxs : ∀ j u, (fD [x])[j]? = some u → w.cell? ⟨vb, j, none⟩ = some u := fun j u hj => by
    rw [cell_of_row w vb j _ T0 (0, 0) hv]
    simpa using hj
  have hqs : ∀ j u, (fD q)[j]? = some u → w.cell? ⟨g, j, none⟩ = some u := fun j u hj => by
    rw [cell_of_row w g j _ _ (0, 0) hg]
    rw [← htk, List.getElem?_take] at hj
    split at hj
    · simpa using hj
    · cases hj
  have hdl : (fD (q.drop i)).length = (q.length - i) * 3 := by rw [fD_length, List.length_drop]
  have hR : cur.toList = fD (q.take i) ++ (fD (q.drop i) ++ cur.toList.drop (q.length * 3)) := by
    rw [← List.append_assoc, ← fD_append, List.take_append_drop, ← htk, List.take_append_drop]
  obtain ⟨R1, hR1⟩ : ∃ R : Array Value, R = (cur.toList.take ((i + 1) * 3) ++ fD (q.drop i) ++ cur.toList.drop ((i + 1) * 3 + (fD (q.drop i)).length)).toArray := ⟨_, rfl⟩
  have hR1s : R1.size = cur.size := by rw [hR1]; simp [hdl]; omega
  obtain ⟨R2, hR2⟩ : ∃ R : Array Value, R = (R1.toList.take (i * 3) ++ fD [x] ++ R1.toList.drop (i * 3 + (fD [x]).length)).toArray := ⟨_, rfl⟩
  have hR2s : R2.size = cur.size := by rw [hR2]; simp [fD, hR1s]; omega
  have hfin : R2.toList.take ((q.length + 1) * 3) = fD (q.take i ++ x :: q.drop i) := by
    have := row_shift (P := fD (q.take i)) (S := fD (q.drop i)) (T := cur.toList.drop (q.length * 3)) (X := fD [x]) (a := i * 3) (b := (q.length - i) * 3) (s := 3) hR (by rw [fD_length, List.length_take]; omega) hdl rfl (by simp; omega)
    rw [fD_append, fD_cons x, ← this, hR2, hR1]
    simp only [hdl, show (fD [x]).length = 3 from rfl, show i * 3 + 3 = (i + 1) * 3 from by omega, show (q.length + 1) * 3 = (i + 1) * 3 + (q.length - i) * 3 from by omega]
  have hcp1 : ∀ ty dl dc sl sc, Nat.min sl dl = q.length - i → (Builtin.copy_ #[44, 44] ty #[.slice (some ⟨g, (i + 1) * 3, none⟩) dl dc, .slice (some ⟨g, i * 3, none⟩) sl sc]).run Try.prog w.drew = .ok (goInt ((q.length - i : Nat) : Int)) (w.drew.setRow g R1) := fun ty dl dc sl sc hk => by
    rw [hR1]
    exact run_copy_rowS w.drew _ _ ty _ 3 g ((i + 1) * 3) dl dc ⟨g, i * 3, none⟩ sl sc cur _ (fD (q.drop i)) Try.underlying44 hs3 hg _ hk hdl
      (fun j u hj => by rw [Addr.add_lit]; exact hqs _ u (by rwa [fD_drop, List.getElem?_drop] at hj)) (by rw [hdl]; omega) (fD_one _)
  have hg1 : (w.drew.setRow g R1).heap[g]? = some (.cells R1 88 (0, 0)) := setRow_heap w.drew g cur R1 _ _ hg
  have hcp2 : ∀ ty dl dc, Nat.min 1 dl = 1 → (Builtin.copy_ #[44, 44] ty #[.slice (some ⟨g, i * 3, none⟩) dl dc, .slice (some ⟨vb, 0, none⟩) 1 1]).run Try.prog (w.drew.setRow g R1) = .ok (goInt ((1 : Nat) : Int)) ((w.drew.setRow g R1).setRow g R2) := fun ty dl dc hk => by
    rw [hR2]
    exact run_copy_rowS (w.drew.setRow g R1) _ _ ty _ 3 g (i * 3) dl dc ⟨vb, 0, none⟩ 1 1 R1 _ (fD [x]) Try.underlying44 hs3 hg1 1 hk rfl
      (fun j u hj => by
        rw [Addr.add_lit, Nat.zero_add]
        have h1 := hxs j u hj
        have : (w.drew.setRow g R1).heap[vb]? = w.heap[vb]? := setRow_other w.drew g vb R1 (by omega)
        simpa [World.cell?, this] using h1) (by rw [hR1s]; simp [fD]; omega) (fD_one _)
  have HF := Lib.hid (And.intro hfin (And.intro hR2s hR1s))
  have hw1 : IntKind.i64.wrap ((i : Int) + 1) = (i : Int) + 1 := by rw [IntKind.wrap_i64]; omega
  have hz2 : ¬ ((i : Int) = (q.length : Int)) := by omega
  have hb1 : (0 : Int) ≤ (i : Int) + 1 := by omega
  have hin : i ≤ q.length := by omega
  have htn : ((i : Int) + 1).toNat = i + 1 := by omega
  have hb2 : ¬ (c = i + 1) := by omega
  have hb3 : (i : Int) ≤ (q.length : Int) + 1 := by omega
  have hb4 : ¬ (c = i) := by omega
  have hH := Lib.hid (And.intro hg1 (And.intro hg hbg))
  unfold maxLen at hmax
  have H1 := Lib.hid hcp1
  have H2 := Lib.hid hcp2
  clear hcp1 hcp2 hfin hR2s hR1s hR1 hR2 hR hdl hqs hxs hq3 hg1 hg htk hv hxl
  go_enter Try.func118, Try.ntmps118
  go_wp2_with (simp only [hov])
  go_region_law (refine step_copy_known rfl (.tmp 73) (.tmp 76) 44 44 rfl _ _ (by simp [Act.eval, Act.put]) (by simp [Act.eval, Act.put]) (H1.out _ (q.length - i) (c - (i + 1)) (q.length + 1 - i) (c - i) (by simp only [Nat.min_def]; split <;> omega)) ?_)
  go_wp2_with (refine wpList_copy_known _ rfl (.tmp 80) (.tmp 81) 44 44 rfl _ _ rfl rfl (H2.out _ (q.length + 1 - i) (c - i) (by simp only [Nat.min_def]; split <;> omega)) ?_)
  go_ret
  refine retRow_mk (v := .slice (some ⟨g, 0, none⟩) (q.length + 1) c) ⟨by rw [fD_length]; simp; omega, .inr ⟨g, c, R2, rfl, hH.out.2.2, ?_, hroom, hmax, by rw [HF.out.2.1]; exact hsz, HF.out.1⟩⟩ ?_
  · exact setRow_heap _ g R1 R2 _ _ hH.out.1
  · exact ⟨rfl, rfl, rfl, by simp [World.setRow], fun k _ hk => by
      have hk' : k ≠ g := fun e => hk (by rw [e]; rfl)
      rw [setRow_other _ _ k R2 hk', setRow_other _ _ k R1 hk']
      rfl⟩
set_option maxRecDepth 100000 in
set_option maxHeartbeats 3200000 in
theorem ins_grow (q : List Dw) (i : Nat) (hi : i < q.length) (x : Dw) (g c base vb : Nat) (T0 : TypeId) (w : World) (hown : w.ownsRow base 88 3 (.slice (some ⟨g, 0, none⟩) q.length c) q.length (fD q)) (hv : w.heap[vb]? = some (.cells (fD [x]).toArray T0 (0, 0))) (hb : base ≤ w.heap.size) (hroom : c < q.length + 1) (hl : q.length ≤ 100000) :
    Calls Try.prog 118 #[.slice (some ⟨g, 0, none⟩) q.length c, .int .i64 i, .slice (some ⟨vb, 0, none⟩) 1 1] w (RetRow base (.slice (some ⟨g, 0, none⟩) q.length c) w 88 3 (q.length + 1) (fD (q.take i ++ x :: q.drop i))) := by
  obtain ⟨hxl, ⟨hz, -⟩ | ⟨g', cap, cur, hz, hbg, hg, hnc, hmax, hsz, htk⟩⟩ := hown
  · cases hz
  injection hz with h1 _ h3
  injection h1 with h1
  injection h1 with h1
  subst h1 h3
  obtain ⟨hs3, hsO⟩ := sz_of ED
  obtain ⟨ti, z, hti, hz0, hzs, hzb, hzc⟩ := ED.inf
  have hqs : ∀ j u, (fD q)[j]? = some u → w.cell? ⟨g, j, none⟩ = some u := fun j u hj => by
    rw [cell_of_row w g j _ _ (0, 0) hg]
    rw [← htk, List.getElem?_take] at hj
    split at hj
    · simpa using hj
    · cases hj
  have hgl : g < w.heap.size := (Array.getElem?_eq_some_iff.1 hg).1
  have hvl : vb < w.heap.size := (Array.getElem?_eq_some_iff.1 hv).1
  have hdl : (fD (q.drop i)).length = (q.length - i) * 3 := by rw [fD_length, List.length_drop]
  have htl : (fD (q.take i)).length = i * 3 := by rw [fD_length, List.length_take]; omega
  have hold : (Builtin.firstCells ti.size i (.slice (some ⟨g, 0, none⟩) i c)).run Try.prog w.drew = .ok (fD (q.take i)).toArray w.drew := by
    rw [hzs]
    exact run_firstCells_some w.drew 3 i ⟨g, 0, none⟩ i c (fD (q.take i)) htl (fun j u hj => by
      rw [Addr.add_lit, Nat.zero_add]
      rw [fD_take, List.getElem?_take] at hj
      split at hj
      · exact hqs j u hj
      · cases hj)
  have hkk : (q.length : Int) + 1 - (i : Int) = ((q.length + 1 - i : Nat) : Int) := by omega
  have hik : i + (q.length + 1 - i) = q.length + 1 := by omega
  obtain ⟨G, hG⟩ : ∃ G, G = grownCap w (q.length + 1) c 88 := ⟨_, rfl⟩
  obtain ⟨R0, hR0⟩ : ∃ R : Array Value, R = (fD (q.take i)).toArray ++ Builtin.zeroCells z.cells (q.length + 1 - i) ++ Builtin.zeroCells z.cells (G - (q.length + 1)) := ⟨_, rfl⟩
  have hrz : ∀ ty, (Builtin.append_ #[44, 3] ty #[.slice (some ⟨g, 0, none⟩) i c, .int .i64 ((q.length : Int) + 1 - (i : Int))]).run Try.prog w =
      .ok (.slice (some ⟨w.heap.size, 0, none⟩) (q.length + 1) G) (w.drew.alloc (.cells R0 88)) := fun ty => by
    have h := Lib.run_append_grow_zeros w 44 3 ty 88 ti z .i64 .i64 Try.underlying44 Try.underlying3 hti hz0 (some ⟨g, 0, none⟩) i c (fD (q.take i)) hold (q.length + 1 - i) (by omega) (by omega) (by omega) (by omega) (by rw [hzb]; omega) (by rw [hzb, hik]; exact growslice_fits hroom (by omega))
    rw [hik] at h
    rw [hkk, hR0, hG]
    exact h
  have hGn : q.length + 1 ≤ G := by rw [hG]; exact grownCap_ge w _ _ _
  have hG63 : G ≤ maxLen := by rw [hG]; exact grownCap_le_maxLen w _ _ _ (by unfold maxLen; omega)
  have hRs : R0.size = G * 3 := by rw [hR0]; simp only [Array.size_append, size_zeroCells, hzc, List.size_toArray, htl]; omega
  obtain ⟨Z, hZ⟩ : ∃ Z : List Value, R0.toList = fD (q.take i) ++ Z := ⟨_, by rw [hR0]; simp only [Array.toList_append, List.append_assoc]; rfl⟩
  obtain ⟨R1, hR1⟩ : ∃ R : Array Value, R = (R0.toList.take (i * 3) ++ fD [x] ++ R0.toList.drop (i * 3 + (fD [x]).length)).toArray := ⟨_, rfl⟩
  have hR1s : R1.size = G * 3 := by rw [hR1]; simp [fD, hRs]; omega
  obtain ⟨R2, hR2⟩ : ∃ R : Array Value, R = (R1.toList.take ((i + 1) * 3) ++ fD (q.drop i) ++ R1.toList.drop ((i + 1) * 3 + (fD (q.drop i)).length)).toArray := ⟨_, rfl⟩
  have hR2s : R2.size = G * 3 := by rw [hR2]; simp [hdl, hR1s]; omega
  have hfin : R2.toList.take ((q.length + 1) * 3) = fD (q.take i ++ x :: q.drop i) := by
    have := row_fill (P := fD (q.take i)) (S := fD (q.drop i)) (X := fD [x]) (a := i * 3) (b := (q.length - i) * 3) (s := 3) hZ htl hdl rfl
    rw [fD_append, fD_cons x, ← this, hR2, hR1]
    simp only [hdl, show (fD [x]).length = 3 from rfl, show i * 3 + 3 = (i + 1) * 3 from by omega, show (q.length + 1) * 3 = (i + 1) * 3 + (q.length - i) * 3 from by omega]
  have hcpA : ∀ (W : World), W.heap[w.heap.size]? = some (.cells R0 88 (0, 0)) → W.heap[vb]? = w.heap[vb]? → ∀ ty dl dc, Nat.min 1 dl = 1 → (Builtin.copy_ #[44, 44] ty #[.slice (some ⟨w.heap.size, i * 3, none⟩) dl dc, .slice (some ⟨vb, 0, none⟩) 1 1]).run Try.prog W = .ok (goInt ((1 : Nat) : Int)) (W.setRow w.heap.size R1) := fun W hN hV ty dl dc hk => by
    rw [hR1]
    exact run_copy_rowS W _ _ ty _ 3 w.heap.size (i * 3) dl dc ⟨vb, 0, none⟩ 1 1 R0 _ (fD [x]) Try.underlying44 hs3 hN 1 hk rfl
      (fun j u hj => by
        rw [Addr.add_lit, Nat.zero_add, cell_of_row W vb j _ T0 (0, 0) (hV.trans hv)]
        simpa using hj) (by rw [hRs]; simp [fD]; omega) (fD_one _)
  have hcpB : ∀ (W : World), W.heap[w.heap.size]? = some (.cells R1 88 (0, 0)) → W.heap[g]? = w.heap[g]? → ∀ ty dl dc sl sc, Nat.min sl dl = q.length - i → (Builtin.copy_ #[44, 44] ty #[.slice (some ⟨w.heap.size, (i + 1) * 3, none⟩) dl dc, .slice (some ⟨g, i * 3, none⟩) sl sc]).run Try.prog W = .ok (goInt ((q.length - i : Nat) : Int)) (W.setRow w.heap.size R2) := fun W hN hO ty dl dc sl sc hk => by
    rw [hR2]
    exact run_copy_rowS W _ _ ty _ 3 w.heap.size ((i + 1) * 3) dl dc ⟨g, i * 3, none⟩ sl sc R1 _ (fD (q.drop i)) Try.underlying44 hs3 hN _ hk hdl
      (fun j u hj => by
        have h1 := hqs (i * 3 + j) u (by rwa [fD_drop, List.getElem?_drop] at hj)
        rw [Addr.add_lit]
        simpa [World.cell?, hO] using h1) (by rw [hdl, hR1s]; omega) (fD_one _)
  have hN0 : ∀ W : World, W.heap = (w.alloc (.cells R0 88)).heap → W.heap[w.heap.size]? = some (.cells R0 88 (0, 0)) ∧ W.heap[vb]? = w.heap[vb]? ∧ W.heap[g]? = w.heap[g]? := fun W e => by
    rw [e]
    exact ⟨heap_alloc_new w _, heap_alloc_old w _ hvl, heap_alloc_old w _ hgl⟩
  have HF := Lib.hid (And.intro hfin (And.intro hR2s (And.intro hG63 hGn)))
  have hw1 : IntKind.i64.wrap ((i : Int) + 1) = (i : Int) + 1 := by rw [IntKind.wrap_i64]; omega
  have hz2 : ¬ ((i : Int) = (q.length : Int)) := by omega
  have hz3 : (c : Int) < (q.length : Int) + 1 := by omega
  have hb1 : (0 : Int) ≤ (i : Int) + 1 := by omega
  have hin : i ≤ q.length := by omega
  have htn : ((i : Int) + 1).toNat = i + 1 := by omega
  have hGi : ¬ (G = i) := by omega
  have hGi1 : ¬ (G = i + 1) := by omega
  have hb3 : (i : Int) ≤ (q.length : Int) := by omega
  have hb4 : ¬ (c = i) := by omega
  have hgN : w.heap.size ≠ g := by omega
  have H0 := Lib.hid hrz
  have H1 := Lib.hid hcpA
  have H2 := Lib.hid hcpB
  have H3 := Lib.hid hN0
  unfold maxLen at hmax hG63
  clear hcpA hcpB hrz hN0 hfin hR2s hR1s hR1 hR2 hR0 hZ hG hRs hdl htl hqs hg htk hv hxl hold hkk hik hti hz0 hzs hzb hzc
  go_enter Try.func118, Try.ntmps118
  have hA1 := H1.out ((w.alloc (.cells R0 88)).drew) (H3.out _ rfl).1 (H3.out _ rfl).2.1 3 (q.length + 1 - i) (G - i) (by simp only [Nat.min_def]; split <;> omega)
  go_wp2_with (at_builtin; refine wpList_app_known _ rfl (.tmp 34) (.tmp 39) 44 3 rfl _ _ rfl rfl (H0.out _) ?_)
  have hh1 : (((w.alloc (.cells R0 88)).drew.setRow w.heap.size R1).drew).heap[w.heap.size]? = some (.cells R1 88 (0, 0)) := setRow_heap _ _ R0 R1 _ _ (H3.out _ rfl).1
  have hh2 : (((w.alloc (.cells R0 88)).drew.setRow w.heap.size R1).drew).heap[g]? = w.heap[g]? := (setRow_other _ _ g R1 (Ne.symm hgN)).trans (H3.out _ rfl).2.2
  have h2 := H2.out _ hh1 hh2
  have HB := Lib.hid h2
  have HH := Lib.hid hh1
  clear hh1 hh2 h2
  go_region_law (refine step_copy_known rfl (.tmp 50) (.tmp 53) 44 44 rfl _ _ (by simp [Act.eval, Act.put]) (by simp [Act.eval, Act.put]) (HB.out _ (q.length - i) (G - (i + 1)) (q.length - i) (c - i) (by simp only [Nat.min_def]; split <;> omega)) ?_)
  go_wp2_with fail
  go_ret
  refine retRow_mk (v := .slice (some ⟨w.heap.size, 0, none⟩) (q.length + 1) G) ⟨by rw [fD_length]; simp; omega, .inr ⟨w.heap.size, G, R2, rfl, hb, ?_, HF.out.2.2.2, HF.out.2.2.1, HF.out.2.1, HF.out.1⟩⟩ ?_
  · exact setRow_heap _ _ R1 R2 _ _ HH.out
  · exact ⟨rfl, rfl, rfl, by simp [World.setRow], fun k hk _ => by
      have hk' : k ≠ w.heap.size := by omega
      rw [setRow_other _ _ k R2 hk']
      exact (setRow_other _ _ k R1 hk').trans (heap_alloc_old w _ hk)⟩
/-- A dirty word is put into a row of the call's own. -/
theorem ins_any (q : List Dw) (i : Nat) (hi : i ≤ q.length) (x : Dw) (A : Option Addr) (c base vb : Nat) (T0 : TypeId) (w : World) (hown : w.ownsRow base 88 3 (.slice A q.length c) q.length (fD q)) (hv : w.heap[vb]? = some (.cells (fD [x]).toArray T0 (0, 0))) (hne : ∀ ad, A = some ad → ad.block ≠ vb) (hb : base ≤ w.heap.size) (hl : q.length ≤ 100000) :
    Calls Try.prog 118 #[.slice A q.length c, .int .i64 i, .slice (some ⟨vb, 0, none⟩) 1 1] w (RetRow base (.slice A q.length c) w 88 3 (q.length + 1) (fD (q.take i ++ x :: q.drop i))) := by
  by_cases h : i = q.length
  · subst h
    rw [List.take_length, List.drop_length]
    refine ins_end q x A c base vb w hown ⟨Nat.le_refl _, by decide, (fun h => by cases h), fun _ => ⟨_, rfl, fun j u hu => ?_⟩⟩ hb hl
    rw [Addr.add_lit, Nat.zero_add, cell_of_row w vb j _ T0 (0, 0) hv]
    simpa using hu
  · obtain ⟨g, rfl, -⟩ := own_head hown (by omega)
    by_cases hr : q.length + 1 ≤ c
    · exact ins_room q i (by omega) x g c base vb T0 w hown hv (Ne.symm (hne _ rfl)) hr hl
    · exact ins_grow q i (by omega) x g c base vb T0 w hown hv hb (by omega) hl
end Go.Proofs.Ytmkcpnklaijkfaa
