/-
  The contracts of the checks of devices.
-/
import Derived.Test.YtmmcbleoglgamaaDMem
namespace Go.Proofs.Ytmmcbleoglgamaa
open Go.RowKit
theorem ascB_at {n lv : Int} {q : List Dw} {k : Nat} {x : Dw} (h : q[k]? = some x) : ascB n lv (q.drop k) = (decide (lv < x.1) && decide (x.1 < n) && ascB n x.1 (q.drop (k + 1))) := by
  obtain ⟨hlt, rfl⟩ := List.getElem?_eq_some_iff.1 h
  rw [List.drop_eq_getElem_cons hlt]
  rfl
theorem devE_no {m : List Int} {q : List Dw} {left : Int} {down : Bool} (h : devB m q left down = false) : devE m q left down = 8 := by simp [devE, h]
theorem devE_yes {m : List Int} {q : List Dw} {left : Int} {down : Bool} (h : devB m q left down = true) : devE m q left down = 0 := by simp [devE, h]
/-- A device as a value. -/
abbrev vD (A : Option Addr) (m : List Int) (c : Nat) (B : Option Addr) (q : List Dw) (k : Nat) (left : Int) (down : Bool) : Value := .agg #[.slice A m.length c, .slice B q.length k, .int .i64 left, .bool down]
theorem devB_f1 {m : List Int} {q : List Dw} {left : Int} {down : Bool} (h : left < -1) : devB m q left down = false := by
  have : ¬ -1 ≤ left := by omega
  simp [devB, this]
theorem devB_f2 {m : List Int} {q : List Dw} {left : Int} {down : Bool} (h : 1000000 < left) : devB m q left down = false := by
  have : ¬ left ≤ 1000000 := by omega
  simp [devB, this]
theorem devB_f3 {m : List Int} {q : List Dw} {left : Int} (h : left ≠ 0) : devB m q left true = false := by
  simp [devB, h]
theorem devB_asc {m : List Int} {q : List Dw} {left : Int} {down : Bool} (hs : sizeB m.length = true) (h1 : -1 ≤ left) (h2 : left ≤ 1000000) (h3 : down = true → left = 0) : devB m q left down = ascB m.length (-1) q := by
  have a3 : (!down || decide (left = 0)) = true := by
    cases down
    · rfl
    · simp [h3 rfl]
  simp [devB, hs, h1, h2, a3]
set_option maxRecDepth 100000 in
set_option maxHeartbeats 3200000 in
theorem dCheck_0 (m : List Int) (q : List Dw) (left : Int) (A : Option Addr) (c : Nat) (B : Option Addr) (d : Nat) (w : World) (hB : Sl w B q.length d (fD q)) (hs : sizeB (m.length : Int) = true) (h1 : -1 ≤ left) (h2 : left ≤ 1000000) :
    Calls Try.prog 34 #[.agg #[.slice A m.length c, .slice B q.length d, .int .i64 left, .bool false]] w fun e w' => e = .returned (.int .i64 (devE m q left false)) ∧ Ext w w' := by
  have hi : imgE (m.length : Int) = 0 := by simp [imgE, hs]
  have HD := Lib.hid (devB_asc (q := q) hs h1 h2 (down := false) (fun h => by cases h))
  have hq := hB.max
  unfold maxLen at hq
  have hqd := hB.le
  clear hs
  go_enter Try.func34, Try.ntmps34
  go_wp2_with fail
  refine (imageCheck_any _ _ _ _).mono ?_
  rintro e w' ⟨rfl, rfl⟩
  go_wp2_with fail
  go_loopw [4, 33] (fun v i wr => ∃ (k : Nat) (lv : Int), k ≤ q.length ∧ i = .int .i64 k ∧ v = .int .i64 lv ∧ ascB m.length (-1) q = ascB m.length lv (q.drop k) ∧ Ext (w.alloc (Obj.cells #[.slice A m.length c, .slice B q.length d, .int .i64 left, .bool false] 25)) wr) (fun _ i _ => q.length - (intOf i).toNat)
  case atStart => exact ⟨0, -1, Nat.zero_le _, rfl, rfl, rfl, Ext.refl _⟩
  case round =>
    obtain ⟨k, lv, hk, rfl, rfl, hh, hx⟩ := hrel
    have b0 : wr.cell? ⟨w.heap.size, 0, none⟩ = some (.slice A m.length c) := hx.cell (by simp [go_sem])
    have hX : Ext w wr := Ext.trans ((Ext.refl w).alloc _) hx
    have Hh := Lib.hid hh
    clear hh
    by_cases hlt : k < q.length
    · obtain ⟨ad, x, rfl, hat, g0, g1, g2⟩ := (hB.ext hX).d_at hlt
      have hstep := ascB_at (n := m.length) (lv := lv) hat
      have Hs := Lib.hid hstep
      have hb : w.heap.size < wr.heap.size := by have := hx.size; simp at this; omega
      clear hat hstep
      by_cases c1 : x.1 ≤ lv
      · have hf : ascB m.length lv (q.drop k) = false := by rw [Hs.out]; simp; omega
        have he := devE_no (HD.out.trans (Hh.out.trans hf))
        have HE := Lib.hid he
        clear hf he
        go_wp2_with fail
        go_ret
        exact ⟨ret_int HE.out.symm, hX.alloc _⟩
      · by_cases c2 : (m.length : Int) ≤ x.1
        · have hf : ascB m.length lv (q.drop k) = false := by rw [Hs.out]; simp; omega
          have he := devE_no (HD.out.trans (Hh.out.trans hf))
          have HE := Lib.hid he
          clear hf he
          go_wp2_with fail
          go_ret
          exact ⟨ret_int HE.out.symm, hX.alloc _⟩
        · have hf : ascB m.length lv (q.drop k) = ascB m.length x.1 (q.drop (k + 1)) := by
            rw [Hs.out, decide_eq_true (show lv < x.1 by omega), decide_eq_true (show x.1 < (m.length : Int) by omega)]; rfl
          have HF := Lib.hid (Hh.out.trans hf)
          clear hf
          go_wp2_with fail
          go_roundw
          case rel => exact ⟨k + 1, x.1, by omega, by go_num, rfl, HF.out, hx.alloc _⟩
          case measure => simp [intOf]; omega
    · obtain rfl : k = q.length := by omega
      have hf : ascB m.length lv (q.drop q.length) = true := by rw [List.drop_length]; rfl
      have he := devE_yes (HD.out.trans (Hh.out.trans hf))
      have HE := Lib.hid he
      clear hf he
      go_wp2_with fail
      go_ret
      exact ⟨ret_int HE.out.symm, hX⟩
set_option maxRecDepth 100000 in
set_option maxHeartbeats 3200000 in
theorem dCheck_1 (m : List Int) (q : List Dw)  (A : Option Addr) (c : Nat) (B : Option Addr) (d : Nat) (w : World) (hB : Sl w B q.length d (fD q)) (hs : sizeB (m.length : Int) = true)  :
    Calls Try.prog 34 #[.agg #[.slice A m.length c, .slice B q.length d, .int .i64 0, .bool true]] w fun e w' => e = .returned (.int .i64 (devE m q 0 true)) ∧ Ext w w' := by
  have hi : imgE (m.length : Int) = 0 := by simp [imgE, hs]
  have HD := Lib.hid (devB_asc (q := q) hs (left := 0) (by decide) (by decide) (down := true) (fun _ => rfl))
  have hq := hB.max
  unfold maxLen at hq
  have hqd := hB.le
  clear hs
  go_enter Try.func34, Try.ntmps34
  go_wp2_with fail
  refine (imageCheck_any _ _ _ _).mono ?_
  rintro e w' ⟨rfl, rfl⟩
  go_wp2_with fail
  go_loopw [4, 33] (fun v i wr => ∃ (k : Nat) (lv : Int), k ≤ q.length ∧ i = .int .i64 k ∧ v = .int .i64 lv ∧ ascB m.length (-1) q = ascB m.length lv (q.drop k) ∧ Ext (w.alloc (Obj.cells #[.slice A m.length c, .slice B q.length d, .int .i64 0, .bool true] 25)) wr) (fun _ i _ => q.length - (intOf i).toNat)
  case atStart => exact ⟨0, -1, Nat.zero_le _, rfl, rfl, rfl, Ext.refl _⟩
  case round =>
    obtain ⟨k, lv, hk, rfl, rfl, hh, hx⟩ := hrel
    have b0 : wr.cell? ⟨w.heap.size, 0, none⟩ = some (.slice A m.length c) := hx.cell (by simp [go_sem])
    have hX : Ext w wr := Ext.trans ((Ext.refl w).alloc _) hx
    have Hh := Lib.hid hh
    clear hh
    by_cases hlt : k < q.length
    · obtain ⟨ad, x, rfl, hat, g0, g1, g2⟩ := (hB.ext hX).d_at hlt
      have hstep := ascB_at (n := m.length) (lv := lv) hat
      have Hs := Lib.hid hstep
      have hb : w.heap.size < wr.heap.size := by have := hx.size; simp at this; omega
      clear hat hstep
      by_cases c1 : x.1 ≤ lv
      · have hf : ascB m.length lv (q.drop k) = false := by rw [Hs.out]; simp; omega
        have he := devE_no (HD.out.trans (Hh.out.trans hf))
        have HE := Lib.hid he
        clear hf he
        go_wp2_with fail
        go_ret
        exact ⟨ret_int HE.out.symm, hX.alloc _⟩
      · by_cases c2 : (m.length : Int) ≤ x.1
        · have hf : ascB m.length lv (q.drop k) = false := by rw [Hs.out]; simp; omega
          have he := devE_no (HD.out.trans (Hh.out.trans hf))
          have HE := Lib.hid he
          clear hf he
          go_wp2_with fail
          go_ret
          exact ⟨ret_int HE.out.symm, hX.alloc _⟩
        · have hf : ascB m.length lv (q.drop k) = ascB m.length x.1 (q.drop (k + 1)) := by
            rw [Hs.out, decide_eq_true (show lv < x.1 by omega), decide_eq_true (show x.1 < (m.length : Int) by omega)]; rfl
          have HF := Lib.hid (Hh.out.trans hf)
          clear hf
          go_wp2_with fail
          go_roundw
          case rel => exact ⟨k + 1, x.1, by omega, by go_num, rfl, HF.out, hx.alloc _⟩
          case measure => simp [intOf]; omega
    · obtain rfl : k = q.length := by omega
      have hf : ascB m.length lv (q.drop q.length) = true := by rw [List.drop_length]; rfl
      have he := devE_yes (HD.out.trans (Hh.out.trans hf))
      have HE := Lib.hid he
      clear hf he
      go_wp2_with fail
      go_ret
      exact ⟨ret_int HE.out.symm, hX⟩
set_option maxHeartbeats 3200000 in
theorem dCheck_any (m : List Int) (q : List Dw) (left : Int) (down : Bool) (A : Option Addr) (c : Nat) (B : Option Addr) (d : Nat) (w : World) (hB : Sl w B q.length d (fD q)) :
    Calls Try.prog 34 #[.agg #[.slice A m.length c, .slice B q.length d, .int .i64 left, .bool down]] w fun e w' => e = .returned (.int .i64 (devE m q left down)) ∧ Ext w w' := by
  cases hs : sizeB (m.length : Int) with
  | false =>
    have hi : imgE (m.length : Int) = 8 := by simp [imgE, hs]
    have hd := devE_no (m := m) (q := q) (left := left) (down := down) (by simp [devB, hs])
    rw [hd]
    clear hd hs
    go_enter Try.func34, Try.ntmps34
    go_wp2_with fail
    refine (imageCheck_any _ _ _ _).mono ?_
    rintro e w' ⟨rfl, rfl⟩
    go_wp2_with fail
    go_ret
    exact ⟨rfl, (by repeat (first | assumption | exact Ext.refl _ | refine Ext.drewN ?_ _ | refine Ext.drew ?_ | refine Ext.alloc ?_ _ | refine Ext.trans ?_ (by assumption)))⟩
  | true =>
    have hi : imgE (m.length : Int) = 0 := by simp [imgE, hs]
    by_cases h1 : left < -1
    · rw [devE_no (devB_f1 h1)]
      clear hs
      go_enter Try.func34, Try.ntmps34
      go_wp2_with fail
      refine (imageCheck_any _ _ _ _).mono ?_
      rintro e w' ⟨rfl, rfl⟩
      go_wp2_with fail
      go_ret
      exact ⟨rfl, (by repeat (first | assumption | exact Ext.refl _ | refine Ext.drewN ?_ _ | refine Ext.drew ?_ | refine Ext.alloc ?_ _ | refine Ext.trans ?_ (by assumption)))⟩
    · by_cases h2 : 1000000 < left
      · rw [devE_no (devB_f2 h2)]
        clear hs
        go_enter Try.func34, Try.ntmps34
        go_wp2_with fail
        refine (imageCheck_any _ _ _ _).mono ?_
        rintro e w' ⟨rfl, rfl⟩
        go_wp2_with fail
        go_ret
        exact ⟨rfl, (by repeat (first | assumption | exact Ext.refl _ | refine Ext.drewN ?_ _ | refine Ext.drew ?_ | refine Ext.alloc ?_ _ | refine Ext.trans ?_ (by assumption)))⟩
      · cases down with
        | false => exact dCheck_0 m q left A c B d w hB hs (by omega) (by omega)
        | true =>
          by_cases h3 : left = 0
          · subst h3
            exact dCheck_1 m q A c B d w hB hs
          · have hb : (left != 0) = true := by simpa using h3
            rw [devE_no (devB_f3 h3)]
            clear hs
            go_enter Try.func34, Try.ntmps34
            go_wp2_with fail
            refine (imageCheck_any _ _ _ _).mono ?_
            rintro e w' ⟨rfl, rfl⟩
            go_wp2_with fail
            go_ret
            exact ⟨rfl, (by repeat (first | assumption | exact Ext.refl _ | refine Ext.drewN ?_ _ | refine Ext.drew ?_ | refine Ext.alloc ?_ _ | refine Ext.trans ?_ (by assumption)))⟩
end Go.Proofs.Ytmmcbleoglgamaa
