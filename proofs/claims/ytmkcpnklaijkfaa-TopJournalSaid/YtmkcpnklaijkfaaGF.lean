/-
  Several texts in one: DCheck, DRefCk, DFind.
-/
import Derived.Test.YtmkcpnklaijkfaaGA
/-
  The contracts of the checks of devices.
-/
namespace Go.Proofs.Ytmkcpnklaijkfaa
open Go.RowKit
theorem ascB_at {n lv : Int} {q : List Dw} {k : Nat} {x : Dw} (h : q[k]? = some x) : ascB n lv (q.drop k) = (decide (lv < x.1) && decide (x.1 < n) && ascB n x.1 (q.drop (k + 1))) := by
  obtain ⟨hlt, rfl⟩ := List.getElem?_eq_some_iff.1 h
  rw [List.drop_eq_getElem_cons hlt]
  rfl
theorem devE_no {m : List Int} {q : List Dw} {left : Int} {down : Bool} (h : devB m q left down = false) : devE m q left down = 8 := by simp [devE, h]
theorem devE_yes {m : List Int} {q : List Dw} {left : Int} {down : Bool} (h : devB m q left down = true) : devE m q left down = 0 := by simp [devE, h]
/-- A device as a value. -/
abbrev vD (A : Option Addr) (m : List Int) (c : Nat) (B : Option Addr) (q : List Dw) (k : Nat) (left : Int) (down : Bool) : Value := .agg #[.slice A m.length c, .slice B q.length k, .int .i64 left, .bool down]
theorem devB_f1 {m : List Int} {q : List Dw} {left : Int} {down : Bool} (h : left < -1) : devB m q left down = false := by
  have : ¬ -1 ≤ left := by omega
  simp [devB, this]
theorem devB_f2 {m : List Int} {q : List Dw} {left : Int} {down : Bool} (h : 1000000 < left) : devB m q left down = false := by
  have : ¬ left ≤ 1000000 := by omega
  simp [devB, this]
theorem devB_f3 {m : List Int} {q : List Dw} {left : Int} (h : left ≠ 0) : devB m q left true = false := by
  simp [devB, h]
theorem devB_asc {m : List Int} {q : List Dw} {left : Int} {down : Bool} (hs : sizeB m.length = true) (h1 : -1 ≤ left) (h2 : left ≤ 1000000) (h3 : down = true → left = 0) : devB m q left down = ascB m.length (-1) q := by
  have a3 : (!down || decide (left = 0)) = true := by
    cases down
    · rfl
    · simp [h3 rfl]
  simp [devB, hs, h1, h2, a3]
set_option maxRecDepth 100000 in
set_option maxHeartbeats 3200000 in
theorem dCheck_0 (m : List Int) (q : List Dw) (left : Int) (A : Option Addr) (c : Nat) (B : Option Addr) (d : Nat) (w : World) (hB : Sl w B q.length d (fD q)) (hs : sizeB (m.length : Int) = true) (h1 : -1 ≤ left) (h2 : left ≤ 1000000) :
    Calls Try.prog 78 #[.agg #[.slice A m.length c, .slice B q.length d, .int .i64 left, .bool false]] w fun e w' => e = .returned (.int .i64 (devE m q left false)) ∧ Ext w w' := by
  have hi : imgE (m.length : Int) = 0 := by simp [imgE, hs]
  have HD := Lib.hid (devB_asc (q := q) hs h1 h2 (down := false) (fun h => by cases h))
  have hq := hB.max
  unfold maxLen at hq
  have hqd := hB.le
  clear hs
  go_enter Try.func78, Try.ntmps78
  go_wp2_with fail
  refine (imageCheck_any _ _ _ _).mono ?_
  rintro e w' ⟨rfl, rfl⟩
  go_wp2_with fail
  go_loopw [4, 33] (fun v i wr => ∃ (k : Nat) (lv : Int), k ≤ q.length ∧ i = .int .i64 k ∧ v = .int .i64 lv ∧ ascB m.length (-1) q = ascB m.length lv (q.drop k) ∧ Ext (w.alloc (Obj.cells #[.slice A m.length c, .slice B q.length d, .int .i64 left, .bool false] 46)) wr) (fun _ i _ => q.length - (intOf i).toNat)
  case atStart => exact ⟨0, -1, Nat.zero_le _, rfl, rfl, rfl, Ext.refl _⟩
  case round =>
    obtain ⟨k, lv, hk, rfl, rfl, hh, hx⟩ := hrel
    have b0 : wr.cell? ⟨w.heap.size, 0, none⟩ = some (.slice A m.length c) := hx.cell (by simp [go_sem])
    have hX : Ext w wr := Ext.trans ((Ext.refl w).alloc _) hx
    have Hh := Lib.hid hh
    clear hh
    by_cases hlt : k < q.length
    · obtain ⟨ad, x, rfl, hat, g0, g1, g2⟩ := (hB.ext hX).d_at hlt
      have hstep := ascB_at (n := m.length) (lv := lv) hat
      have Hs := Lib.hid hstep
      have hb : w.heap.size < wr.heap.size := by have := hx.size; simp at this; omega
      clear hat hstep
      by_cases c1 : x.1 ≤ lv
      · have hf : ascB m.length lv (q.drop k) = false := by rw [Hs.out]; simp; omega
        have he := devE_no (HD.out.trans (Hh.out.trans hf))
        have HE := Lib.hid he
        clear hf he
        go_wp2_with fail
        go_ret
        exact ⟨ret_int HE.out.symm, hX.alloc _⟩
      · by_cases c2 : (m.length : Int) ≤ x.1
        · have hf : ascB m.length lv (q.drop k) = false := by rw [Hs.out]; simp; omega
          have he := devE_no (HD.out.trans (Hh.out.trans hf))
          have HE := Lib.hid he
          clear hf he
          go_wp2_with fail
          go_ret
          exact ⟨ret_int HE.out.symm, hX.alloc _⟩
        · have hf : ascB m.length lv (q.drop k) = ascB m.length x.1 (q.drop (k + 1)) := by
            rw [Hs.out, decide_eq_true (show lv < x.1 by omega), decide_eq_true (show x.1 < (m.length : Int) by omega)]; rfl
          have HF := Lib.hid (Hh.out.trans hf)
          clear hf
          go_wp2_with fail
          go_roundw
          case rel => exact ⟨k + 1, x.1, by omega, by go_num, rfl, HF.out, hx.alloc _⟩
          case measure => simp [intOf]; omega
    · obtain rfl : k = q.length := by omega
      have hf : ascB m.length lv (q.drop q.length) = true := by rw [List.drop_length]; rfl
      have he := devE_yes (HD.out.trans (Hh.out.trans hf))
      have HE := Lib.hid he
      clear hf he
      go_wp2_with fail
      go_ret
      exact ⟨ret_int HE.out.symm, hX⟩
set_option maxRecDepth 100000 in
set_option maxHeartbeats 3200000 in
theorem dCheck_1 (m : List Int) (q : List Dw)  (A : Option Addr) (c : Nat) (B : Option Addr) (d : Nat) (w : World) (hB : Sl w B q.length d (fD q)) (hs : sizeB (m.length : Int) = true)  :
    Calls Try.prog 78 #[.agg #[.slice A m.length c, .slice B q.length d, .int .i64 0, .bool true]] w fun e w' => e = .returned (.int .i64 (devE m q 0 true)) ∧ Ext w w' := by
  have hi : imgE (m.length : Int) = 0 := by simp [imgE, hs]
  have HD := Lib.hid (devB_asc (q := q) hs (left := 0) (by decide) (by decide) (down := true) (fun _ => rfl))
  have hq := hB.max
  unfold maxLen at hq
  have hqd := hB.le
  clear hs
  go_enter Try.func78, Try.ntmps78
  go_wp2_with fail
  refine (imageCheck_any _ _ _ _).mono ?_
  rintro e w' ⟨rfl, rfl⟩
  go_wp2_with fail
  go_loopw [4, 33] (fun v i wr => ∃ (k : Nat) (lv : Int), k ≤ q.length ∧ i = .int .i64 k ∧ v = .int .i64 lv ∧ ascB m.length (-1) q = ascB m.length lv (q.drop k) ∧ Ext (w.alloc (Obj.cells #[.slice A m.length c, .slice B q.length d, .int .i64 0, .bool true] 46)) wr) (fun _ i _ => q.length - (intOf i).toNat)
  case atStart => exact ⟨0, -1, Nat.zero_le _, rfl, rfl, rfl, Ext.refl _⟩
  case round =>
    obtain ⟨k, lv, hk, rfl, rfl, hh, hx⟩ := hrel
    have b0 : wr.cell? ⟨w.heap.size, 0, none⟩ = some (.slice A m.length c) := hx.cell (by simp [go_sem])
    have hX : Ext w wr := Ext.trans ((Ext.refl w).alloc _) hx
    have Hh := Lib.hid hh
    clear hh
    by_cases hlt : k < q.length
    · obtain ⟨ad, x, rfl, hat, g0, g1, g2⟩ := (hB.ext hX).d_at hlt
      have hstep := ascB_at (n := m.length) (lv := lv) hat
      have Hs := Lib.hid hstep
      have hb : w.heap.size < wr.heap.size := by have := hx.size; simp at this; omega
      clear hat hstep
      by_cases c1 : x.1 ≤ lv
      · have hf : ascB m.length lv (q.drop k) = false := by rw [Hs.out]; simp; omega
        have he := devE_no (HD.out.trans (Hh.out.trans hf))
        have HE := Lib.hid he
        clear hf he
        go_wp2_with fail
        go_ret
        exact ⟨ret_int HE.out.symm, hX.alloc _⟩
      · by_cases c2 : (m.length : Int) ≤ x.1
        · have hf : ascB m.length lv (q.drop k) = false := by rw [Hs.out]; simp; omega
          have he := devE_no (HD.out.trans (Hh.out.trans hf))
          have HE := Lib.hid he
          clear hf he
          go_wp2_with fail
          go_ret
          exact ⟨ret_int HE.out.symm, hX.alloc _⟩
        · have hf : ascB m.length lv (q.drop k) = ascB m.length x.1 (q.drop (k + 1)) := by
            rw [Hs.out, decide_eq_true (show lv < x.1 by omega), decide_eq_true (show x.1 < (m.length : Int) by omega)]; rfl
          have HF := Lib.hid (Hh.out.trans hf)
          clear hf
          go_wp2_with fail
          go_roundw
          case rel => exact ⟨k + 1, x.1, by omega, by go_num, rfl, HF.out, hx.alloc _⟩
          case measure => simp [intOf]; omega
    · obtain rfl : k = q.length := by omega
      have hf : ascB m.length lv (q.drop q.length) = true := by rw [List.drop_length]; rfl
      have he := devE_yes (HD.out.trans (Hh.out.trans hf))
      have HE := Lib.hid he
      clear hf he
      go_wp2_with fail
      go_ret
      exact ⟨ret_int HE.out.symm, hX⟩
set_option maxHeartbeats 3200000 in
theorem dCheck_any (m : List Int) (q : List Dw) (left : Int) (down : Bool) (A : Option Addr) (c : Nat) (B : Option Addr) (d : Nat) (w : World) (hB : Sl w B q.length d (fD q)) :
    Calls Try.prog 78 #[.agg #[.slice A m.length c, .slice B q.length d, .int .i64 left, .bool down]] w fun e w' => e = .returned (.int .i64 (devE m q left down)) ∧ Ext w w' := by
  cases hs : sizeB (m.length : Int) with
  | false =>
    have hi : imgE (m.length : Int) = 8 := by simp [imgE, hs]
    have hd := devE_no (m := m) (q := q) (left := left) (down := down) (by simp [devB, hs])
    rw [hd]
    clear hd hs
    go_enter Try.func78, Try.ntmps78
    go_wp2_with fail
    refine (imageCheck_any _ _ _ _).mono ?_
    rintro e w' ⟨rfl, rfl⟩
    go_wp2_with fail
    go_ret
    exact ⟨rfl, (by repeat (first | assumption | exact Ext.refl _ | refine Ext.drewN ?_ _ | refine Ext.drew ?_ | refine Ext.alloc ?_ _ | refine Ext.trans ?_ (by assumption)))⟩
  | true =>
    have hi : imgE (m.length : Int) = 0 := by simp [imgE, hs]
    by_cases h1 : left < -1
    · rw [devE_no (devB_f1 h1)]
      clear hs
      go_enter Try.func78, Try.ntmps78
      go_wp2_with fail
      refine (imageCheck_any _ _ _ _).mono ?_
      rintro e w' ⟨rfl, rfl⟩
      go_wp2_with fail
      go_ret
      exact ⟨rfl, (by repeat (first | assumption | exact Ext.refl _ | refine Ext.drewN ?_ _ | refine Ext.drew ?_ | refine Ext.alloc ?_ _ | refine Ext.trans ?_ (by assumption)))⟩
    · by_cases h2 : 1000000 < left
      · rw [devE_no (devB_f2 h2)]
        clear hs
        go_enter Try.func78, Try.ntmps78
        go_wp2_with fail
        refine (imageCheck_any _ _ _ _).mono ?_
        rintro e w' ⟨rfl, rfl⟩
        go_wp2_with fail
        go_ret
        exact ⟨rfl, (by repeat (first | assumption | exact Ext.refl _ | refine Ext.drewN ?_ _ | refine Ext.drew ?_ | refine Ext.alloc ?_ _ | refine Ext.trans ?_ (by assumption)))⟩
      · cases down with
        | false => exact dCheck_0 m q left A c B d w hB hs (by omega) (by omega)
        | true =>
          by_cases h3 : left = 0
          · subst h3
            exact dCheck_1 m q A c B d w hB hs
          · have hb : (left != 0) = true := by simpa using h3
            rw [devE_no (devB_f3 h3)]
            clear hs
            go_enter Try.func78, Try.ntmps78
            go_wp2_with fail
            refine (imageCheck_any _ _ _ _).mono ?_
            rintro e w' ⟨rfl, rfl⟩
            go_wp2_with fail
            go_ret
            exact ⟨rfl, (by repeat (first | assumption | exact Ext.refl _ | refine Ext.drewN ?_ _ | refine Ext.drew ?_ | refine Ext.alloc ?_ _ | refine Ext.trans ?_ (by assumption)))⟩
end Go.Proofs.Ytmkcpnklaijkfaa
/-
  The contract of the reference's check of devices.
-/
namespace Go.Proofs.Ytmkcpnklaijkfaa
open Go.RowKit
set_option maxRecDepth 100000 in
set_option maxHeartbeats 3200000 in
theorem dRefCk_0 (m : List Int) (q : List Dw) (left : Int) (A : Option Addr) (c : Nat) (B : Option Addr) (d : Nat) (w : World) (hB : Sl w B q.length d (fD q)) (hs : sizeB (m.length : Int) = true) (h1 : -1 ≤ left) (h2 : left ≤ 1000000) :
    Calls Try.prog 58 #[.agg #[.slice A m.length c, .slice B q.length d, .int .i64 left, .bool false]] w fun e w' => e = .returned (.int .i64 (devE m q left false)) ∧ Ext w w' := by
  have hi : imgE (m.length : Int) = 0 := by simp [imgE, hs]
  have HD := Lib.hid (devB_asc (q := q) hs h1 h2 (down := false) (fun h => by cases h))
  have hq := hB.max
  unfold maxLen at hq
  have hqd := hB.le
  clear hs
  go_enter Try.func58, Try.ntmps58
  go_wp2_with fail
  refine (refCheck2_any _ _ _ _).mono ?_
  rintro e w' ⟨rfl, rfl⟩
  go_wp2_with fail
  go_loopw [3, 4] (fun v i wr => ∃ (k : Nat) (lv : Int), k ≤ q.length ∧ i = .int .i64 k ∧ v = .int .i64 lv ∧ ascB m.length (-1) q = ascB m.length lv (q.drop k) ∧ Ext (w.alloc (Obj.cells #[.slice A m.length c, .slice B q.length d, .int .i64 left, .bool false] 46)) wr) (fun _ i _ => q.length - (intOf i).toNat)
  case atStart => exact ⟨0, -1, Nat.zero_le _, rfl, rfl, rfl, Ext.refl _⟩
  case round =>
    obtain ⟨k, lv, hk, rfl, rfl, hh, hx⟩ := hrel
    have b0 : wr.cell? ⟨w.heap.size, 0, none⟩ = some (.slice A m.length c) := hx.cell (by simp [go_sem])
    have b1 : wr.cell? ⟨w.heap.size, 1, none⟩ = some (.slice B q.length d) := hx.cell (by simp [go_sem])
    have hX : Ext w wr := Ext.trans ((Ext.refl w).alloc _) hx
    have Hh := Lib.hid hh
    clear hh
    by_cases hlt : k < q.length
    · obtain ⟨ad, x, rfl, hat, g0, g1, g2⟩ := (hB.ext hX).d_at hlt
      have hstep := ascB_at (n := m.length) (lv := lv) hat
      have Hs := Lib.hid hstep
      have hb : w.heap.size < wr.heap.size := by have := hx.size; simp at this; omega
      have i0 : (0 : Int) ≤ k := by omega
      have i1 : (k : Int) < q.length := by omega
      clear hat hstep
      by_cases c1 : x.1 ≤ lv
      · have hf : ascB m.length lv (q.drop k) = false := by rw [Hs.out]; simp; omega
        have he := devE_no (HD.out.trans (Hh.out.trans hf))
        have HE := Lib.hid he
        have c1' : decide (x.1 ≤ lv) = true := decide_eq_true c1
        clear hf he
        go_wp2_with fail
        go_quiet (fail)
        go_wp2_with fail
        go_ret
        exact ⟨ret_int HE.out.symm, (by repeat (first | assumption | exact Ext.refl _ | refine Ext.drewN ?_ _ | refine Ext.drew ?_ | refine Ext.alloc ?_ _ | refine Ext.trans ?_ (by assumption)))⟩
      · have c1' : decide (x.1 ≤ lv) = false := decide_eq_false c1
        by_cases c2 : (m.length : Int) ≤ x.1
        · have hf : ascB m.length lv (q.drop k) = false := by rw [Hs.out]; simp; omega
          have he := devE_no (HD.out.trans (Hh.out.trans hf))
          have HE := Lib.hid he
          have c2' : decide ((m.length : Int) ≤ x.1) = true := decide_eq_true c2
          clear hf he
          go_wp2_with fail
          go_quiet (fail)
          go_wp2_with fail
          go_ret
          exact ⟨ret_int HE.out.symm, (by repeat (first | assumption | exact Ext.refl _ | refine Ext.drewN ?_ _ | refine Ext.drew ?_ | refine Ext.alloc ?_ _ | refine Ext.trans ?_ (by assumption)))⟩
        · have hf : ascB m.length lv (q.drop k) = ascB m.length x.1 (q.drop (k + 1)) := by
            rw [Hs.out, decide_eq_true (show lv < x.1 by omega), decide_eq_true (show x.1 < (m.length : Int) by omega)]; rfl
          have HF := Lib.hid (Hh.out.trans hf)
          have c2' : decide ((m.length : Int) ≤ x.1) = false := decide_eq_false c2
          clear hf
          go_wp2_with fail
          go_quiet (fail)
          go_wp2_with fail
          go_roundw
          case rel => exact ⟨k + 1, x.1, by omega, by go_num, rfl, HF.out, hx.drewN _⟩
          case measure => simp [intOf]; omega
    · obtain rfl : k = q.length := by omega
      have hf : ascB m.length lv (q.drop q.length) = true := by rw [List.drop_length]; rfl
      have he := devE_yes (HD.out.trans (Hh.out.trans hf))
      have HE := Lib.hid he
      clear hf he
      go_wp2_with fail
      go_ret
      exact ⟨ret_int HE.out.symm, hX⟩
set_option maxRecDepth 100000 in
set_option maxHeartbeats 3200000 in
theorem dRefCk_1 (m : List Int) (q : List Dw)  (A : Option Addr) (c : Nat) (B : Option Addr) (d : Nat) (w : World) (hB : Sl w B q.length d (fD q)) (hs : sizeB (m.length : Int) = true)  :
    Calls Try.prog 58 #[.agg #[.slice A m.length c, .slice B q.length d, .int .i64 0, .bool true]] w fun e w' => e = .returned (.int .i64 (devE m q 0 true)) ∧ Ext w w' := by
  have hi : imgE (m.length : Int) = 0 := by simp [imgE, hs]
  have HD := Lib.hid (devB_asc (q := q) hs (left := 0) (by decide) (by decide) (down := true) (fun _ => rfl))
  have hq := hB.max
  unfold maxLen at hq
  have hqd := hB.le
  clear hs
  go_enter Try.func58, Try.ntmps58
  go_wp2_with fail
  refine (refCheck2_any _ _ _ _).mono ?_
  rintro e w' ⟨rfl, rfl⟩
  go_wp2_with fail
  go_loopw [3, 4] (fun v i wr => ∃ (k : Nat) (lv : Int), k ≤ q.length ∧ i = .int .i64 k ∧ v = .int .i64 lv ∧ ascB m.length (-1) q = ascB m.length lv (q.drop k) ∧ Ext (w.alloc (Obj.cells #[.slice A m.length c, .slice B q.length d, .int .i64 0, .bool true] 46)) wr) (fun _ i _ => q.length - (intOf i).toNat)
  case atStart => exact ⟨0, -1, Nat.zero_le _, rfl, rfl, rfl, Ext.refl _⟩
  case round =>
    obtain ⟨k, lv, hk, rfl, rfl, hh, hx⟩ := hrel
    have b0 : wr.cell? ⟨w.heap.size, 0, none⟩ = some (.slice A m.length c) := hx.cell (by simp [go_sem])
    have b1 : wr.cell? ⟨w.heap.size, 1, none⟩ = some (.slice B q.length d) := hx.cell (by simp [go_sem])
    have hX : Ext w wr := Ext.trans ((Ext.refl w).alloc _) hx
    have Hh := Lib.hid hh
    clear hh
    by_cases hlt : k < q.length
    · obtain ⟨ad, x, rfl, hat, g0, g1, g2⟩ := (hB.ext hX).d_at hlt
      have hstep := ascB_at (n := m.length) (lv := lv) hat
      have Hs := Lib.hid hstep
      have hb : w.heap.size < wr.heap.size := by have := hx.size; simp at this; omega
      have i0 : (0 : Int) ≤ k := by omega
      have i1 : (k : Int) < q.length := by omega
      clear hat hstep
      by_cases c1 : x.1 ≤ lv
      · have hf : ascB m.length lv (q.drop k) = false := by rw [Hs.out]; simp; omega
        have he := devE_no (HD.out.trans (Hh.out.trans hf))
        have HE := Lib.hid he
        have c1' : decide (x.1 ≤ lv) = true := decide_eq_true c1
        clear hf he
        go_wp2_with fail
        go_quiet (fail)
        go_wp2_with fail
        go_ret
        exact ⟨ret_int HE.out.symm, (by repeat (first | assumption | exact Ext.refl _ | refine Ext.drewN ?_ _ | refine Ext.drew ?_ | refine Ext.alloc ?_ _ | refine Ext.trans ?_ (by assumption)))⟩
      · have c1' : decide (x.1 ≤ lv) = false := decide_eq_false c1
        by_cases c2 : (m.length : Int) ≤ x.1
        · have hf : ascB m.length lv (q.drop k) = false := by rw [Hs.out]; simp; omega
          have he := devE_no (HD.out.trans (Hh.out.trans hf))
          have HE := Lib.hid he
          have c2' : decide ((m.length : Int) ≤ x.1) = true := decide_eq_true c2
          clear hf he
          go_wp2_with fail
          go_quiet (fail)
          go_wp2_with fail
          go_ret
          exact ⟨ret_int HE.out.symm, (by repeat (first | assumption | exact Ext.refl _ | refine Ext.drewN ?_ _ | refine Ext.drew ?_ | refine Ext.alloc ?_ _ | refine Ext.trans ?_ (by assumption)))⟩
        · have hf : ascB m.length lv (q.drop k) = ascB m.length x.1 (q.drop (k + 1)) := by
            rw [Hs.out, decide_eq_true (show lv < x.1 by omega), decide_eq_true (show x.1 < (m.length : Int) by omega)]; rfl
          have HF := Lib.hid (Hh.out.trans hf)
          have c2' : decide ((m.length : Int) ≤ x.1) = false := decide_eq_false c2
          clear hf
          go_wp2_with fail
          go_quiet (fail)
          go_wp2_with fail
          go_roundw
          case rel => exact ⟨k + 1, x.1, by omega, by go_num, rfl, HF.out, hx.drewN _⟩
          case measure => simp [intOf]; omega
    · obtain rfl : k = q.length := by omega
      have hf : ascB m.length lv (q.drop q.length) = true := by rw [List.drop_length]; rfl
      have he := devE_yes (HD.out.trans (Hh.out.trans hf))
      have HE := Lib.hid he
      clear hf he
      go_wp2_with fail
      go_ret
      exact ⟨ret_int HE.out.symm, hX⟩
set_option maxHeartbeats 3200000 in
theorem dRefCk_any (m : List Int) (q : List Dw) (left : Int) (down : Bool) (A : Option Addr) (c : Nat) (B : Option Addr) (d : Nat) (w : World) (hB : Sl w B q.length d (fD q)) :
    Calls Try.prog 58 #[.agg #[.slice A m.length c, .slice B q.length d, .int .i64 left, .bool down]] w fun e w' => e = .returned (.int .i64 (devE m q left down)) ∧ Ext w w' := by
  cases hs : sizeB (m.length : Int) with
  | false =>
    have hi : imgE (m.length : Int) = 8 := by simp [imgE, hs]
    have hd := devE_no (m := m) (q := q) (left := left) (down := down) (by simp [devB, hs])
    rw [hd]
    clear hd hs
    go_enter Try.func58, Try.ntmps58
    go_wp2_with fail
    refine (refCheck2_any _ _ _ _).mono ?_
    rintro e w' ⟨rfl, rfl⟩
    go_wp2_with fail
    go_ret
    exact ⟨rfl, (by repeat (first | assumption | exact Ext.refl _ | refine Ext.drewN ?_ _ | refine Ext.drew ?_ | refine Ext.alloc ?_ _ | refine Ext.trans ?_ (by assumption)))⟩
  | true =>
    have hi : imgE (m.length : Int) = 0 := by simp [imgE, hs]
    by_cases h1 : left < -1
    · rw [devE_no (devB_f1 h1)]
      clear hs
      go_enter Try.func58, Try.ntmps58
      go_wp2_with fail
      refine (refCheck2_any _ _ _ _).mono ?_
      rintro e w' ⟨rfl, rfl⟩
      go_wp2_with fail
      go_ret
      exact ⟨rfl, (by repeat (first | assumption | exact Ext.refl _ | refine Ext.drewN ?_ _ | refine Ext.drew ?_ | refine Ext.alloc ?_ _ | refine Ext.trans ?_ (by assumption)))⟩
    · by_cases h2 : 1000000 < left
      · rw [devE_no (devB_f2 h2)]
        clear hs
        go_enter Try.func58, Try.ntmps58
        go_wp2_with fail
        refine (refCheck2_any _ _ _ _).mono ?_
        rintro e w' ⟨rfl, rfl⟩
        go_wp2_with fail
        go_ret
        exact ⟨rfl, (by repeat (first | assumption | exact Ext.refl _ | refine Ext.drewN ?_ _ | refine Ext.drew ?_ | refine Ext.alloc ?_ _ | refine Ext.trans ?_ (by assumption)))⟩
      · cases down with
        | false => exact dRefCk_0 m q left A c B d w hB hs (by omega) (by omega)
        | true =>
          by_cases h3 : left = 0
          · subst h3
            exact dRefCk_1 m q A c B d w hB hs
          · have hb : (left != 0) = true := by simpa using h3
            rw [devE_no (devB_f3 h3)]
            clear hs
            go_enter Try.func58, Try.ntmps58
            go_wp2_with fail
            refine (refCheck2_any _ _ _ _).mono ?_
            rintro e w' ⟨rfl, rfl⟩
            go_wp2_with fail
            go_ret
            exact ⟨rfl, (by repeat (first | assumption | exact Ext.refl _ | refine Ext.drewN ?_ _ | refine Ext.drew ?_ | refine Ext.alloc ?_ _ | refine Ext.trans ?_ (by assumption)))⟩
end Go.Proofs.Ytmkcpnklaijkfaa
/-
  The contracts of where an address is among the dirty words.
-/
namespace Go.Proofs.Ytmkcpnklaijkfaa
open Go.RowKit
theorem box4 {w w1 : World} {T : TypeId} {v0 v1 v2 v3 : Value} (hx : Ext (w.alloc (Obj.cells #[v0, v1, v2, v3] T)) w1) :
    w1.cell? ⟨w.heap.size, 0, none⟩ = some v0 ∧ w1.cell? ⟨w.heap.size, 1, none⟩ = some v1 ∧ w1.cell? ⟨w.heap.size, 2, none⟩ = some v2 ∧ w1.cell? ⟨w.heap.size, 3, none⟩ = some v3 ∧ w.heap.size < w1.heap.size ∧ Ext w w1 :=
  ⟨hx.cell (by simp [go_sem]), hx.cell (by simp [go_sem]), hx.cell (by simp [go_sem]), hx.cell (by simp [go_sem]), by have := hx.size; simp at this; omega, Ext.trans ((Ext.refl w).alloc _) hx⟩
theorem box4f {w w1 : World} {T : TypeId} {v0 v1 v2 v3 : Value} (hx : Ext (w.alloc (Obj.cells #[v0, v1, v2, v3] T)) w1) (o : Nat) : w1.frozen? ⟨w.heap.size, o, none⟩ = false := by
  rw [hx.bcell.2 _ _ (by simp)]
  simp [go_sem]
set_option maxHeartbeats 800000 in
theorem dAsk_any (m : List Int) (q : List Dw) (left : Int) (down : Bool) (a : Int) (A : Option Addr) (c : Nat) (B : Option Addr) (d : Nat) (w : World) (hB : Sl w B q.length d (fD q)) :
    Calls Try.prog 115 #[.agg #[.slice A m.length c, .slice B q.length d, .int .i64 left, .bool down], .int .i64 a] w fun e w' => e = .returned (.int .i64 (askE m q left down a)) ∧ Ext w w' := by
  cases hd : devB m q left down with
  | false =>
    have he := devE_no hd
    have ha : askE m q left down a = 8 := by simp [askE, hd]
    rw [ha]
    have HE := Lib.hid he
    clear ha he hd
    go_enter Try.func115, Try.ntmps115
    go_wp2_with fail
    refine (dCheck_any m q left down A c B d _ (hB.alloc _)).mono ?_
    rintro e w1 ⟨rfl, hx⟩
    rw [HE.out]
    go_wp2_with fail
    go_ret
    exact ⟨rfl, (by repeat (first | assumption | exact Ext.refl _ | refine Ext.drewN ?_ _ | refine Ext.drew ?_ | refine Ext.alloc ?_ _ | refine Ext.trans ?_ (by assumption)))⟩
  | true =>
    have he := devE_yes hd
    have HE := Lib.hid he
    by_cases h1 : a < 0
    · have ha : askE m q left down a = 2 := by simp [askE, hd, h1]
      rw [ha]
      clear ha he hd
      go_enter Try.func115, Try.ntmps115
      go_wp2_with fail
      refine (dCheck_any m q left down A c B d _ (hB.alloc _)).mono ?_
      rintro e w1 ⟨rfl, hx⟩
      rw [HE.out]
      obtain ⟨b0, b1, b2, b3, bs, hX⟩ := box4 hx
      go_wp2_with fail
      go_ret
      exact ⟨rfl, hX⟩
    · by_cases h2 : (m.length : Int) ≤ a
      · have ha : askE m q left down a = 2 := by simp [askE, hd, h2]
        rw [ha]
        clear ha he hd
        go_enter Try.func115, Try.ntmps115
        go_wp2_with fail
        refine (dCheck_any m q left down A c B d _ (hB.alloc _)).mono ?_
        rintro e w1 ⟨rfl, hx⟩
        rw [HE.out]
        obtain ⟨b0, b1, b2, b3, bs, hX⟩ := box4 hx
        go_wp2_with fail
        go_ret
        exact ⟨rfl, hX⟩
      · have ha : askE m q left down a = 0 := by simp [askE, hd, h1, h2]
        rw [ha]
        clear ha he hd
        go_enter Try.func115, Try.ntmps115
        go_wp2_with fail
        refine (dCheck_any m q left down A c B d _ (hB.alloc _)).mono ?_
        rintro e w1 ⟨rfl, hx⟩
        rw [HE.out]
        obtain ⟨b0, b1, b2, b3, bs, hX⟩ := box4 hx
        go_wp2_with fail
        go_ret
        exact ⟨rfl, hX⟩
/-- The comparison of two numbers. -/
def cmpI (a b : Int) : Int := if a < b then -1 else if b < a then 1 else 0
theorem cmpI_lt {a b : Int} : cmpI a b < 0 ↔ a < b := by unfold cmpI; (repeat' split) <;> omega
theorem cmpI_eq {a b : Int} : cmpI a b = 0 ↔ a = b := by unfold cmpI; (repeat' split) <;> omega
theorem cmp_any (a b : Int) (w : World) :
    Calls Try.prog 133 #[.int .i64 a, .int .i64 b] w fun e w' => e = .returned (.int .i64 (cmpI a b)) ∧ w = w' := by
  go_enter Try.func133, Try.ntmps133
  go_wp2
  all_goals go_ret
  all_goals refine ⟨ret_int ?_, rfl⟩
  all_goals unfold cmpI
  all_goals simp_all
  all_goals omega
theorem findF_any (a x v : Int) (f : Bool) (w : World) :
    Calls Try.prog 132 #[.agg #[.int .i64 x, .int .u64 v, .bool f], .int .i64 a] w fun e w' => e = .returned (.int .i64 (cmpI x a)) ∧ Ext w w' := by
  go_enter Try.func132, Try.ntmps132
  go_wp2_with fail
  refine (cmp_any _ _ _).mono ?_
  rintro e w1 ⟨rfl, rfl⟩
  go_wp2_with fail
  go_ret
  exact ⟨rfl, (by repeat (first | assumption | exact Ext.refl _ | refine Ext.drewN ?_ _ | refine Ext.drew ?_ | refine Ext.alloc ?_ _ | refine Ext.trans ?_ (by assumption)))⟩
set_option maxHeartbeats 3200000 in
theorem bsf_any (n : Int) (q : List Dw) (a : Int) (A : Option Addr) (c : Nat) (w : World) (hA : Sl w A q.length c (fD q)) (hq : ascB n (-1) q = true) (hl : q.length ≤ 100000) :
    Calls Try.prog 131 #[.slice A q.length c, .int .i64 a, .func (Fn.func 132) #[] #[]] w fun e w' => e = .returned (.tuple #[.int .i64 (cntLt a q), .bool (fndD a q)]) ∧ Ext w w' := by
  have hlm := hA.max
  unfold maxLen at hlm
  have hlc := hA.le
  have hcl := cntLt_le a q
  have HQ := Lib.hid hq
  clear hq
  go_enter Try.func131, Try.ntmps131
  go_wp2_with fail
  go_loopw [9, 10] (fun u v wr => ∃ i j : Nat, i ≤ cntLt a q ∧ cntLt a q ≤ j ∧ j ≤ q.length ∧ u = .int .i64 i ∧ v = .int .i64 j ∧ Ext w wr) (fun u v _ => (intOf v).toNat - (intOf u).toNat)
  case atStart => exact ⟨0, q.length, Nat.zero_le _, hcl, Nat.le_refl _, rfl, rfl, Ext.refl w⟩
  case round =>
    obtain ⟨i, j, h1, h2, h3, rfl, rfl, hx⟩ := hrel
    by_cases hij : i < j
    · obtain ⟨h, hh⟩ : ∃ h, (i + j) / 2 = h := ⟨_, rfl⟩
      have hb1 : i ≤ h := by omega
      have hb2 : h < j := by omega
      obtain ⟨ad, x, rfl, hat, g0, g1, g2⟩ := (hA.ext hx).d_at (k := h) (by omega)
      have hiff := cntLt_iff (a := a) HQ.out hat
      have he : ((i : Int) + (j : Int)) / 2 = (h : Int) := by omega
      have i0 : (h : Int) < q.length := by omega
      have w1 : IntKind.i64.wrap ((i : Int) + (j : Int)) = (i : Int) + (j : Int) := by simp [IntKind.wrap, IntKind.bits, IntKind.signed]; omega
      have w2 : IntKind.u64.wrap ((i : Int) + (j : Int)) = (i : Int) + (j : Int) := by simp [IntKind.wrap, IntKind.bits, IntKind.signed]; omega
      have w3 : IntKind.i64.wrap (h : Int) = (h : Int) := by simp [IntKind.wrap, IntKind.bits, IntKind.signed]; omega
      have HI := Lib.hid (And.intro hat hiff)
      clear hh hat hiff
      by_cases hc : x.1 < a
      · have hcm : decide (cmpI x.1 a < 0) = true := decide_eq_true (cmpI_lt.2 hc)
        have hlt := HI.out.2.1 hc
        go_wp2_with fail
        refine (findF_any a x.1 x.2.1 x.2.2 _).mono ?_
        rintro e w1 ⟨rfl, hx1⟩
        go_wp2_with fail
        go_roundw
        case rel => exact ⟨h + 1, j, by omega, by omega, by omega, by go_num, rfl, hx.trans hx1⟩
        case measure => simp [intOf]; omega
      · have hcm : decide (cmpI x.1 a < 0) = false := decide_eq_false (fun h => hc (cmpI_lt.1 h))
        have hlt : ¬ h < cntLt a q := fun h => hc (HI.out.2.2 h)
        go_wp2_with fail
        refine (findF_any a x.1 x.2.1 x.2.2 _).mono ?_
        rintro e w1 ⟨rfl, hx1⟩
        go_wp2_with fail
        go_roundw
        case rel => exact ⟨i, h, by omega, by omega, by omega, rfl, rfl, hx.trans hx1⟩
        case measure => simp [intOf]; omega
    · obtain rfl : i = j := by omega
      have hi : i = cntLt a q := by omega
      subst hi
      by_cases hn : cntLt a q < q.length
      · obtain ⟨ad, x, rfl, hat, g0, g1, g2⟩ := (hA.ext hx).d_at (k := cntLt a q) hn
        have hf : fndD a q = decide (x.1 = a) := by
          cases hf : fndD a q with
          | true =>
            obtain ⟨y, h1, h2⟩ := fnd_at hf
            rw [hat] at h1; injection h1 with h1; subst h1
            exact (decide_eq_true h2).symm
          | false => exact (decide_eq_false (fnd_not hf hat)).symm
        have hcm : (cmpI x.1 a == 0) = decide (x.1 = a) := by
          rw [Bool.eq_iff_iff]; simp [cmpI_eq]
        have hi2 : (cntLt a q : Int) < q.length := by omega
        obtain ⟨t, ht⟩ : ∃ t, cntLt a q = t := ⟨_, rfl⟩
        rw [ht] at g0 g1 g2 hi2 ⊢
        have HF := Lib.hid (And.intro hf (And.intro hcm ht))
        clear hat hf hcm ht
        go_wp2_with fail
        refine (findF_any a x.1 x.2.1 x.2.2 _).mono ?_
        rintro e w1 ⟨rfl, hx1⟩
        go_wp2_with fail
        go_ret2
        rw [HF.out.1, HF.out.2.1, HF.out.2.2]
        exact ⟨rfl, hx.trans hx1⟩
      · have hf : fndD a q = false := by
          cases hf : fndD a q with
          | true =>
            obtain ⟨y, h1, h2⟩ := fnd_at hf
            exact absurd (List.getElem?_eq_some_iff.1 h1).1 hn
          | false => rfl
        have hi2 : ¬ (cntLt a q : Int) < q.length := by omega
        have HF := Lib.hid hf
        obtain ⟨t, ht⟩ : ∃ t, cntLt a q = t := ⟨_, rfl⟩
        rw [ht] at hi2 ⊢
        have HT := Lib.hid ht
        clear hf ht
        go_wp2_with fail
        go_ret2
        rw [HF.out, HT.out]
        exact ⟨rfl, hx⟩
theorem dFind_any (m : List Int) (q : List Dw) (left : Int) (down : Bool) (a : Int) (A : Option Addr) (c : Nat) (B : Option Addr) (d : Nat) (w : World) (hB : Sl w B q.length d (fD q)) (hq : ascB m.length (-1) q = true) (hl : q.length ≤ 100000) :
    Calls Try.prog 117 #[.agg #[.slice A m.length c, .slice B q.length d, .int .i64 left, .bool down], .int .i64 a] w fun e w' => e = .returned (.tuple #[.int .i64 (cntLt a q), .bool (fndD a q)]) ∧ Ext w w' := by
  go_enter Try.func117, Try.ntmps117
  go_wp2_with fail
  refine (bsf_any _ q a B d _ (hB.alloc _) hq hl).mono ?_
  rintro e w1 ⟨rfl, hx⟩
  go_wp2_with fail
  go_ret2
  exact ⟨rfl, (by repeat (first | assumption | exact Ext.refl _ | refine Ext.drewN ?_ _ | refine Ext.drew ?_ | refine Ext.alloc ?_ _ | refine Ext.trans ?_ (by assumption)))⟩
end Go.Proofs.Ytmkcpnklaijkfaa
