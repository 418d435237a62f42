/-
  The contract of replay.Put, with its errors.
-/
import Derived.Test.YtmkcpnklaijkfaaPut2
namespace Go.Proofs.Ytmkcpnklaijkfaa
open Go.RowKit
theorem inrB_take {l : List (Int × Int)} {n : Int} {k : Nat} {x : Int × Int} (h : l[k]? = some x) (hk : inrB (l.take k) n = true) (hx : 0 ≤ x.1 ∧ x.1 < n) : inrB (l.take (k + 1)) n = true := by
  rw [List.take_add_one, h]
  rw [inrB_iff] at hk ⊢
  intro e he
  rcases List.mem_append.1 he with he | he
  · exact hk e he
  · simp at he; subst he; exact hx
set_option maxRecDepth 100000 in
set_option maxHeartbeats 6400000 in
theorem put_bad (m : List Int) (q : List Dw) (left : Int) (down : Bool) (l : List (Int × Int)) (A : Option Addr) (c : Nat) (B : Option Addr) (d : Nat) (E : Option Addr) (f : Nat) (w : World) (hA : Sl w A m.length c (fU m)) (hB : Sl w B q.length d (fD q)) (hE : Sl w E l.length f (fE l)) (hp : putE m q left down l ≠ 0) :
    Calls Try.prog 56 #[.agg #[.slice A m.length c, .slice B q.length d, .int .i64 left, .bool down], .slice E l.length f] w (RetV w zeroV (putE m q left down l)) := by
  have hbx := (DV.new w m q left down A c B d 46 hA hB).ext ((Ext.refl _).alloc (Obj.cells #[.slice none 0 0, .slice none 0 0, .int .i64 0, .bool false] 46))
  have hrx : Box4 ((w.alloc (Obj.cells #[.slice A m.length c, .slice B q.length d, .int .i64 left, .bool down] 46)).alloc (Obj.cells #[.slice none 0 0, .slice none 0 0, .int .i64 0, .bool false] 46)) (w.heap.size + 1) (.slice none 0 0) (.slice none 0 0) (.int .i64 0) (.bool false) := Box4.new' _ _ (by simp) _ _ _ _ _
  obtain ⟨ee, hee⟩ : ∃ x, devE m q left down = x := ⟨_, rfl⟩
  have HEE := Lib.hid hee
  have hc0 : ∀ W : World, Sl W B q.length d (fD q) → Calls Try.prog 78 #[.agg #[.slice A m.length c, .slice B q.length d, .int .i64 left, .bool down]] W fun e w' => e = .returned (.int .i64 ee) ∧ Ext W w' := fun W hb => by rw [← hee]; exact dCheck_any m q left down A c B d W hb
  have HC0 := Lib.hid hc0
  have hlm := hE.max
  have hle := hE.le
  unfold maxLen at hlm
  clear hee hc0
  by_cases hd : devB m q left down = true
  · have he0 : ee = 0 := by rw [← HEE.out]; exact devE_yes hd
    subst he0
    by_cases h64 : 64 < l.length
    · have hv : putE m q left down l = 4 := by simp [putE, hd, h64]
      have HV := Lib.hid hv
      have h64b : decide ((64 : Int) < (l.length : Int)) = true := decide_eq_true (by omega)
      clear hd hp hv h64
      go_enter Try.func56, Try.ntmps56
      go_wp2_with fail
      refine (HC0.out _ ((hB.alloc _).alloc _)).mono ?_
      rintro e w1 ⟨rfl, hx1⟩
      have hX1 : Ext w w1 := Ext.trans (((Ext.refl w).alloc _).alloc _) hx1
      obtain ⟨r0, r1, r2, r3, rf, rl⟩ := (hrx.ext hx1).alloc (Obj.cells #[.int .i64 0] 30)
      clear hbx hrx
      go_wp2_with fail
      refine bodyPost_ret (v := .tuple #[.agg #[.slice none 0 0, .slice none 0 0, .int .i64 0, .bool false], .int .i64 4]) (by simp [results, Try.results56, go_sem, r0, r1, r2, r3]) rfl ?_
      rw [HV.out]
      first | exact retV_zero (set4_ext (hX1.alloc _) (Nat.le_succ _) _ _ _ _) | exact retV_zero ((set4_ext hX1 (Nat.le_succ _) _ _ _ _).alloc _)
    · have hi : inrB l m.length = false := by
        cases hi : inrB l m.length with
        | false => rfl
        | true => exact absurd (by simp [putE, hd, h64, hi]) hp
      have hv : putE m q left down l = 2 := by simp [putE, hd, h64, hi]
      have HV := Lib.hid (And.intro hv hi)
      have h64b : decide ((64 : Int) < (l.length : Int)) = false := decide_eq_false (by omega)
      have hsz := sizeB_bd (devB_bd hd).1
      clear hd hp hv hi
      go_enter Try.func56, Try.ntmps56
      go_wp2_with fail
      refine (HC0.out _ ((hB.alloc _).alloc _)).mono ?_
      rintro e w1 ⟨rfl, hx1⟩
      have hX1 : Ext w w1 := Ext.trans (((Ext.refl w).alloc _).alloc _) hx1
      have hR := Lib.hid (And.intro ((hbx.ext hx1).ext ((Ext.refl _).alloc (Obj.cells #[.int .i64 0] 30))) (And.intro ((hrx.ext hx1).alloc (Obj.cells #[.int .i64 0] 30)) (hX1.alloc (Obj.cells #[.int .i64 0] 30))))
      have hcl : (w1.alloc (Obj.cells #[.int .i64 0] 30)).cell? ⟨w1.heap.size, 0, none⟩ = some (.int .i64 0) := by simp [go_sem]
      clear hbx hrx hx1 hX1 hA hB
      go_upto_region 6 with fail
      obtain ⟨W2, hW2⟩ : ∃ W, W = w1.alloc (Obj.cells #[.int .i64 0] 30) := ⟨_, rfl⟩
      rw [← hW2] at hR hcl ⊢
      obtain ⟨ge, hge⟩ : ∃ g, w1.heap.size = g := ⟨_, rfl⟩
      rw [hge] at hcl ⊢
      clear hW2 hge
      go_wp2_with fail
      go_loopw [26] (fun i wr => ∃ k : Nat, k ≤ l.length ∧ i = .int .i64 k ∧ Ext W2 wr ∧ Hid (inrB (l.take k) m.length = true)) (fun i _ => l.length - (intOf i).toNat)
      case atStart => exact ⟨0, Nat.zero_le _, rfl, Ext.refl _, Lib.hid rfl⟩
      case round =>
        clear hcl
        obtain ⟨k, hk, rfl, hxk, hI⟩ := hrel
        by_cases hlt : k < l.length
        · obtain ⟨A1, c1, B1, d1, ⟨b0, b1, b2, b3, bf, bl⟩, -, -⟩ := hR.out.1.ext hxk
          obtain ⟨ad, x, rfl, hat, g0, g1⟩ := (hE.ext (hR.out.2.2.trans hxk)).e_at (k := k) hlt
          have HAT := Lib.hid hat
          clear hat
          by_cases hx : 0 ≤ x.1 ∧ x.1 < m.length
          · obtain ⟨x0, x1⟩ := hx
            have HX := Lib.hid (And.intro x0 x1)
            go_wp2_with fail
            go_roundw
            case rel => exact ⟨k + 1, by omega, by go_num, hxk.alloc _, Lib.hid (inrB_take HAT.out hI.out HX.out)⟩
            case measure => simp [intOf]; omega
          · obtain ⟨r0, r1, r2, r3, rf, rl⟩ := (hR.out.2.1.ext hxk).alloc (Obj.cells #[.int .i64 x.1, .int .u64 x.2] 38)
            have hXk := (hR.out.2.2.trans hxk).alloc (Obj.cells #[.int .i64 x.1, .int .u64 x.2] 38)
            by_cases x0 : x.1 < 0
            all_goals
              have x0' : decide (x.1 < 0) = decide (x.1 < 0) := rfl
              have x1 : x.1 < 0 ∨ (m.length : Int) ≤ x.1 := by omega
              clear hx x0'
              (try (have x2 : (m.length : Int) ≤ x.1 := by omega))
              clear x1
              go_wp2_with fail
              refine bodyPost_ret (v := .tuple #[.agg #[.slice none 0 0, .slice none 0 0, .int .i64 0, .bool false], .int .i64 2]) (by simp [results, Try.results56, go_sem, r0, r1, r2, r3]) rfl ?_
              rw [HV.out.1]
              first | exact retV_zero (set4_ext hXk (Nat.le_succ _) _ _ _ _) | exact retV_zero ((set4_ext (hR.out.2.2.trans hxk) (Nat.le_succ _) _ _ _ _).alloc _)
        · exfalso
          have := hI.out
          rw [List.take_of_length_le (by omega), HV.out.2] at this
          cases this
  · have he8 : ee = 8 := by rw [← HEE.out]; exact devE_no (by simpa using hd)
    subst he8
    have hv : putE m q left down l = 8 := by simp [putE, hd]
    have HV := Lib.hid hv
    clear hd hp hv
    go_enter Try.func56, Try.ntmps56
    go_wp2_with fail
    refine (HC0.out _ ((hB.alloc _).alloc _)).mono ?_
    rintro e w1 ⟨rfl, hx1⟩
    have hX1 : Ext w w1 := Ext.trans (((Ext.refl w).alloc _).alloc _) hx1
    have hlt := (hrx.ext hx1).lt
    have hrx1 := (hrx.ext hx1).alloc (Obj.cells #[.int .i64 8] 30)
    have hcl : (w1.alloc (Obj.cells #[.int .i64 8] 30)).cell? ⟨w1.heap.size, 0, none⟩ = some (.int .i64 8) := by simp [go_sem]
    have hX2 := hX1.alloc (Obj.cells #[.int .i64 8] 30)
    clear hbx hrx hx1 hX1 hA hB
    go_upto_region 3 with fail
    obtain ⟨W2, hW2⟩ : ∃ W, W = w1.alloc (Obj.cells #[.int .i64 8] 30) := ⟨_, rfl⟩
    obtain ⟨ge, hge⟩ : ∃ g, w1.heap.size = g := ⟨_, rfl⟩
    rw [← hW2] at hrx1 hcl hX2 ⊢
    rw [hge] at hcl hlt ⊢
    clear hW2 hge
    obtain ⟨r0, r1, r2, r3, rf, rl⟩ := hrx1
    have hn1 : w.heap.size + 1 ≠ ge := by omega
    have hn2 : ge ≠ w.heap.size + 1 := Ne.symm hn1
    go_region
    all_goals
      go_wp2_with fail
      refine bodyPost_ret (v := .tuple #[.agg #[.slice none 0 0, .slice none 0 0, .int .i64 0, .bool false], .int .i64 8]) (by simp [results, Try.results56, go_sem, r0, r1, r2, r3]) rfl ?_
      rw [HV.out]
      exact retV_zero (set4_ext hX2 (Nat.le_succ _) _ _ _ _).drew
theorem put_any (m : List Int) (q : List Dw) (left : Int) (down : Bool) (l : List (Int × Int)) (A : Option Addr) (c : Nat) (B : Option Addr) (d : Nat) (E : Option Addr) (f : Nat) (w : World) (hA : Sl w A m.length c (fU m)) (hB : Sl w B q.length d (fD q)) (hE : Sl w E l.length f (fE l)) (wf : WfE l) :
    Calls Try.prog 56 #[.agg #[.slice A m.length c, .slice B q.length d, .int .i64 left, .bool down], .slice E l.length f] w (RetV w (putV m q left down l) (putE m q left down l)) := by
  by_cases hp : putE m q left down l = 0
  · obtain ⟨hd, hl, hr⟩ := putE_ok hp
    rw [show putV m q left down l = runD (m, q, left, down) (putOps l 256) from by simp [putV, hp], hp]
    exact put_ok m q left down l A c B d E f w hA hB hE hd hl hr wf
  · rw [show putV m q left down l = zeroV from by simp [putV, hp]]
    exact put_bad m q left down l A c B d E f w hA hB hE hp
end Go.Proofs.Ytmkcpnklaijkfaa
