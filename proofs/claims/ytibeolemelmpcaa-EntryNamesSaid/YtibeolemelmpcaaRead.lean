/-
  The contracts of reading entries from the journal of an image.
-/
import Derived.Test.YtibeolemelmpcaaCut
import Derived.Test.YtibeolemelmpcaaImage2
namespace Go.Proofs.Ytibeolemelmpcaa
open Go.RowKit

/-- The k-th entry of the journal, its address cut off at the image's length. -/
def jat (m : List Int) (i : Nat) : Int × Int := (if (m.length : Int) < m.getD (32 + 2 * i) 0 then (m.length : Int) else m.getD (32 + 2 * i) 0, m.getD (33 + 2 * i) 0)
/-- The first n entries of the journal. -/
def jnl (m : List Int) (n : Nat) : List (Int × Int) := (List.range n).map (jat m)
theorem jnl_length (m : List Int) (n : Nat) : (jnl m n).length = n := by simp [jnl]
theorem jnl_succ (m : List Int) (n : Nat) : jnl m (n + 1) = jnl m n ++ [jat m n] := by simp [jnl, List.range_succ]
/-- The error of reading n entries. -/
def rdE (m : List Int) (n : Int) : Int := if sizeB m.length then (if n < 0 ∨ 32 < n then 2 else if chkE (jnl m n.toNat) m.length = 0 then 0 else 50) else 8
theorem wf_getD {m : List Int} (h : WfU m) (i : Nat) : InU (m.getD i 0) := by
  by_cases hi : i < m.length
  · rw [show m.getD i 0 = m[i] from by simp [List.getD, hi]]
    exact h _ (List.getElem_mem hi)
  · rw [show m.getD i 0 = 0 from by simp [List.getD, List.getElem?_eq_none (Nat.le_of_not_lt hi)]]
    unfold InU; decide
theorem jnl_wf {m : List Int} (h : WfU m) (hl : m.length ≤ 3000) (n : Nat) : WfE (jnl m n) := by
  intro x hx
  obtain ⟨i, _, rfl⟩ := List.mem_map.1 hx
  have := wf_getD h (32 + 2 * i)
  refine ⟨?_, wf_getD h _⟩
  unfold InI InU jat at *
  simp only
  split <;> omega
theorem i64_small {x : Int} (h0 : 0 ≤ x) (hn : x ≤ 3000) : IntKind.i64.wrap x = x := by
  simp [IntKind.wrap, IntKind.bits, IntKind.signed]; omega
theorem u64_len {n : Nat} (hn : n ≤ 3000) : IntKind.u64.wrap (n : Int) = (n : Int) := by
  simp [IntKind.wrap, IntKind.bits, IntKind.signed]; omega
theorem two_at {w : World} {D : Option Addr} {p c : Nat} {xs : List Value} (h : Sl w D p c xs) {u v : Value} (h0 : xs[0]? = some u) (h1 : xs[1]? = some v) : ∃ ad, D = some ad ∧ w.cell? ad = some u ∧ w.cell? ⟨ad.block, ad.off + 1, none⟩ = some v := by
  obtain ⟨ad, hD, hc⟩ := h.cells (by intro h; subst h; simp at h0)
  refine ⟨ad, hD, ?_, ?_⟩
  · have := hc 0 u h0; simpa [Addr.add] using this
  · have := hc 1 v h1; rwa [add_lit_ ad 0] at this

def lenOf : Value → Nat | .slice _ n _ => n | _ => 0
/-- After k rounds: r entries are still to come. -/
def RdRel (w : World) (t : Nat) (m : List Int) (v s : Value) (wr : World) : Prop :=
  ∃ (k r : Nat) (D : Option Addr), k + r = t ∧ s = .slice D (2 * r) (2 * r) ∧ Sl w D (2 * r) (2 * r) (fU ((m.drop (32 + 2 * k)).take (2 * r))) ∧ wr.ownsRow w.heap.size 56 2 v k (fE (jnl m k)) ∧ Ext w wr
set_option maxHeartbeats 1600000 in
theorem entryRead_any (m : List Int) (n : Int) (A : Option Addr) (c : Nat) (w : World) (hA : Sl w A m.length c (fU m)) (wf : WfU m) :
    Calls Try.prog 27 #[.slice A m.length c, .int .i64 n] w (RetS w 56 2 n.toNat (fE (jnl m n.toNat)) (rdE m n)) := by
  cases hs : sizeB (m.length : Int) with
  | false =>
    have hi : imgE (m.length : Int) = 8 := by simp [imgE, hs]
    have hr : rdE m n = 8 := by simp [rdE, hs]
    rw [hr]
    go_enter Try.func27, Try.ntmps27
    go_wp2_with (go_at_call 39; refine (imageCheck_any _ _ _ _).mono ?_; rintro e w' ⟨rfl, rfl⟩)
    go_ret2
    exact .inr ⟨by decide, rfl, Ext.refl w⟩
  | true =>
    have hi : imgE (m.length : Int) = 0 := by simp [imgE, hs]
    have hsz := sizeB_bd hs
    by_cases h1 : n < 0
    · have hr : rdE m n = 2 := by simp [rdE, hs, h1]
      rw [hr]
      go_enter Try.func27, Try.ntmps27
      go_wp2_with (go_at_call 39; refine (imageCheck_any _ _ _ _).mono ?_; rintro e w' ⟨rfl, rfl⟩)
      go_ret2
      exact .inr ⟨by decide, rfl, Ext.refl w⟩
    · by_cases h2 : 32 < n
      · have hr : rdE m n = 2 := by simp [rdE, hs, h2]
        rw [hr]
        go_enter Try.func27, Try.ntmps27
        go_wp2_with (go_at_call 39; refine (imageCheck_any _ _ _ _).mono ?_; rintro e w' ⟨rfl, rfl⟩)
        go_ret2
        exact .inr ⟨by decide, rfl, Ext.refl w⟩
      · obtain ⟨t, rfl⟩ := Int.eq_ofNat_of_zero_le (show 0 ≤ n by omega)
        rw [Int.toNat_natCast]
        have hr : Hid (rdE m t = if chkE (jnl m t) m.length = 0 then 0 else 50) := Lib.hid (by simp only [rdE, hs, if_true, Int.toNat_natCast]; rw [if_neg (by omega)])
        have hle := hA.le
        have hmax := hA.max
        unfold maxLen at hmax
        have hs' := hs
        clear hs
        obtain ⟨ad, _, rfl, _, _⟩ := hA.u_at (k := 0) (by omega)
        have hSl : Sl w (if c = 32 then some ad else some (ad.add (32 * 1))) (2 * t) (2 * t) (fU ((m.drop 32).take (2 * t))) := by
          have h := cutU hA (a := 32) (k := 2 * t) (by omega)
          exact ⟨Nat.le_refl _, by unfold maxLen; omega, (fun h0 => by split at h0 <;> cases h0), h.cells⟩
        rw [if_neg (by omega), add_lit_ ad 31] at hSl
        have hu := u64_len (n := m.length) (by omega)
        by_cases ht : t = 0
        · subst ht
          go_enter Try.func27, Try.ntmps27
          go_wp2_with (go_at_call 39; refine (imageCheck_any _ _ _ _).mono ?_; rintro e w' ⟨rfl, rfl⟩)
          refine wp_loop_rounds 1 ?_
          rw [rounds_succ]
          go_wp2_with fail
          refine (entryCheck_any [] m.length none 0 w (Sl.nil_ w) (fun x hx => by cases hx)).mono ?_
          rintro e w2 ⟨rfl, hx2⟩
          have h0 : chkE (jnl m 0) m.length = 0 := chk_iff.2 ⟨hs', by simp [jnl], (fun x hx => by simp [jnl] at hx), by simp [jnl]⟩
          have h0' : chkE [] m.length = 0 := h0
          have H0 := Lib.hid h0
          clear h0
          go_wp2_with fail
          go_ret2
          exact .inl ⟨by rw [hr.out, if_pos H0.out], retOwn2_mk (own_nil _ _ _ _) hx2⟩
        · go_enter Try.func27, Try.ntmps27
          go_wp2_with (go_at_call 39; refine (imageCheck_any _ _ _ _).mono ?_; rintro e w' ⟨rfl, rfl⟩)
          rw [show 32 + 2 * t - 32 = 2 * t from by omega]
          go_loopw [7, 9] (fun v s wr => RdRel w t m v s wr) (fun _ s _ => lenOf s)
          case atStart => exact ⟨0, t, _, by omega, rfl, hSl, own_nil _ _ _ _, Ext.refl w⟩
          case round =>
            obtain ⟨k, r, D, hkr, rfl, hS, hown, hx⟩ := hrel
            have hsz2 := hx.size
            have Hkr := Lib.hid hkr
            have hk1 : k ≤ t := by omega
            have hr1 : r ≤ t := by omega
            clear hkr
            by_cases hr0 : r = 0
            · have hkt : k = t := by have := Hkr.out; omega
              subst hr0 hkt
              obtain ⟨A1, c1, hv, hs1⟩ := Sl.of_own hown
              subst hv
              have hck := entryCheck_any (jnl m k) m.length A1 c1 wr (by rw [jnl_length]; exact hs1) (jnl_wf wf (by omega) k)
              rw [jnl_length] at hck
              have HC := Lib.hid hck
              clear hck hs1 hS
              by_cases h0 : chkE (jnl m k) m.length = 0
              · have H0 := Lib.hid h0
                go_wp2_with fail
                refine HC.out.mono ?_
                rintro e w2 ⟨rfl, hx2⟩
                go_wp2_with fail
                go_ret2
                exact .inl ⟨by rw [hr.out, if_pos H0.out], retOwn2_mk (own_ext hown hx2) (hx.trans hx2)⟩
              · have hb : (chkE (jnl m k) m.length != 0) = true := by simpa using h0
                go_wp2_with fail
                refine HC.out.mono ?_
                rintro e w2 ⟨rfl, hx2⟩
                go_wp2_with fail
                go_ret2
                rw [hr.out, if_neg h0]
                exact .inr ⟨by decide, rfl, hx.trans hx2⟩
            · have hx0 : (fU ((m.drop (32 + 2 * k)).take (2 * r)))[0]? = some (.int .u64 (m.getD (32 + 2 * k) 0)) := by
                have : 32 + 2 * k < m.length := by have := Hkr.out; omega
                simp [fU, List.getElem?_drop, show 0 < 2 * r from by omega, List.getD, this]
              have hx1 : (fU ((m.drop (32 + 2 * k)).take (2 * r)))[1]? = some (.int .u64 (m.getD (33 + 2 * k) 0)) := by
                have : 33 + 2 * k < m.length := by have := Hkr.out; omega
                simp [fU, List.getElem?_drop, show 1 < 2 * r from by omega, List.getD, show 32 + 2 * k + 1 = 33 + 2 * k from by omega, this]
              have hcut := hS.cut (k := 2) (size := 1) (by simp; have := Hkr.out; omega) (by omega)
              obtain ⟨a0, rfl, g1, g2⟩ := two_at (hS.ext hx) hx0 hx1
              obtain ⟨x0, hx0'⟩ : ∃ x0, m.getD (32 + 2 * k) 0 = x0 := ⟨_, rfl⟩
              obtain ⟨x1, hx1'⟩ : ∃ x1, m.getD (33 + 2 * k) 0 = x1 := ⟨_, rfl⟩
              rw [hx0'] at g1
              rw [hx1'] at g2
              have hx00 : 0 ≤ x0 := by rw [← hx0']; exact (wf_getD wf _).1
              obtain ⟨y0, hy⟩ : ∃ y0, (if (m.length : Int) < x0 then (m.length : Int) else x0) = y0 := ⟨_, rfl⟩
              have hjs : jnl m (k + 1) = jnl m k ++ [(y0, x1)] := by rw [jnl_succ, jat, hx0', hx1', hy]
              have hmin : IntKind.i64.wrap y0 = y0 := i64_small (by rw [← hy]; split <;> omega) (by rw [← hy]; split <;> omega)
              have HJ := Lib.hid hjs; have HCt := Lib.hid hcut
              clear hjs hcut hx0 hx1 hx0' hx1' hS hSl hA
              have hp2 : 2 ≤ 2 * r := by omega
              have hp0 : (0 : Int) < 2 * (r : Int) := by omega
              have hp1 : (1 : Int) < 2 * (r : Int) := by omega
              go_wp2_with fail
              go_region_law (refine step_app EE rfl (.tmp 33) (.tmp 46) rfl rfl (hown.alloc _).drew rfl (Sl.lit' _ _ _ _ rfl (by decide)).drew rfl (fE_one [(y0, x1)]) (by omega) (by simp; omega) ?_; intro v' w' hown' hbel hat hgr)
              all_goals
                have hx' : Ext w w' := Below.trans (hx.alloc _).drew hbel
                have hown2 : w'.ownsRow w.heap.size 56 2 v' (k + 1) (fE (jnl m (k + 1))) := by
                  rw [HJ.out, fE_append]
                  exact hown'
                clear hown' hbel hgr hat hmin hy g1 g2 hown
                by_cases hr1' : r = 1
                · subst hr1'
                  go_wp2
                  go_roundw
                  case rel => exact ⟨k + 1, 0, some a0, by have := Hkr.out; omega, rfl, ⟨Nat.le_refl _, Nat.zero_le _, fun h => (by cases h), fun h => absurd (by simp [fU]) h⟩, hown2, hx'⟩
                  case measure => simp [lenOf]
                · have hnz : ¬ 2 * r = 2 := by omega
                  go_wp2
                  go_roundw
                  case rel =>
                    refine ⟨k + 1, r - 1, some ⟨a0.block, a0.off + 2, none⟩, by have := Hkr.out; omega, by rw [show 2 * r - 2 = 2 * (r - 1) from by omega], ?_, hown2, hx'⟩
                    have h := HCt.out
                    rw [if_neg hnz, Option.map_some, add_lit_ a0 1, ← fU_drop, List.drop_take, List.drop_drop, show 32 + 2 * k + 2 = 32 + 2 * (k + 1) from by omega, show 2 * r - 2 = 2 * (r - 1) from by omega] at h
                    exact h
                  case measure => simp [lenOf]; omega
end Go.Proofs.Ytibeolemelmpcaa
