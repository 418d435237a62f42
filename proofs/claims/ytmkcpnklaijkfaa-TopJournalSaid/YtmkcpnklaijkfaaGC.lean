/-
  Several texts in one: Read, RefRead, Sel, Ret, LawEB.
-/
import Derived.Test.YtmkcpnklaijkfaaGB
import Derived.Test.YtmkcpnklaijkfaaGA
/-
  The contracts of reading entries from the journal of an image.
-/
namespace Go.Proofs.Ytmkcpnklaijkfaa
open Go.RowKit

/-- The k-th entry of the journal, its address cut off at the image's length. -/
def jat (m : List Int) (i : Nat) : Int × Int := (if (m.length : Int) < m.getD (32 + 2 * i) 0 then (m.length : Int) else m.getD (32 + 2 * i) 0, m.getD (33 + 2 * i) 0)
/-- The first n entries of the journal. -/
def jnl (m : List Int) (n : Nat) : List (Int × Int) := (List.range n).map (jat m)
theorem jnl_length (m : List Int) (n : Nat) : (jnl m n).length = n := by simp [jnl]
theorem jnl_succ (m : List Int) (n : Nat) : jnl m (n + 1) = jnl m n ++ [jat m n] := by simp [jnl, List.range_succ]
/-- The error of reading n entries. -/
def rdE (m : List Int) (n : Int) : Int := if sizeB m.length then (if n < 0 ∨ 32 < n then 2 else if chkE (jnl m n.toNat) m.length = 0 then 0 else 50) else 8
theorem wf_getD {m : List Int} (h : WfU m) (i : Nat) : InU (m.getD i 0) := by
  by_cases hi : i < m.length
  · rw [show m.getD i 0 = m[i] from by simp [List.getD, hi]]
    exact h _ (List.getElem_mem hi)
  · rw [show m.getD i 0 = 0 from by simp [List.getD, List.getElem?_eq_none (Nat.le_of_not_lt hi)]]
    unfold InU; decide
theorem jnl_wf {m : List Int} (h : WfU m) (hl : m.length ≤ 3000) (n : Nat) : WfE (jnl m n) := by
  intro x hx
  obtain ⟨i, _, rfl⟩ := List.mem_map.1 hx
  have := wf_getD h (32 + 2 * i)
  refine ⟨?_, wf_getD h _⟩
  unfold InI InU jat at *
  simp only
  split <;> omega
theorem i64_small {x : Int} (h0 : 0 ≤ x) (hn : x ≤ 3000) : IntKind.i64.wrap x = x := by
  simp [IntKind.wrap, IntKind.bits, IntKind.signed]; omega
theorem u64_len {n : Nat} (hn : n ≤ 3000) : IntKind.u64.wrap (n : Int) = (n : Int) := by
  simp [IntKind.wrap, IntKind.bits, IntKind.signed]; omega
theorem two_at {w : World} {D : Option Addr} {p c : Nat} {xs : List Value} (h : Sl w D p c xs) {u v : Value} (h0 : xs[0]? = some u) (h1 : xs[1]? = some v) : ∃ ad, D = some ad ∧ w.cell? ad = some u ∧ w.cell? ⟨ad.block, ad.off + 1, none⟩ = some v := by
  obtain ⟨ad, hD, hc⟩ := h.cells (by intro h; subst h; simp at h0)
  refine ⟨ad, hD, ?_, ?_⟩
  · have := hc 0 u h0; simpa [Addr.add] using this
  · have := hc 1 v h1; rwa [add_lit_ ad 0] at this

def lenOf : Value → Nat | .slice _ n _ => n | _ => 0
/-- After k rounds: r entries are still to come. -/
def RdRel (w : World) (t : Nat) (m : List Int) (v s : Value) (wr : World) : Prop :=
  ∃ (k r : Nat) (D : Option Addr), k + r = t ∧ s = .slice D (2 * r) (2 * r) ∧ Sl w D (2 * r) (2 * r) (fU ((m.drop (32 + 2 * k)).take (2 * r))) ∧ wr.ownsRow w.heap.size 38 2 v k (fE (jnl m k)) ∧ Ext w wr
set_option maxHeartbeats 1600000 in
theorem entryRead_any (m : List Int) (n : Int) (A : Option Addr) (c : Nat) (w : World) (hA : Sl w A m.length c (fU m)) (wf : WfU m) :
    Calls Try.prog 29 #[.slice A m.length c, .int .i64 n] w (RetS w 38 2 n.toNat (fE (jnl m n.toNat)) (rdE m n)) := by
  cases hs : sizeB (m.length : Int) with
  | false =>
    have hi : imgE (m.length : Int) = 8 := by simp [imgE, hs]
    have hr : rdE m n = 8 := by simp [rdE, hs]
    rw [hr]
    go_enter Try.func29, Try.ntmps29
    go_wp2_with (go_at_call 68; refine (imageCheck_any _ _ _ _).mono ?_; rintro e w' ⟨rfl, rfl⟩)
    go_ret2
    exact .inr ⟨by decide, rfl, Ext.refl w⟩
  | true =>
    have hi : imgE (m.length : Int) = 0 := by simp [imgE, hs]
    have hsz := sizeB_bd hs
    by_cases h1 : n < 0
    · have hr : rdE m n = 2 := by simp [rdE, hs, h1]
      rw [hr]
      go_enter Try.func29, Try.ntmps29
      go_wp2_with (go_at_call 68; refine (imageCheck_any _ _ _ _).mono ?_; rintro e w' ⟨rfl, rfl⟩)
      go_ret2
      exact .inr ⟨by decide, rfl, Ext.refl w⟩
    · by_cases h2 : 32 < n
      · have hr : rdE m n = 2 := by simp [rdE, hs, h2]
        rw [hr]
        go_enter Try.func29, Try.ntmps29
        go_wp2_with (go_at_call 68; refine (imageCheck_any _ _ _ _).mono ?_; rintro e w' ⟨rfl, rfl⟩)
        go_ret2
        exact .inr ⟨by decide, rfl, Ext.refl w⟩
      · obtain ⟨t, rfl⟩ := Int.eq_ofNat_of_zero_le (show 0 ≤ n by omega)
        rw [Int.toNat_natCast]
        have hr : Hid (rdE m t = if chkE (jnl m t) m.length = 0 then 0 else 50) := Lib.hid (by simp only [rdE, hs, if_true, Int.toNat_natCast]; rw [if_neg (by omega)])
        have hle := hA.le
        have hmax := hA.max
        unfold maxLen at hmax
        have hs' := hs
        clear hs
        obtain ⟨ad, _, rfl, _, _⟩ := hA.u_at (k := 0) (by omega)
        have hSl : Sl w (if c = 32 then some ad else some (ad.add (32 * 1))) (2 * t) (2 * t) (fU ((m.drop 32).take (2 * t))) := by
          have h := cutU hA (a := 32) (k := 2 * t) (by omega)
          exact ⟨Nat.le_refl _, by unfold maxLen; omega, (fun h0 => by split at h0 <;> cases h0), h.cells⟩
        rw [if_neg (by omega), add_lit_ ad 31] at hSl
        have hu := u64_len (n := m.length) (by omega)
        by_cases ht : t = 0
        · subst ht
          go_enter Try.func29, Try.ntmps29
          go_wp2_with (go_at_call 68; refine (imageCheck_any _ _ _ _).mono ?_; rintro e w' ⟨rfl, rfl⟩)
          refine wp_loop_rounds 1 ?_
          rw [rounds_succ]
          go_wp2_with fail
          refine (entryCheck_any [] m.length none 0 w (Sl.nil_ w) (fun x hx => by cases hx)).mono ?_
          rintro e w2 ⟨rfl, hx2⟩
          have h0 : chkE (jnl m 0) m.length = 0 := chk_iff.2 ⟨hs', by simp [jnl], (fun x hx => by simp [jnl] at hx), by simp [jnl]⟩
          have h0' : chkE [] m.length = 0 := h0
          have H0 := Lib.hid h0
          clear h0
          go_wp2_with fail
          go_ret2
          exact .inl ⟨by rw [hr.out, if_pos H0.out], retOwn2_mk (own_nil _ _ _ _) hx2⟩
        · go_enter Try.func29, Try.ntmps29
          go_wp2_with (go_at_call 68; refine (imageCheck_any _ _ _ _).mono ?_; rintro e w' ⟨rfl, rfl⟩)
          rw [show 32 + 2 * t - 32 = 2 * t from by omega]
          go_loopw [7, 9] (fun v s wr => RdRel w t m v s wr) (fun _ s _ => lenOf s)
          case atStart => exact ⟨0, t, _, by omega, rfl, hSl, own_nil _ _ _ _, Ext.refl w⟩
          case round =>
            obtain ⟨k, r, D, hkr, rfl, hS, hown, hx⟩ := hrel
            have hsz2 := hx.size
            have Hkr := Lib.hid hkr
            have hk1 : k ≤ t := by omega
            have hr1 : r ≤ t := by omega
            clear hkr
            by_cases hr0 : r = 0
            · have hkt : k = t := by have := Hkr.out; omega
              subst hr0 hkt
              obtain ⟨A1, c1, hv, hs1⟩ := Sl.of_own hown
              subst hv
              have hck := entryCheck_any (jnl m k) m.length A1 c1 wr (by rw [jnl_length]; exact hs1) (jnl_wf wf (by omega) k)
              rw [jnl_length] at hck
              have HC := Lib.hid hck
              clear hck hs1 hS
              by_cases h0 : chkE (jnl m k) m.length = 0
              · have H0 := Lib.hid h0
                go_wp2_with fail
                refine HC.out.mono ?_
                rintro e w2 ⟨rfl, hx2⟩
                go_wp2_with fail
                go_ret2
                exact .inl ⟨by rw [hr.out, if_pos H0.out], retOwn2_mk (own_ext hown hx2) (hx.trans hx2)⟩
              · have hb : (chkE (jnl m k) m.length != 0) = true := by simpa using h0
                go_wp2_with fail
                refine HC.out.mono ?_
                rintro e w2 ⟨rfl, hx2⟩
                go_wp2_with fail
                go_ret2
                rw [hr.out, if_neg h0]
                exact .inr ⟨by decide, rfl, hx.trans hx2⟩
            · have hx0 : (fU ((m.drop (32 + 2 * k)).take (2 * r)))[0]? = some (.int .u64 (m.getD (32 + 2 * k) 0)) := by
                have : 32 + 2 * k < m.length := by have := Hkr.out; omega
                simp [fU, List.getElem?_drop, show 0 < 2 * r from by omega, List.getD, this]
              have hx1 : (fU ((m.drop (32 + 2 * k)).take (2 * r)))[1]? = some (.int .u64 (m.getD (33 + 2 * k) 0)) := by
                have : 33 + 2 * k < m.length := by have := Hkr.out; omega
                simp [fU, List.getElem?_drop, show 1 < 2 * r from by omega, List.getD, show 32 + 2 * k + 1 = 33 + 2 * k from by omega, this]
              have hcut := hS.cut (k := 2) (size := 1) (by simp; have := Hkr.out; omega) (by omega)
              obtain ⟨a0, rfl, g1, g2⟩ := two_at (hS.ext hx) hx0 hx1
              obtain ⟨x0, hx0'⟩ : ∃ x0, m.getD (32 + 2 * k) 0 = x0 := ⟨_, rfl⟩
              obtain ⟨x1, hx1'⟩ : ∃ x1, m.getD (33 + 2 * k) 0 = x1 := ⟨_, rfl⟩
              rw [hx0'] at g1
              rw [hx1'] at g2
              have hx00 : 0 ≤ x0 := by rw [← hx0']; exact (wf_getD wf _).1
              obtain ⟨y0, hy⟩ : ∃ y0, (if (m.length : Int) < x0 then (m.length : Int) else x0) = y0 := ⟨_, rfl⟩
              have hjs : jnl m (k + 1) = jnl m k ++ [(y0, x1)] := by rw [jnl_succ, jat, hx0', hx1', hy]
              have hmin : IntKind.i64.wrap y0 = y0 := i64_small (by rw [← hy]; split <;> omega) (by rw [← hy]; split <;> omega)
              have HJ := Lib.hid hjs; have HCt := Lib.hid hcut
              clear hjs hcut hx0 hx1 hx0' hx1' hS hSl hA
              have hp2 : 2 ≤ 2 * r := by omega
              have hp0 : (0 : Int) < 2 * (r : Int) := by omega
              have hp1 : (1 : Int) < 2 * (r : Int) := by omega
              go_wp2_with fail
              go_region_law (refine step_app EE rfl (.tmp 33) (.tmp 46) rfl rfl (hown.alloc _).drew rfl (Sl.lit' _ _ _ _ rfl (by decide)).drew rfl (fE_one [(y0, x1)]) (by omega) (by simp; omega) ?_; intro v' w' hown' hbel hat hgr)
              all_goals
                have hx' : Ext w w' := Below.trans (hx.alloc _).drew hbel
                have hown2 : w'.ownsRow w.heap.size 38 2 v' (k + 1) (fE (jnl m (k + 1))) := by
                  rw [HJ.out, fE_append]
                  exact hown'
                clear hown' hbel hgr hat hmin hy g1 g2 hown
                by_cases hr1' : r = 1
                · subst hr1'
                  go_wp2
                  go_roundw
                  case rel => exact ⟨k + 1, 0, some a0, by have := Hkr.out; omega, rfl, ⟨Nat.le_refl _, Nat.zero_le _, fun h => (by cases h), fun h => absurd (by simp [fU]) h⟩, hown2, hx'⟩
                  case measure => simp [lenOf]
                · have hnz : ¬ 2 * r = 2 := by omega
                  go_wp2
                  go_roundw
                  case rel =>
                    refine ⟨k + 1, r - 1, some ⟨a0.block, a0.off + 2, none⟩, by have := Hkr.out; omega, by rw [show 2 * r - 2 = 2 * (r - 1) from by omega], ?_, hown2, hx'⟩
                    have h := HCt.out
                    rw [if_neg hnz, Option.map_some, add_lit_ a0 1, ← fU_drop, List.drop_take, List.drop_drop, show 32 + 2 * k + 2 = 32 + 2 * (k + 1) from by omega, show 2 * r - 2 = 2 * (r - 1) from by omega] at h
                    exact h
                  case measure => simp [lenOf]; omega
end Go.Proofs.Ytmkcpnklaijkfaa
/-
  The contracts of reading entries from the journal of an image: the reference's.
-/
namespace Go.Proofs.Ytmkcpnklaijkfaa
open Go.RowKit

theorem mayB_len (n : Int) : mayB n n = false := by simp [mayB]
theorem chk_not {l : List (Int × Int)} {words : Int} {x : Int × Int} (hx : x ∈ l) (h : mayB x.1 words = false) : chkE l words ≠ 0 := by
  intro h0
  have := (chk_iff.1 h0).2.2.1 x hx
  rw [h] at this
  cases this
theorem jat_lt {m : List Int} {i : Nat} {x0 x1 : Int} (h0 : m.getD (32 + 2 * i) 0 = x0) (h1 : m.getD (33 + 2 * i) 0 = x1) (h : ¬ (m.length : Int) < x0) : jat m i = (x0, x1) := by
  rw [jat, h0, h1, if_neg h]
theorem jat_ge {m : List Int} {i : Nat} {x0 : Int} (h0 : m.getD (32 + 2 * i) 0 = x0) (h : (m.length : Int) ≤ x0) : (jat m i).1 = m.length := by
  rw [jat, h0]
  simp only
  split <;> omega
/-- What 'Journal' gives. -/
def JnP (w : World) (T n : Nat) (xs : List Value) (er : Int) (en : Ending) (w' : World) : Prop :=
  (er = 0 ∧ ∃ A c, en = .returned (.tuple #[.slice A n c, .bool true]) ∧ w'.ownsRow w.heap.size T 2 (.slice A n c) n xs ∧ Sl w' A n c xs ∧ Ext w w') ∨
  (er ≠ 0 ∧ ∃ A k c, en = .returned (.tuple #[.slice A k c, .bool false]) ∧ Ext w w')
set_option maxHeartbeats 1600000 in
theorem refJournal_any (m : List Int) (t : Nat) (A : Option Addr) (c : Nat) (w : World) (hA : Sl w A m.length c (fU m)) (wf : WfU m) (hs : sizeB m.length = true) (ht : t ≤ 32) :
    Calls Try.prog 112 #[.slice A m.length c, .int .i64 (t : Int)] w (JnP w 38 t (fE (jnl m t)) (chkE (jnl m t) m.length)) := by
  have hsz := sizeB_bd hs
  have hle := hA.le
  have hmax := hA.max
  unfold maxLen at hmax
  clear hs
  go_enter Try.func112, Try.ntmps112
  go_wp2
  go_loopw [6, 7] (fun v i wr => ∃ k : Nat, k ≤ t ∧ i = .int .i64 k ∧ wr.ownsRow w.heap.size 38 2 v k (fE (jnl m k)) ∧ Ext w wr) (fun _ i _ => t - (intOf i).toNat)
  case atStart => exact ⟨0, Nat.zero_le _, rfl, own_nil _ _ _ _, Ext.refl w⟩
  case round =>
    obtain ⟨k, hk, rfl, hown, hx⟩ := hrel
    have hsz2 := hx.size
    by_cases hlt : k < t
    · obtain ⟨ad, x0, rfl, hx0, g1⟩ := (hA.ext hx).u_at (k := 32 + 2 * k) (by omega)
      obtain ⟨ad', x1, had, hx1, g2⟩ := (hA.ext hx).u_at (k := 33 + 2 * k) (by omega)
      obtain rfl : ad = ad' := by injection had
      have e0 : m.getD (32 + 2 * k) 0 = x0 := by simp [List.getD, hx0]
      have e1 : m.getD (33 + 2 * k) 0 = x1 := by simp [List.getD, hx1]
      have hx00 : 0 ≤ x0 := by rw [← e0]; exact (wf_getD wf _).1
      have Hmem := Lib.hid (show jat m k ∈ jnl m t from List.mem_map.2 ⟨k, by simpa using hlt, rfl⟩)
      by_cases hge : (m.length : Int) ≤ x0
      · have hnz : chkE (jnl m t) m.length ≠ 0 := chk_not Hmem.out (by rw [jat_ge e0 hge]; exact mayB_len _)
        have HN := Lib.hid hnz
        clear hx0 hx1 e0 e1 hnz had
        go_wp2
        go_ret2
        exact .inr ⟨HN.out, _, _, _, rfl, hx⟩
      · have hjs : jnl m (k + 1) = jnl m k ++ [(x0, x1)] := by rw [jnl_succ, jat_lt e0 e1 (by omega)]
        have HJ := Lib.hid hjs
        clear hx0 hx1 e0 e1 hjs had
        have hlt2 : x0 < m.length := by omega
        go_wp2_with (at_builtin; refine wpList_app EE rfl (.tmp 25) (.tmp 35) rfl rfl (hown.alloc _) rfl (Sl.lit' _ _ _ _ (by simp) (by decide)) rfl (fE_one [(x0, x1)]) (by omega) (by simp; omega) ?_; intro v' w' hown' hbel hat hgr)
        have hx' : Ext w w' := Below.trans (hx.alloc _) hbel
        have hown2 : w'.ownsRow w.heap.size 38 2 v' (k + 1) (fE (jnl m (k + 1))) := by
          rw [HJ.out, fE_append]
          exact hown'
        go_roundw
        case rel => exact ⟨k + 1, by omega, by go_num, hown2, hx'⟩
        case measure => simp [intOf]; omega
    · obtain rfl : k = t := by omega
      obtain ⟨A1, c1, hv, hs1⟩ := Sl.of_own hown
      subst hv
      have hck := refCheck8_any (jnl m k) m.length A1 c1 wr (by rw [jnl_length]; exact hs1)
      rw [jnl_length] at hck
      have HC := Lib.hid hck
      clear hck
      by_cases h0 : chkE (jnl m k) m.length = 0
      · have H0 := Lib.hid h0
        go_wp2_with fail
        refine HC.out.mono ?_
        rintro e w2 ⟨rfl, hd2⟩
        go_wp2_with fail
        go_ret2
        exact .inl ⟨H0.out, _, _, rfl, own_ext hown hd2.ext, hs1.ext hd2.ext, hx.trans hd2.ext⟩
      · have hb : (chkE (jnl m k) m.length == 0) = false := by simpa using h0
        go_wp2_with fail
        refine HC.out.mono ?_
        rintro e w2 ⟨rfl, hd2⟩
        go_wp2_with fail
        go_ret2
        exact .inr ⟨h0, _, _, _, rfl, hx.trans hd2.ext⟩
end Go.Proofs.Ytmkcpnklaijkfaa
/-
  A result of a slice and an error, in one form for both ways.
-/
namespace Go.Proofs.Ytmkcpnklaijkfaa
open Go.RowKit
/-- The list, or nothing where there is an error. -/
def selL {α : Type} (er : Int) (l : List α) : List α := if er = 0 then l else []
theorem RetS.genU {w w' : World} {T n : Nat} {m : List Int} {er : Int} {en : Ending} (h : RetS w T 1 n (fU m) er en w') (hn : m.length = n) :
    ∃ A c, en = .returned (.tuple #[.slice A (selL er m).length c, .int .i64 er]) ∧ Sl w' A (selL er m).length c (fU (selL er m)) ∧ Ext w w' := by
  rcases h with ⟨rfl, A, c, rfl, _, hs, hx⟩ | ⟨h0, rfl, hx⟩
  · refine ⟨A, c, ?_, ?_, hx⟩
    · simp [selL, hn]
    · simpa [selL, hn] using hs
  · refine ⟨none, 0, ?_, ?_, hx⟩
    · simp [selL, h0]
    · simp only [selL, if_neg h0]; exact Sl.nil_ _
theorem RetS.genE {w w' : World} {T n : Nat} {l : List (Int × Int)} {er : Int} {en : Ending} (h : RetS w T 2 n (fE l) er en w') (hn : l.length = n) :
    ∃ A c, en = .returned (.tuple #[.slice A (selL er l).length c, .int .i64 er]) ∧ Sl w' A (selL er l).length c (fE (selL er l)) ∧ Ext w w' := by
  rcases h with ⟨rfl, A, c, rfl, _, hs, hx⟩ | ⟨h0, rfl, hx⟩
  · refine ⟨A, c, ?_, ?_, hx⟩
    · simp [selL, hn]
    · simpa [selL, hn] using hs
  · refine ⟨none, 0, ?_, ?_, hx⟩
    · simp [selL, h0]
    · simp only [selL, if_neg h0]; exact Sl.nil_ _
end Go.Proofs.Ytmkcpnklaijkfaa
/-
  Results in one form for both ways: a list, and an error beside it.
-/
namespace Go.Proofs.Ytmkcpnklaijkfaa
open Go.RowKit
/-- The call returned words and a number. -/
def RetU (w0 : World) (l : List Int) (er : Int) (en : Ending) (w' : World) : Prop :=
  ∃ A c, en = .returned (.tuple #[.slice A l.length c, .int .i64 er]) ∧ Sl w' A l.length c (fU l) ∧ Ext w0 w'
/-- The call returned entries and a number. -/
def RetE (w0 : World) (l : List (Int × Int)) (er : Int) (en : Ending) (w' : World) : Prop :=
  ∃ A c, en = .returned (.tuple #[.slice A l.length c, .int .i64 er]) ∧ Sl w' A l.length c (fE l) ∧ Ext w0 w'
theorem retU_nil {w0 w' : World} {er : Int} (hx : Ext w0 w') : RetU w0 [] er (.returned (.tuple #[.slice none 0 0, .int .i64 er])) w' := ⟨none, 0, rfl, Sl.nil_ _, hx⟩
theorem retE_nil {w0 w' : World} {er : Int} (hx : Ext w0 w') : RetE w0 [] er (.returned (.tuple #[.slice none 0 0, .int .i64 er])) w' := ⟨none, 0, rfl, Sl.nil_ _, hx⟩
theorem retU_at {w0 w' : World} {l : List Int} {n : Nat} {er : Int} {A : Option Addr} {c : Nat} (hn : l.length = n) (hs : Sl w' A n c (fU l)) (hx : Ext w0 w') : RetU w0 l er (.returned (.tuple #[.slice A n c, .int .i64 er])) w' := by
  subst hn
  exact ⟨A, c, rfl, hs, hx⟩
theorem retE_at {w0 w' : World} {l : List (Int × Int)} {n : Nat} {er : Int} {A : Option Addr} {c : Nat} (hn : l.length = n) (hs : Sl w' A n c (fE l)) (hx : Ext w0 w') : RetE w0 l er (.returned (.tuple #[.slice A n c, .int .i64 er])) w' := by
  subst hn
  exact ⟨A, c, rfl, hs, hx⟩
theorem RetU.of_ext {w0 w1 w' : World} {l : List Int} {er : Int} {en : Ending} (h : RetU w1 l er en w') (hx : Ext w0 w1) : RetU w0 l er en w' := by
  obtain ⟨A, c, e, s, x⟩ := h
  exact ⟨A, c, e, s, hx.trans x⟩
theorem RetE.of_ext {w0 w1 w' : World} {l : List (Int × Int)} {er : Int} {en : Ending} (h : RetE w1 l er en w') (hx : Ext w0 w1) : RetE w0 l er en w' := by
  obtain ⟨A, c, e, s, x⟩ := h
  exact ⟨A, c, e, s, hx.trans x⟩
theorem RetS.toU {w w' : World} {T n : Nat} {m : List Int} {er : Int} {en : Ending} (h : RetS w T 1 n (fU m) er en w') (hn : m.length = n) : RetU w (selL er m) er en w' := by
  obtain ⟨A, c, e, s, x⟩ := h.genU hn
  exact ⟨A, c, e, s, x⟩
theorem RetS.toE {w w' : World} {T n : Nat} {l : List (Int × Int)} {er : Int} {en : Ending} (h : RetS w T 2 n (fE l) er en w') (hn : l.length = n) : RetE w (selL er l) er en w' := by
  obtain ⟨A, c, e, s, x⟩ := h.genE hn
  exact ⟨A, c, e, s, x⟩
theorem selL_ok {α : Type} {er : Int} (h : er = 0) (l : List α) : selL er l = l := by simp [selL, h]
theorem selL_no {α : Type} {er : Int} (h : er ≠ 0) (l : List α) : selL er l = [] := by simp [selL, h]
end Go.Proofs.Ytmkcpnklaijkfaa
/-
  EntryOnce and EntryBack: the plain laws.
-/
namespace Go.Proofs.Ytmkcpnklaijkfaa
open Go.RowKit

theorem jat_plain {m : List Int} {i : Nat} (h : ¬ (m.length : Int) < m.getD (32 + 2 * i) 0) : jat m i = (m.getD (32 + 2 * i) 0, m.getD (33 + 2 * i) 0) := by
  rw [jat, if_neg h]
theorem listed_jnl {m : List Int} : ∀ {k : Nat}, (∀ i, i < k → ¬ (m.length : Int) < m.getD (32 + 2 * i) 0) → 32 + 2 * k ≤ m.length → listed (jnl m k) = (m.drop 32).take (2 * k) := by
  intro k
  induction k with
  | zero => intro _ _; rfl
  | succ k ih =>
    intro h hk
    rw [jnl_succ, listed_append, ih (fun i hi => h i (by omega)) (by omega), jat_plain (h k (by omega)), show 2 * (k + 1) = 2 * k + 1 + 1 from by omega, List.take_add_one, List.take_add_one, List.append_assoc]
    congr 1
    have e0 : (m.drop 32)[2 * k]? = some (m.getD (32 + 2 * k) 0) := by
      rw [List.getElem?_drop, List.getD, List.getElem?_eq_getElem (by omega)]; rfl
    have e1 : (m.drop 32)[2 * k + 1]? = some (m.getD (33 + 2 * k) 0) := by
      rw [List.getElem?_drop, show 32 + (2 * k + 1) = 33 + 2 * k from by omega, List.getD, List.getElem?_eq_getElem (by omega)]; rfl
    rw [e0, e1]
    rfl
theorem jnl_mem {m : List Int} {k i : Nat} (h : i < k) : jat m i ∈ jnl m k := List.mem_map.2 ⟨i, List.mem_range.2 h, rfl⟩
theorem jnl_words {m : List Int} {k : Nat} (h : chkE (jnl m k) m.length = 0) : listed (jnl m k) = (m.drop 32).take (2 * k) := by
  obtain ⟨hs, hl, hm, _⟩ := chk_iff.1 h
  rw [jnl_length] at hl
  have := sizeB_bd hs
  refine listed_jnl (fun i hi hlt => ?_) (by omega)
  have h2 := mayB_bd (hm _ (jnl_mem hi))
  rw [jat, if_pos hlt] at h2
  exact absurd h2.2.1 (by simp)
theorem listed_inj : ∀ {l o : List (Int × Int)}, listed l = listed o → l = o := by
  intro l
  induction l with
  | nil => intro o h; cases o with
    | nil => rfl
    | cons => simp [listed] at h
  | cons e l ih => intro o h; cases o with
    | nil => simp [listed] at h
    | cons f o =>
      simp only [listed, List.cons.injEq] at h
      rw [ih h.2.2, show e = f from Prod.ext h.1 h.2.1]
theorem listed_iff {l o : List (Int × Int)} : decide (listed l = listed o) = decide (l = o) := by
  by_cases h : l = o
  · simp [h]
  · rw [decide_eq_false h, decide_eq_false (fun he => h (listed_inj he))]
theorem listed_at : ∀ {l : List (Int × Int)} {i : Nat} {x : Int × Int}, l[i]? = some x → (listed l)[2 * i]? = some x.1 ∧ (listed l)[2 * i + 1]? = some x.2 := by
  intro l
  induction l with
  | nil => intro i x h; simp at h
  | cons e l ih =>
    intro i x h
    cases i with
    | zero => simp at h; subst h; exact ⟨rfl, rfl⟩
    | succ i =>
      have := ih (i := i) (x := x) (by simpa using h)
      rw [show 2 * (i + 1) = 2 * i + 1 + 1 from by omega]
      exact this
theorem splice_len {m cs : List Int} {off : Nat} (h : off + cs.length ≤ m.length) : (splice m off cs).length = m.length := by
  simp [splice]; omega
theorem splice_in {m cs : List Int} {off j : Nat} {v : Int} (h : off + cs.length ≤ m.length) (hj : cs[j]? = some v) : (splice m off cs).getD (off + j) 0 = v := by
  obtain ⟨hlt, rfl⟩ := List.getElem?_eq_some_iff.1 hj
  rw [List.getD, splice, List.getElem?_append_right (by simp; omega), List.getElem?_append_left (by simp; omega)]
  have : off + j - (List.take off m).length = j := by simp; omega
  rw [this, List.getElem?_eq_getElem hlt]
  rfl
theorem jnl_back {m : List Int} {l : List (Int × Int)} (h : chkE l m.length = 0) : jnl (splice m 32 (listed l)) l.length = l := by
  obtain ⟨hs, hl, hm, _⟩ := chk_iff.1 h
  have hsz := sizeB_bd hs
  have hll := listed_length l
  apply List.ext_getElem?
  intro i
  by_cases hi : i < l.length
  · have hx : l[i]? = some l[i] := List.getElem?_eq_getElem hi
    obtain ⟨h0, h1⟩ := listed_at hx
    have hb := mayB_bd (hm _ (List.getElem_mem hi))
    have g0 := splice_in (m := m) (off := 32) (by omega) h0
    have g1 := splice_in (m := m) (off := 32) (by omega) h1
    rw [hx, jnl, List.getElem?_map, List.getElem?_range hi]
    simp only [Option.map_some]
    rw [jat_plain (by rw [g0, splice_len (by omega)]; omega), g0, show 33 + 2 * i = 32 + (2 * i + 1) from by omega, g1]
  · rw [List.getElem?_eq_none (by rw [jnl_length]; omega), List.getElem?_eq_none (by omega)]
theorem mem_listed : ∀ {l : List (Int × Int)} {y : Int}, y ∈ listed l → ∃ x ∈ l, y = x.1 ∨ y = x.2 := by
  intro l
  induction l with
  | nil => intro y h; simp [listed] at h
  | cons e l ih =>
    intro y h
    simp only [listed, List.mem_cons] at h
    rcases h with rfl | rfl | h
    · exact ⟨e, List.mem_cons_self .., .inl rfl⟩
    · exact ⟨e, List.mem_cons_self .., .inr rfl⟩
    · obtain ⟨x, hx, h2⟩ := ih h
      exact ⟨x, List.mem_cons_of_mem _ hx, h2⟩
theorem wf_splice {m : List Int} {l : List (Int × Int)} (hm : WfU m) (hl : WfE l) (h : chkE l m.length = 0) : WfU (splice m 32 (listed l)) := by
  intro y hy
  simp only [splice, List.mem_append] at hy
  rcases hy with h1 | h1 | h1
  · exact hm _ (List.mem_of_mem_take h1)
  · obtain ⟨x, hx, h2⟩ := mem_listed h1
    have hx2 := hl x hx
    have hb := mayB_bd ((chk_iff.1 h).2.2.1 x hx)
    have hsz := sizeB_bd (chk_iff.1 h).1
    rcases h2 with rfl | rfl
    · unfold InU; omega
    · exact hx2.2
  · exact hm _ (List.mem_of_mem_drop h1)
theorem rngE_in {n a k : Int} (hs : sizeB n = true) (ha : 0 ≤ a) (hk : 0 ≤ k) (h : a + k ≤ n) : rngE n a k = 0 := by
  rw [rngE, if_pos hs, if_neg (by omega)]
theorem rdE_back {m : List Int} {l : List (Int × Int)} (h : chkE l m.length = 0) : rdE (splice m 32 (listed l)) l.length = 0 := by
  obtain ⟨hs, hl, hm, _⟩ := chk_iff.1 h
  have hsz := sizeB_bd hs
  have hll := listed_length l
  have hlen : (splice m 32 (listed l)).length = m.length := splice_len (by omega)
  rw [rdE, hlen, if_pos hs, if_neg (by omega), Int.toNat_natCast, jnl_back h, if_pos h]
end Go.Proofs.Ytmkcpnklaijkfaa
