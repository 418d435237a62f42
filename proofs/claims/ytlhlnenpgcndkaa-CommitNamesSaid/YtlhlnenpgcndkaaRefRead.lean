/-
  The contracts of reading entries from the journal of an image: the reference's.
-/
import Derived.Test.YtlhlnenpgcndkaaRead
namespace Go.Proofs.Ytlhlnenpgcndkaa
open Go.RowKit

theorem mayB_len (n : Int) : mayB n n = false := by simp [mayB]
theorem chk_not {l : List (Int × Int)} {words : Int} {x : Int × Int} (hx : x ∈ l) (h : mayB x.1 words = false) : chkE l words ≠ 0 := by
  intro h0
  have := (chk_iff.1 h0).2.2.1 x hx
  rw [h] at this
  cases this
theorem jat_lt {m : List Int} {i : Nat} {x0 x1 : Int} (h0 : m.getD (32 + 2 * i) 0 = x0) (h1 : m.getD (33 + 2 * i) 0 = x1) (h : ¬ (m.length : Int) < x0) : jat m i = (x0, x1) := by
  rw [jat, h0, h1, if_neg h]
theorem jat_ge {m : List Int} {i : Nat} {x0 : Int} (h0 : m.getD (32 + 2 * i) 0 = x0) (h : (m.length : Int) ≤ x0) : (jat m i).1 = m.length := by
  rw [jat, h0]
  simp only
  split <;> omega
/-- What 'Journal' gives. -/
def JnP (w : World) (T n : Nat) (xs : List Value) (er : Int) (en : Ending) (w' : World) : Prop :=
  (er = 0 ∧ ∃ A c, en = .returned (.tuple #[.slice A n c, .bool true]) ∧ w'.ownsRow w.heap.size T 2 (.slice A n c) n xs ∧ Sl w' A n c xs ∧ Ext w w') ∨
  (er ≠ 0 ∧ ∃ A k c, en = .returned (.tuple #[.slice A k c, .bool false]) ∧ Ext w w')
set_option maxHeartbeats 1600000 in
theorem refJournal_any (m : List Int) (t : Nat) (A : Option Addr) (c : Nat) (w : World) (hA : Sl w A m.length c (fU m)) (wf : WfU m) (hs : sizeB m.length = true) (ht : t ≤ 32) :
    Calls Try.prog 44 #[.slice A m.length c, .int .i64 (t : Int)] w (JnP w 25 t (fE (jnl m t)) (chkE (jnl m t) m.length)) := by
  have hsz := sizeB_bd hs
  have hle := hA.le
  have hmax := hA.max
  unfold maxLen at hmax
  clear hs
  go_enter Try.func44, Try.ntmps44
  go_wp2
  go_loopw [6, 7] (fun v i wr => ∃ k : Nat, k ≤ t ∧ i = .int .i64 k ∧ wr.ownsRow w.heap.size 25 2 v k (fE (jnl m k)) ∧ Ext w wr) (fun _ i _ => t - (intOf i).toNat)
  case atStart => exact ⟨0, Nat.zero_le _, rfl, own_nil _ _ _ _, Ext.refl w⟩
  case round =>
    obtain ⟨k, hk, rfl, hown, hx⟩ := hrel
    have hsz2 := hx.size
    by_cases hlt : k < t
    · obtain ⟨ad, x0, rfl, hx0, g1⟩ := (hA.ext hx).u_at (k := 32 + 2 * k) (by omega)
      obtain ⟨ad', x1, had, hx1, g2⟩ := (hA.ext hx).u_at (k := 33 + 2 * k) (by omega)
      obtain rfl : ad = ad' := by injection had
      have e0 : m.getD (32 + 2 * k) 0 = x0 := by simp [List.getD, hx0]
      have e1 : m.getD (33 + 2 * k) 0 = x1 := by simp [List.getD, hx1]
      have hx00 : 0 ≤ x0 := by rw [← e0]; exact (wf_getD wf _).1
      have Hmem := Lib.hid (show jat m k ∈ jnl m t from List.mem_map.2 ⟨k, by simpa using hlt, rfl⟩)
      by_cases hge : (m.length : Int) ≤ x0
      · have hnz : chkE (jnl m t) m.length ≠ 0 := chk_not Hmem.out (by rw [jat_ge e0 hge]; exact mayB_len _)
        have HN := Lib.hid hnz
        clear hx0 hx1 e0 e1 hnz had
        go_wp2
        go_ret2
        exact .inr ⟨HN.out, _, _, _, rfl, hx⟩
      · have hjs : jnl m (k + 1) = jnl m k ++ [(x0, x1)] := by rw [jnl_succ, jat_lt e0 e1 (by omega)]
        have HJ := Lib.hid hjs
        clear hx0 hx1 e0 e1 hjs had
        have hlt2 : x0 < m.length := by omega
        go_wp2_with (at_builtin; refine wpList_app EE rfl (.tmp 25) (.tmp 35) rfl rfl (hown.alloc _) rfl (Sl.lit' _ _ _ _ (by simp) (by decide)) rfl (fE_one [(x0, x1)]) (by omega) (by simp; omega) ?_; intro v' w' hown' hbel hat hgr)
        have hx' : Ext w w' := Below.trans (hx.alloc _) hbel
        have hown2 : w'.ownsRow w.heap.size 25 2 v' (k + 1) (fE (jnl m (k + 1))) := by
          rw [HJ.out, fE_append]
          exact hown'
        go_roundw
        case rel => exact ⟨k + 1, by omega, by go_num, hown2, hx'⟩
        case measure => simp [intOf]; omega
    · obtain rfl : k = t := by omega
      obtain ⟨A1, c1, hv, hs1⟩ := Sl.of_own hown
      subst hv
      have hck := refCheck8_any (jnl m k) m.length A1 c1 wr (by rw [jnl_length]; exact hs1)
      rw [jnl_length] at hck
      have HC := Lib.hid hck
      clear hck
      by_cases h0 : chkE (jnl m k) m.length = 0
      · have H0 := Lib.hid h0
        go_wp2_with fail
        refine HC.out.mono ?_
        rintro e w2 ⟨rfl, hd2⟩
        go_wp2_with fail
        go_ret2
        exact .inl ⟨H0.out, _, _, rfl, own_ext hown hd2.ext, hs1.ext hd2.ext, hx.trans hd2.ext⟩
      · have hb : (chkE (jnl m k) m.length == 0) = false := by simpa using h0
        go_wp2_with fail
        refine HC.out.mono ?_
        rintro e w2 ⟨rfl, hd2⟩
        go_wp2_with fail
        go_ret2
        exact .inr ⟨h0, _, _, _, rfl, hx.trans hd2.ext⟩
end Go.Proofs.Ytlhlnenpgcndkaa
