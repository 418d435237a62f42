/-
  The contracts of 'Get', 'Put' and 'Diff' on images.
-/
import Derived.Test.YthnonfmaamchkaaImage
import Derived.Test.YthnonfmaamchkaaLeaf
import Derived.Deep.Light
import Derived.Deep.RegionLaw
namespace Go.Proofs.Ythnonfmaamchkaa
open Go.RowKit

/-- A slice of its own and 0; or nothing, and the error. -/
def RetS' (w : World) (T size n : Nat) (xs : List Value) (er : Int) (en : Ending) (w' : World) : Prop :=
  (er = 0 ∧ RetOwn2 w T size n xs 0 en w') ∨ (er ≠ 0 ∧ en = .returned (.tuple #[.slice none 0 0, .int .i64 er]) ∧ Ext w w')
theorem rngE_ok {n a k : Int} (h : rngE n a k = 0) : sizeB n = true ∧ 0 ≤ a ∧ 0 ≤ k ∧ a ≤ n ∧ a + k ≤ n := by
  unfold rngE at h
  split at h
  · split at h
    · simp at h
    · refine ⟨by assumption, ?_⟩; omega
  · simp at h
theorem cutU {w : World} {A : Option Addr} {c : Nat} {m : List Int} (h : Sl w A m.length c (fU m)) {a k : Nat} (hk : a + k ≤ m.length) :
    Sl w (if c = a then A else A.map (·.add (a * 1))) k (c - a) (fU ((m.drop a).take k)) := by
  have hle := h.le
  have hmax := h.max
  refine ⟨by omega, by unfold maxLen at *; omega, fun h0 => ?_, fun hx => ?_⟩
  · by_cases hc : c = a
    · omega
    · rw [if_neg hc] at h0
      have := h.nil (by simpa using h0)
      omega
  · have hpos : a < m.length := by
      rcases Nat.lt_or_ge a m.length with h1 | h1
      · exact h1
      · rw [List.drop_eq_nil_of_le h1] at hx
        exact absurd (by simp [fU]) hx
    obtain ⟨ad, rfl, hc⟩ := h.cells (by intro h0; have := congrArg List.length h0; simp at this; subst this; simp at hpos)
    rw [if_neg (by omega)]
    refine ⟨ad.add (a * 1), rfl, fun j u hu => ?_⟩
    rw [add_of_add, Nat.mul_one]
    refine hc _ u ?_
    have hj : j < k := by
      have := (List.getElem?_eq_some_iff.1 hu).1
      simp at this
      omega
    simp only [fU, List.getElem?_map, List.getElem?_take, if_pos hj, List.getElem?_drop] at hu
    simpa [fU] using hu
/-- The addresses at which two images differ, among the first k. -/
def diffN (a b : List Int) (k : Nat) : List Int := ((List.range k).filter fun i => a[i]? != b[i]?).map Int.ofNat
theorem diffN_succ (a b : List Int) (k : Nat) : diffN a b (k + 1) = diffN a b k ++ if a[k]? != b[k]? then [(k : Int)] else [] := by
  simp only [diffN, List.range_succ, List.filter_append, List.map_append]
  congr 1
  by_cases h : a[k]? != b[k]? <;> simp [h]
theorem diffN_length (a b : List Int) (k : Nat) : (diffN a b k).length ≤ k := by
  simp only [diffN, List.length_map]
  exact Nat.le_trans (List.length_filter_le _ _) (by simp)
theorem mem_diffN {a b : List Int} {k : Nat} {x : Int} : x ∈ diffN a b k ↔ ∃ i, i < k ∧ x = (i : Int) ∧ a[i]? ≠ b[i]? := by
  simp only [diffN, List.mem_map, List.mem_filter, List.mem_range]
  constructor
  · rintro ⟨i, ⟨h1, h2⟩, rfl⟩
    exact ⟨i, h1, rfl, by simpa using h2⟩
  · rintro ⟨i, h1, rfl, h2⟩
    exact ⟨i, ⟨h1, by simpa using h2⟩, rfl⟩

set_option maxHeartbeats 800000 in
theorem imageCheck2_any (A : Option Addr) (n c : Nat) (a k : Int) (w : World) (hn : n ≤ 9223372036854775807) :
    Calls Try.prog 60 #[.slice A n c, .int .i64 a, .int .i64 k] w fun e w' => e = .returned (.int .i64 (rngE n a k)) ∧ w = w' := by
  cases hs : sizeB (n : Int) with
  | false =>
    have hi : imgE (n : Int) = 8 := by simp [imgE, hs]
    have hr : Hid (rngE n a k = 8) := Lib.hid (by simp [rngE, hs])
    go_enter Try.func60, Try.ntmps60
    go_wp2_with (go_at_call 53; refine (imageCheck_any _ _ _ _).mono ?_; rintro e w' ⟨rfl, rfl⟩)
    go_ret
    exact ⟨ret_int hr.out.symm, rfl⟩
  | true =>
    have hi : imgE (n : Int) = 0 := by simp [imgE, hs]
    have hr : Hid (rngE n a k = if a < 0 ∨ k < 0 ∨ a > n ∨ k > n - a then 2 else 0) := Lib.hid (by simp only [rngE, hs, if_true])
    by_cases h1 : a < 0
    · go_enter Try.func60, Try.ntmps60
      go_wp2_with (go_at_call 53; refine (imageCheck_any _ _ _ _).mono ?_; rintro e w' ⟨rfl, rfl⟩)
      go_ret
      exact ⟨ret_int (by rw [hr.out, if_pos (by omega)]), rfl⟩
    · by_cases h2 : k < 0
      · go_enter Try.func60, Try.ntmps60
        go_wp2_with (go_at_call 53; refine (imageCheck_any _ _ _ _).mono ?_; rintro e w' ⟨rfl, rfl⟩)
        go_ret
        exact ⟨ret_int (by rw [hr.out, if_pos (by omega)]), rfl⟩
      · by_cases h3 : a > n
        · go_enter Try.func60, Try.ntmps60
          go_wp2_with (go_at_call 53; refine (imageCheck_any _ _ _ _).mono ?_; rintro e w' ⟨rfl, rfl⟩)
          go_ret
          exact ⟨ret_int (by rw [hr.out, if_pos (by omega)]), rfl⟩
        · by_cases h4 : k > n - a
          · go_enter Try.func60, Try.ntmps60
            go_wp2_with (go_at_call 53; refine (imageCheck_any _ _ _ _).mono ?_; rintro e w' ⟨rfl, rfl⟩)
            go_ret
            exact ⟨ret_int (by rw [hr.out, if_pos (by omega)]), rfl⟩
          · go_enter Try.func60, Try.ntmps60
            go_wp2_with (go_at_call 53; refine (imageCheck_any _ _ _ _).mono ?_; rintro e w' ⟨rfl, rfl⟩)
            go_ret
            exact ⟨ret_int (by rw [hr.out, if_neg (by omega)]), rfl⟩
set_option maxHeartbeats 800000 in
theorem imageGet_any (m : List Int) (A : Option Addr) (c : Nat) (a k : Int) (w : World) (hA : Sl w A m.length c (fU m)) :
    Calls Try.prog 43 #[.slice A m.length c, .int .i64 a, .int .i64 k] w (RetS' w 31 1 k.toNat (fU ((m.drop a.toNat).take k.toNat)) (rngE m.length a k)) := by
  have hle := hA.le
  have hmax := hA.max
  unfold maxLen at hmax
  by_cases h0 : rngE m.length a k = 0
  · obtain ⟨hs, h1, h2, h3, h4⟩ := rngE_ok h0
    have hsz := (sizeB_bd hs).2.1
    have H0 := Lib.hid h0
    obtain ⟨x, rfl⟩ := Int.eq_ofNat_of_zero_le h1
    obtain ⟨y, rfl⟩ := Int.eq_ofNat_of_zero_le h2
    rw [Int.toNat_natCast, Int.toNat_natCast]
    obtain ⟨D, hD⟩ : ∃ D, (if c = x then A else A.map (·.add x)) = D := ⟨_, rfl⟩
    obtain ⟨S, hSl, hSs, hS⟩ : ∃ S : List Int, S.length = y ∧ Sl w D y (c - x) (fU S) ∧ (m.drop x).take y = S := by
      refine ⟨_, ?_, ?_, rfl⟩
      · simp; omega
      · have := cutU hA (a := x) (k := y) (by omega)
        rwa [Nat.mul_one, hD] at this
    rw [hS]
    have HS := Lib.hid hSl
    clear hS hSl
    have hxy : ((x : Int) + y - x).toNat = y := by omega
    go_enter Try.func43, Try.ntmps43
    go_wp2_with fail
    refine (imageCheck2_any _ _ _ _ _ _ (by omega)).mono ?_
    rintro e w' ⟨rfl, rfl⟩
    go_wp2_with fail
    have hcl := imageClone_any S D (c - x) w (by rw [HS.out]; exact hSs) (by rw [HS.out]; omega)
    rw [HS.out] at hcl
    refine hcl.mono ?_
    rintro e w1 ⟨A1, c1, rfl, hown, hA1, hx1⟩
    go_wp2_with fail
    go_ret2
    exact .inl ⟨H0.out, retOwn2_mk hown hx1⟩
  · have hb : (rngE m.length a k != 0) = true := by simpa using h0
    go_enter Try.func43, Try.ntmps43
    go_wp2_with fail
    refine (imageCheck2_any _ _ _ _ _ _ (by omega)).mono ?_
    rintro e w' ⟨rfl, rfl⟩
    go_wp2_with fail
    go_ret2
    exact .inr ⟨h0, rfl, Ext.refl w⟩
set_option maxHeartbeats 800000 in
theorem imagePut_any (m l : List Int) (A : Option Addr) (c : Nat) (a : Int) (B : Option Addr) (d : Nat) (w : World) (hA : Sl w A m.length c (fU m)) (hB : Sl w B l.length d (fU l)) :
    Calls Try.prog 44 #[.slice A m.length c, .int .i64 a, .slice B l.length d] w (RetS' w 31 1 m.length (fU (splice m a.toNat l)) (rngE m.length a l.length)) := by
  have hle := hA.le
  have hmax := hA.max
  unfold maxLen at hmax
  by_cases h0 : rngE m.length a l.length = 0
  · obtain ⟨hs, h1, h2, h3, h4⟩ := rngE_ok h0
    have hsz := (sizeB_bd hs).2.1
    have hsz1 := (sizeB_bd hs).1
    have H0 := Lib.hid h0
    obtain ⟨x, rfl⟩ := Int.eq_ofNat_of_zero_le h1
    rw [Int.toNat_natCast]
    go_enter Try.func44, Try.ntmps44
    go_wp2_with fail
    refine (imageCheck2_any _ _ _ _ _ _ (by omega)).mono ?_
    rintro e w' ⟨rfl, rfl⟩
    go_wp2_with fail
    refine (imageClone_any m A c w hA (by omega)).mono ?_
    rintro e w1 ⟨A1, c1, rfl, hown, hA1, hx1⟩
    obtain ⟨g, rfl, hg⟩ := own_head' hown (by omega)
    have hc1 := hA1.le
    have hc2 := hA1.max
    unfold maxLen at hc2
    have hB1 := hB.ext hx1
    clear h0
    by_cases hct : c1 = x
    · go_wp2_with ((with_reducible refine wpList_copyU EU rfl (.tmp 22) (.tmp 23) _ rfl hown rfl rfl hB1 x (fU_length l) (by omega) (fun h => by omega) (by omega) (fU_one l) hg ?_); intro w2 hown2 hbel2)
      go_ret2
      rw [fU_splice, hct] at hown2
      exact .inl ⟨H0.out, retOwn2_mk hown2 (Below.trans hx1 hbel2)⟩
    · go_wp2_with (with_reducible refine wpList_copyU EU rfl (.tmp 22) (.tmp 23) _ rfl hown rfl rfl hB1 x (fU_length l) (by omega) (fun h => by simp) (by omega) (fU_one l) hg ?_; intro w2 hown2 hbel2)
      go_ret2
      rw [fU_splice] at hown2
      exact .inl ⟨H0.out, retOwn2_mk hown2 (Below.trans hx1 hbel2)⟩
  · have hb : (rngE m.length a l.length != 0) = true := by simpa using h0
    go_enter Try.func44, Try.ntmps44
    go_wp2_with fail
    refine (imageCheck2_any _ _ _ _ _ _ (by omega)).mono ?_
    rintro e w' ⟨rfl, rfl⟩
    go_wp2_with fail
    go_ret2
    exact .inr ⟨h0, rfl, Ext.refl w⟩
set_option maxHeartbeats 1600000 in
/-- Two valid images of one length. -/
theorem imageDiff_any (m o : List Int) (A : Option Addr) (c : Nat) (B : Option Addr) (d : Nat) (w : World) (hA : Sl w A m.length c (fU m)) (hB : Sl w B o.length d (fU o)) (hs : sizeB m.length = true) (hl : o.length = m.length) :
    Calls Try.prog 42 #[.slice A m.length c, .slice B o.length d] w (RetOwn2 w 3 1 (diffN m o m.length).length (fI (diffN m o m.length)) 0) := by
  have hsz := sizeB_bd hs
  have hi1 : imgE (m.length : Int) = 0 := by simp [imgE, hs]
  rw [hl] at hB ⊢
  have HL := Lib.hid hl
  clear hl hs
  go_enter Try.func42, Try.ntmps42
  go_wp2_with (go_at_call 53; refine (imageCheck_any _ _ _ _).mono ?_; rintro e w' ⟨rfl, rfl⟩)
  go_loopw [7, 24] (fun v i wr => ∃ k : Nat, k ≤ m.length ∧ i = .int .i64 k ∧ wr.ownsRow w.heap.size 3 1 v (diffN m o k).length (fI (diffN m o k)) ∧ Ext w wr) (fun _ i _ => m.length - (intOf i).toNat)
  case atStart => exact ⟨0, Nat.zero_le _, rfl, own_nil _ _ _ _, Ext.refl w⟩
  case round =>
    obtain ⟨k, hk, rfl, hown, hx⟩ := hrel
    have hdl := diffN_length m o k
    have hsz2 := hx.size
    by_cases hlt : k < m.length
    · obtain ⟨a, x, rfl, hax, g1⟩ := (hA.ext hx).u_at hlt
      obtain ⟨b, y, hb, hby, g2⟩ := ((show Sl w B o.length d (fU o) by rw [HL.out]; exact hB).ext hx).u_at (k := k) (by rw [HL.out]; exact hlt)
      subst hb
      have Hs := Lib.hid (diffN_succ m o k)
      have Hax := Lib.hid hax; have Hby := Lib.hid hby
      clear hax hby hB
      by_cases hxy : x = y
      · have hq : (x != y) = false := by simp [hxy]
        have Hxy := Lib.hid hxy
        clear hxy
        go_wp2
        go_quiet (fail)
        go_wp2
        go_roundw
        case rel =>
          refine ⟨k + 1, by omega, by go_num, ?_, hx.drewN _⟩
          rw [Hs.out, Hax.out, Hby.out, Hxy.out]
          simp only [bne_self_eq_false, Bool.false_eq_true, if_false, List.append_nil]
          exact own_ext hown (ext_drewN _ _)
        case measure => simp [intOf]; omega
      · have hq : (x != y) = true := by simpa using hxy
        go_wp2
        go_quiet (fail)
        go_wp2_with (at_builtin; refine wpList_app EI rfl (.tmp 36) (.tmp 38) rfl rfl ((own_ext hown (ext_drewN wr nq)).alloc _) rfl (Sl.lit' _ _ _ _ (by simp) (by decide)) rfl (fI_one [(k : Int)]) (by omega) (by simp; omega) ?_; intro v' w' hown' hbel hat hgr)
        have hown2 : w'.ownsRow w.heap.size 3 1 v' (diffN m o (k + 1)).length (fI (diffN m o (k + 1))) := by
          rw [Hs.out, Hax.out, Hby.out, if_pos (by simpa using hxy), fI_append, List.length_append]
          exact hown'
        go_roundw
        case rel => exact ⟨k + 1, by omega, by go_num, hown2, Below.trans ((hx.drewN nq).alloc _) hbel⟩
        case measure => simp [intOf]; omega
    · obtain rfl : k = m.length := by omega
      go_wp2
      go_ret2
      exact retOwn2_mk hown hx
end Go.Proofs.Ythnonfmaamchkaa
