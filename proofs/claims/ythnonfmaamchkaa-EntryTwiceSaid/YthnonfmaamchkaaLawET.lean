/-
  EntryTwice: the walk, and the plain law.
-/
import Derived.Test.YthnonfmaamchkaaCut
import Derived.Test.YthnonfmaamchkaaAt
import Derived.Test.YthnonfmaamchkaaImage2
import Derived.Test.YthnonfmaamchkaaAlive08
namespace Go.Proofs.Ythnonfmaamchkaa
open Go.RowKit

theorem applied_other {l : List (Int × Int)} {i : Nat} : ∀ {m : List Int}, (∀ e ∈ l, e.1.toNat ≠ i) → (applied m l)[i]? = m[i]? := by
  induction l with
  | nil => intro m _; rfl
  | cons e l ih =>
    intro m h
    have h1 : applied m (e :: l) = applied (m.set e.1.toNat e.2) l := rfl
    rw [h1, ih (fun x hx => h x (List.mem_cons_of_mem _ hx)), List.getElem?_set_ne (h e (List.mem_cons_self ..))]
theorem applied_at {l : List (Int × Int)} {x : Int × Int} : ∀ {m : List Int}, (l.map Prod.fst).Nodup → (∀ e ∈ l, 0 ≤ e.1 ∧ e.1 < m.length) → x ∈ l → (applied m l)[x.1.toNat]? = some x.2 := by
  induction l with
  | nil => intro m _ _ h; cases h
  | cons e l ih =>
    intro m hn hr hx
    have h1 : applied m (e :: l) = applied (m.set e.1.toNat e.2) l := rfl
    simp only [List.map_cons, List.nodup_cons, List.mem_map] at hn
    rw [h1]
    have he := hr e (List.mem_cons_self ..)
    rcases List.mem_cons.1 hx with rfl | hx
    · rw [applied_other (fun y hy => ?_), List.getElem?_set_self (by omega)]
      have hy2 := hr y (List.mem_cons_of_mem _ hy)
      intro hyx
      exact hn.1 ⟨y, hy, by omega⟩
    · exact ih hn.2 (fun y hy => by simpa using hr y (List.mem_cons_of_mem _ hy)) hx
theorem set_same {m : List Int} {i : Nat} {v : Int} (h : m[i]? = some v) : m.set i v = m := by
  apply List.ext_getElem?
  intro j
  by_cases hj : i = j
  · subst hj
    obtain ⟨hlt, rfl⟩ := List.getElem?_eq_some_iff.1 h
    simp
  · rw [List.getElem?_set_ne hj]
theorem applied_same {l : List (Int × Int)} {m : List Int} (h : ∀ e ∈ l, m[e.1.toNat]? = some e.2) : applied m l = m := by
  induction l with
  | nil => rfl
  | cons e l ih =>
    have h1 : applied m (e :: l) = applied (m.set e.1.toNat e.2) l := rfl
    rw [h1, set_same (h e (List.mem_cons_self ..))]
    exact ih (fun x hx => h x (List.mem_cons_of_mem _ hx))
theorem applied_twice {l : List (Int × Int)} {m : List Int} (h : chkE l m.length = 0) : applied (applied m l) l = applied m l := by
  obtain ⟨_, _, _, hn⟩ := chk_iff.1 h
  exact applied_same fun e he => applied_at hn (chk_range h) he
theorem diff_mem {l : List (Int × Int)} {m : List Int} (h : chkE l m.length = 0) {x : Int} (hx : x ∈ diffN m (applied m l) m.length) : (∃ e ∈ l, e.1 = x) ∧ 16 ≤ x ∧ (x ≤ 23 ∨ 96 ≤ x) := by
  obtain ⟨i, _, rfl, hne⟩ := mem_diffN.1 hx
  have hex : ∃ e ∈ l, e.1 = (i : Int) := by
    refine Classical.byContradiction fun hno => hne ?_
    rw [applied_other (fun e he hei => hno ⟨e, he, ?_⟩)]
    have := chk_range h e he
    omega
  obtain ⟨e, he, hei⟩ := hex
  have := mayB_bd ((chk_iff.1 h).2.2.1 e he)
  exact ⟨⟨e, he, hei⟩, by omega, by omega⟩

theorem Sl.u_at' {w : World} {A : Option Addr} {n c : Nat} {m : List Int} (h : Sl w A n c (fU m)) {k : Nat} (hk : k < m.length) : ∃ ad x, A = some ad ∧ m[k]? = some x ∧ w.cell? (ad.add k) = some (.int .u64 x) := h.u_at hk
theorem any_take {l : List (Int × Int)} {k : Nat} {x : Int × Int} {y : Int} (h : l[k]? = some x) :
    (l.take (k + 1)).any (fun z => decide (z.1 = y)) = ((l.take k).any (fun z => decide (z.1 = y)) || decide (x.1 = y)) := by
  rw [List.take_add_one, h, List.any_append]
  simp

set_option maxHeartbeats 3200000 in
set_option maxRecDepth 100000 in
theorem entryTwice_main (m : List Int) (l : List (Int × Int)) (A : Option Addr) (c : Nat) (B : Option Addr) (d : Nat) (w : World) (hA : Sl w A m.length c (fU m)) (hB : Sl w B l.length d (fE l)) (wf : WfE l)
    (hs : sizeB (m.length : Int) = true) (h0 : chkE l m.length = 0) :
    Calls Try.prog 10 #[.slice A m.length c, .slice B l.length d] w fun e w' => e = .returned (.bool true) ∧ Ext w w' := by
  have hBle := hB.le
  have hBmax := hB.max
  unfold maxLen at hBmax
  have hi : imgE (m.length : Int) = 0 := by simp [imgE, hs]
  have hsz := sizeB_bd hs
  obtain ⟨X, hX⟩ : ∃ X, applied m l = X := ⟨_, rfl⟩
  have hXl : X.length = m.length := by rw [← hX]; exact applied_length l m
  have hX2 : applied X l = X := by rw [← hX]; exact applied_twice h0
  have hXat : ∀ x ∈ l, X[x.1.toNat]? = some x.2 := fun x hx => by rw [← hX]; exact applied_at (chk_iff.1 h0).2.2.2 (chk_range h0) hx
  have hdm : ∀ x ∈ diffN m X m.length, (∃ e ∈ l, e.1 = x) ∧ 16 ≤ x ∧ (x ≤ 23 ∨ 96 ≤ x) := fun x hx => diff_mem h0 (by rw [hX]; exact hx)
  obtain ⟨D, hD⟩ : ∃ D, diffN m X m.length = D := ⟨_, rfl⟩
  rw [hD] at hdm
  have hr := chk_range h0
  have HH := Lib.hid (And.intro hX (And.intro hXl (And.intro hX2 (And.intro hXat (And.intro hdm (And.intro hD (And.intro h0 hr)))))))
  clear hX hXl hX2 hXat hdm hD h0 hr
  go_enter Try.func10, Try.ntmps10
  go_wp2_with fail
  refine (refCheck2_any _ _ _ _).mono ?_
  rintro e w1 ⟨rfl, rfl⟩
  go_wp2_with fail
  refine (refCheck8_any l _ B d w hB).mono ?_
  rintro e w1 ⟨rfl, hd1⟩
  have h0' := HH.out.2.2.2.2.2.2.1
  go_wp2_with fail
  clear h0'
  refine (entryApply_any m l A c B d w1 (hA.ext hd1.ext) (hB.ext hd1.ext) wf).mono ?_
  rintro e w2 (⟨_, A2, c2, rfl, _, hA2, hx2⟩ | ⟨hne, _⟩)
  case inr => exact absurd (by rw [if_pos hs]; exact HH.out.2.2.2.2.2.2.1) hne
  rw [HH.out.1] at hA2
  go_wp2_with fail
  refine (entryApply_at X l _ _ HH.out.2.1 rfl A2 c2 B d w2 hA2 (hB.ext (hd1.ext.trans hx2)) wf).mono ?_
  rintro e w3 (⟨_, A3, c3, rfl, _, hA3, hx3⟩ | ⟨hne, _⟩)
  case inr => exact absurd (by rw [if_pos hs]; exact HH.out.2.2.2.2.2.2.1) hne
  rw [HH.out.2.2.1] at hA3
  have hdiff := imageDiff_any m X A c A2 c2 w3 (hA.ext (hd1.ext.trans (hx2.trans hx3))) (by rw [HH.out.2.1]; exact hA2.ext hx3) hs HH.out.2.1
  rw [HH.out.2.1, HH.out.2.2.2.2.2.1] at hdiff
  have HF := Lib.hid hdiff
  clear hdiff
  go_wp2_with fail
  refine HF.out.mono ?_
  rintro e w4 ⟨A4, c4, rfl, _, hA4, hx4⟩
  go_wp2_with fail
  refine (same2_at_yes X X rfl _ _ HH.out.2.1 HH.out.2.1 A2 A3 c2 c3 w4 (hA2.ext (hx3.trans hx4)) (hA3.ext hx4)).mono ?_
  rintro e w5 ⟨rfl, hd5⟩
  have hE5 : Ext w w5 := hd1.ext.trans (hx2.trans (hx3.trans (hx4.trans hd5.ext)))
  have hA25 := hA2.ext (hx3.trans (hx4.trans hd5.ext))
  have hA45 := hA4.ext hd5.ext
  have hB5 := hB.ext hE5
  clear hA2 hA3 hA4 hA hB hx2 hx3 hx4 hd5 hd1
  go_wp2_with fail
  have hD1 := hA45.le
  have hD2 := hA45.max
  unfold maxLen at hD2
  go_loopw [11] (fun i wr => ∃ k : Nat, k ≤ l.length ∧ i = .int .i64 k ∧ Drew w5 wr) (fun i _ => l.length - (intOf i).toNat)
  case atStart => exact ⟨0, Nat.zero_le _, rfl, Drew.refl _⟩
  case round =>
    obtain ⟨k, hk, rfl, n, rfl⟩ := hrel
    by_cases hlt : k < l.length
    · obtain ⟨a, x, rfl, hat, g1, g2⟩ := hB5.e_at hlt
      obtain ⟨b0, b1⟩ := HH.out.2.2.2.2.2.2.2 x (mem_of_at hat)
      obtain ⟨a2, y, rfl, hy, g3⟩ := hA25.u_at' (m := X) (k := x.1.toNat) (by rw [HH.out.2.1]; omega)
      have hxy : y = x.2 := by
        have := HH.out.2.2.2.1 x (mem_of_at hat)
        rw [hy] at this
        exact Option.some.inj this
      subst hxy
      clear hat hy hA25 hB5 hA45
      go_wp2_with fail
      go_quiet (fail)
      go_wp2_with fail
      go_roundw
      case rel => exact ⟨k + 1, by omega, by go_num, drew_N _ _⟩
      case measure => simp [intOf]; omega
    · go_wp2_with fail
      go_loopw [12, 13, 14] (fun i _ _ wr => ∃ k : Nat, k ≤ D.length ∧ i = .int .i64 k ∧ Drew w5 wr) (fun i _ _ _ => D.length - (intOf i).toNat)
      case atStart => exact ⟨0, Nat.zero_le _, rfl, drew_N _ _⟩
      case round =>
        obtain ⟨q, hq, rfl, n2, rfl⟩ := hrel
        by_cases hlt2 : q < D.length
        · obtain ⟨a4, y, rfl, hy, g4⟩ := hA45.i_at hlt2
          obtain ⟨⟨e0, he0, hey⟩, y1, y2⟩ := HH.out.2.2.2.2.1 y (mem_of_at hy)
          have Hy := Lib.hid hey
          clear hy hey
          go_wp2_with fail
          go_loopw [13, 14] (fun b i wr => ∃ k : Nat, k ≤ l.length ∧ i = .int .i64 k ∧ b = .bool ((l.take k).any (fun z => decide (z.1 = y))) ∧ Drew w5 wr) (fun _ i _ => l.length - (intOf i).toNat)
          case atStart => exact ⟨0, Nat.zero_le _, rfl, rfl, drew_N _ _⟩
          case round =>
            obtain ⟨k2, hk2, rfl, hb, n3, rfl⟩ := hrel
            by_cases hlt3 : k2 < l.length
            · obtain ⟨aB, x, rfl, hatx, p1, p2⟩ := hB5.e_at hlt3
              have htk := any_take (y := y) hatx
              have HT := Lib.hid htk
              clear hatx htk
              cases hbb : (l.take k2).any (fun z => decide (z.1 = y)) with
              | true =>
                rw [hbb] at hb
                subst hb
                have HBB := Lib.hid hbb
                clear hbb
                go_wp2_with fail
                go_quiet (fail)
                go_wp2_with fail
                go_roundw
                case rel => exact ⟨k2 + 1, by omega, by go_num, by rw [HT.out, HBB.out]; rfl, drew_N _ _⟩
                case measure => simp [intOf]; omega
              | false =>
                rw [hbb] at hb
                subst hb
                have HBB := Lib.hid hbb
                clear hbb
                go_wp2_with fail
                go_quiet (fail)
                go_wp2_with fail
                go_roundw
                case rel => exact ⟨k2 + 1, by omega, by go_num, by rw [HT.out, HBB.out]; rfl, drew_N _ _⟩
                case measure => simp [intOf]; omega
            · have hany : (l.take k2).any (fun z => decide (z.1 = y)) = true := by
                rw [List.take_of_length_le (by omega), List.any_eq_true]
                exact ⟨e0, he0, by simp [Hy.out]⟩
              rw [hany] at hb
              subst hb
              clear hany
              go_wp2_with fail
              all_goals
                go_roundw
                case rel => exact ⟨q + 1, by omega, by go_num, drew_N _ _⟩
                case measure => simp [intOf]; omega
        · go_wp2_with fail
          refine (alive08_any _).mono ?_
          rintro e w6 ⟨rfl, hx6⟩
          go_wp2_with fail
          go_ret
          exact ⟨rfl, hE5.trans ((ext_drewN _ _).trans hx6)⟩
end Go.Proofs.Ythnonfmaamchkaa
