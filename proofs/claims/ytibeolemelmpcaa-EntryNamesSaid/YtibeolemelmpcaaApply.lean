/-
  The contracts of applying entries to an image.
-/
import Derived.Test.YtibeolemelmpcaaWords
import Derived.Test.YtibeolemelmpcaaCopy
import Derived.Test.YtibeolemelmpcaaOwn
import Derived.Deep.RegionLaw
namespace Go.Proofs.Ytibeolemelmpcaa
open Go.RowKit

theorem applied_take {m : List Int} {l : List (Int × Int)} {k : Nat} {x : Int × Int} (hx : l[k]? = some x) : applied m (l.take (k + 1)) = (applied m (l.take k)).set x.1.toNat x.2 := by
  rw [List.take_add_one, hx]
  exact applied_snoc m _ x
/-- The addresses lie in an image of n words. -/
def InRange (l : List (Int × Int)) (n : Nat) : Prop := ∀ x ∈ l, 0 ≤ x.1 ∧ x.1 < n
theorem chk_len {l : List (Int × Int)} {n : Nat} (h : chkE l n = 0) : 0 < n ∧ n ≤ 3000 ∧ 256 ≤ n ∧ n ≤ 2048 := by
  obtain ⟨h1, _, _⟩ := chk_ok h
  have := sizeB_bd h1
  omega
theorem chk_range {l : List (Int × Int)} {n : Nat} (h : chkE l n = 0) : InRange l n := by
  obtain ⟨_, _, h3⟩ := chk_ok h
  intro x hx
  have := mayB_bd (okFrom_mem h3 x hx)
  omega
set_option maxHeartbeats 1600000 in
theorem entryApply_any (m : List Int) (l : List (Int × Int)) (A : Option Addr) (c : Nat) (B : Option Addr) (d : Nat) (w : World) (hA : Sl w A m.length c (fU m)) (hB : Sl w B l.length d (fE l)) (wf : WfE l) :
    Calls Try.prog 34 #[.slice A m.length c, .slice B l.length d] w (RetS w 23 1 m.length (fU (applied m l)) (if sizeB m.length then chkE l m.length else 8)) := by
  cases hs : sizeB (m.length : Int) with
  | false =>
    have hi : imgE (m.length : Int) = 8 := by simp [imgE, hs]
    go_enter Try.func34, Try.ntmps34
    go_wp2_with fail
    refine (imageCheck_any _ _ _ _).mono ?_
    rintro e w1 ⟨rfl, rfl⟩
    go_wp2_with fail
    go_ret2
    exact .inr ⟨by decide, rfl, Ext.refl w⟩
  | true =>
    have hi : imgE (m.length : Int) = 0 := by simp [imgE, hs]
    by_cases h0 : chkE l m.length = 0
    · have H0 := Lib.hid h0
      have hr := chk_range h0
      go_enter Try.func34, Try.ntmps34
      go_wp2_with fail
      refine (imageCheck_any _ _ _ _).mono ?_
      rintro e w1 ⟨rfl, rfl⟩
      go_wp2_with fail
      refine (entryCheck_any l _ B d w hB wf).mono ?_
      rintro e w1 ⟨rfl, hx1⟩
      go_wp2_with fail
      refine (cloneU_any m A c w1 (hA.ext hx1) (by have := (chk_len H0.out).2.1; omega)).mono ?_
      rintro e w2 ⟨A2, c2, rfl, hown, hA2, hx2⟩
      obtain ⟨g, rfl, hg⟩ := own_head hown (chk_len H0.out).1
      replace hown := own_base hown hx1.size
      replace hg := Nat.le_trans hx1.size hg
      have hX := hx1.trans hx2
      clear hx1 hx2 hA2
      have hlm := hB.max
      unfold maxLen at hlm
      have hld := hB.le
      go_wp2_with fail
      go_loopw [27] (fun i wr => ∃ k : Nat, k ≤ l.length ∧ i = .int .i64 k ∧ wr.ownsRow w.heap.size 23 1 (.slice (some ⟨g, 0, none⟩) m.length c2) m.length (fU (applied m (l.take k))) ∧ Ext w wr) (fun i _ => l.length - (intOf i).toNat)
      case atStart => exact ⟨0, Nat.zero_le _, rfl, hown, hX⟩
      case round =>
        obtain ⟨k, hk, rfl, hown, hx⟩ := hrel
        by_cases hlt : k < l.length
        · obtain ⟨a, x, rfl, hat, g1, g2⟩ := (hB.ext hx).e_at hlt
          obtain ⟨b0, b1⟩ := hr x (mem_of_at hat)
          have hlen := applied_length (l.take k) m
          obtain ⟨y, hy, hc, hf⟩ := own_at_U hown (i := x.1.toNat) (by rw [hlen]; omega)
          have hgl := block_lt_of_cell hc
          have Hat := Lib.hid hat; have Hy := Lib.hid hy; have HL := Lib.hid hlen
          clear hat hy hlen h0
          go_wp2
          go_roundw
          case rel =>
            refine ⟨k + 1, by omega, by go_num, ?_, ?_⟩
            · rw [applied_take Hat.out]
              first | exact own_set_U (hown.alloc _) _ _ | exact (own_set_U hown _ _).alloc _
            · first | exact (hx.alloc _).setCell (p := ⟨g, x.1.toNat, none⟩) hg _ | exact (hx.setCell (p := ⟨g, x.1.toNat, none⟩) hg _).alloc _
          case measure => simp [intOf]; omega
        · obtain rfl : k = l.length := by omega
          clear h0
          go_wp2
          go_ret2
          rw [List.take_length] at hown
          exact .inl ⟨by simp [H0.out], retOwn2_mk hown hx⟩
    · have hb : (chkE l m.length != 0) = true := by simpa using h0
      go_enter Try.func34, Try.ntmps34
      go_wp2_with fail
      refine (imageCheck_any _ _ _ _).mono ?_
      rintro e w1 ⟨rfl, rfl⟩
      go_wp2_with fail
      refine (entryCheck_any l _ B d w hB wf).mono ?_
      rintro e w1 ⟨rfl, hx1⟩
      go_wp2_with fail
      go_ret2
      exact .inr ⟨by simpa using h0, rfl, hx1⟩
theorem entryApply_at (m : List Int) (l : List (Int × Int)) (n k : Nat) (hn : m.length = n) (hk : l.length = k) (A : Option Addr) (c : Nat) (B : Option Addr) (d : Nat) (w : World) (hA : Sl w A n c (fU m)) (hB : Sl w B k d (fE l)) (wf : WfE l) :
    Calls Try.prog 34 #[.slice A n c, .slice B k d] w (RetS w 23 1 n (fU (applied m l)) (if sizeB n then chkE l n else 8)) := by
  subst hn hk
  exact entryApply_any m l A c B d w hA hB wf
end Go.Proofs.Ytibeolemelmpcaa
