/-
  The contracts of counting operations.
-/
import Derived.Test.YtmkcpnklaijkfaaRPut
import Derived.Test.YtmkcpnklaijkfaaPut3
namespace Go.Proofs.Ytmkcpnklaijkfaa
open Go.RowKit
/-- How many lines have an entry, among the first n. -/
def lnN (l : List (Int × Int)) (n : Nat) : Nat := (lineL l n).length
def opE (l : List (Int × Int)) : Int := if 32 < l.length then 4 else if inrB l 2048 then 0 else 8
def opN (l : List (Int × Int)) : Int := if opE l = 0 ∧ l.length ≠ 0 then (l.length : Int) + 4 + lnN l 256 else 0
theorem lnN_succ (l : List (Int × Int)) (k : Nat) : lnN l (k + 1) = lnN l k + if inLn l k then 1 else 0 := by
  simp only [lnN, lineL, List.range_succ, List.filter_append, List.length_append]
  congr 1
  cases h : inLn l k
  · rw [List.filter_cons_of_neg (by rw [show (l.any fun e => decide (e.1 / 8 = (k : Int))) = inLn l k from rfl, h]; decide)]; rfl
  · rw [List.filter_cons_of_pos (by rw [show (l.any fun e => decide (e.1 / 8 = (k : Int))) = inLn l k from rfl, h])]; rfl
theorem lnN_le (l : List (Int × Int)) (k : Nat) : lnN l k ≤ k := by
  unfold lnN lineL
  exact Nat.le_trans (List.length_filter_le _ _) (by simp)
theorem opE_ok {l : List (Int × Int)} (h : opE l = 0) : l.length ≤ 32 ∧ ∀ e ∈ l, 0 ≤ e.1 ∧ e.1 < (2048 : Int) := by
  unfold opE at h
  split at h
  · cases h
  · split at h
    · exact ⟨by omega, inrB_iff.1 (by assumption)⟩
    · cases h
theorem lnN_300 {l : List (Int × Int)} (hr : ∀ e ∈ l, 0 ≤ e.1 ∧ e.1 < (2048 : Int)) : lnN l 300 = lnN l 256 := by
  unfold lnN
  rw [show (300 : Nat) = 256 + 44 from rfl, lineL_more hr 44]
theorem idx256 (l : List (Int × Int)) (k : Nat) (w : World) (hk : k < 256) : (Instr.index 120 (.agg (lnC l 256)) (.int .i64 k)).run Try.prog w = .ok (.bool (inLn l k)) w := by
  have h2 : (lnC l 256)[k]? = some (.bool (inLn l k)) := lnC_at l (n := 256) hk
  have h4 : (sizeOf 4).run Try.prog w = .ok 1 w := by kernel_rfl
  have h5 : ∀ w, (isAgg 4).run Try.prog w = .ok false w := fun w => by kernel_rfl
  simp [Instr.index, asIntOf, run_underlying Try.underlying120, part, h4, h5, h2]
  omega
set_option maxRecDepth 100000 in
set_option maxHeartbeats 6400000 in
theorem ops10_any (l : List (Int × Int)) (A : Option Addr) (c : Nat) (w : World) (hA : Sl w A l.length c (fE l)) :
    Calls Try.prog 42 #[.slice A l.length c] w fun e w' => e = .returned (.tuple #[.int .i64 (opN l), .int .i64 (opE l)]) ∧ Ext w w' := by
  have hlm := hA.max
  have hle := hA.le
  unfold maxLen at hlm
  by_cases h32 : 32 < l.length
  · have he : opE l = 4 := by simp [opE, h32]
    have hn : opN l = 0 := by simp [opN, he]
    have hb : decide ((32 : Int) < (l.length : Int)) = true := decide_eq_true (by omega)
    rw [he, hn]
    clear he hn h32
    go_enter Try.func42, Try.ntmps42
    go_wp2_with fail
    go_ret2
    exact ⟨rfl, Ext.refl _⟩
  · have hb : decide ((32 : Int) < (l.length : Int)) = false := decide_eq_false (by omega)
    cases hi : inrB l 2048 with
    | false =>
      have he : opE l = 8 := by simp [opE, h32, hi]
      have hn : opN l = 0 := by simp [opN, he]
      rw [he, hn]
      have HI := Lib.hid hi
      clear he hn hi h32
      go_enter Try.func42, Try.ntmps42
      go_wp2_with fail
      go_loopw [14] (fun i wr => ∃ k : Nat, k ≤ l.length ∧ i = .int .i64 k ∧ Ext w wr ∧ Hid (inrB (l.take k) 2048 = true)) (fun i _ => l.length - (intOf i).toNat)
      case atStart => exact ⟨0, Nat.zero_le _, rfl, Ext.refl _, Lib.hid rfl⟩
      case round =>
        obtain ⟨k, hk, rfl, hx, hI⟩ := hrel
        by_cases hlt : k < l.length
        · obtain ⟨ad, x, rfl, hat, g0, g1⟩ := (hA.ext hx).e_at (k := k) hlt
          have HAT := Lib.hid hat
          clear hat
          by_cases hx0 : x.1 < 0
          · go_wp2_with fail
            go_ret2
            exact ⟨rfl, (by repeat (first | assumption | exact Ext.refl _ | refine Ext.drewN ?_ _ | refine Ext.drew ?_ | refine Ext.alloc ?_ _ | refine Ext.trans ?_ (by assumption)))⟩
          · by_cases hx1 : 2048 ≤ x.1
            · go_wp2_with fail
              go_ret2
              exact ⟨rfl, (by repeat (first | assumption | exact Ext.refl _ | refine Ext.drewN ?_ _ | refine Ext.drew ?_ | refine Ext.alloc ?_ _ | refine Ext.trans ?_ (by assumption)))⟩
            · have HX := Lib.hid (show 0 ≤ x.1 ∧ x.1 < 2048 from by omega)
              have y0 : 0 ≤ x.1 := by omega
              have y1 : x.1 < 2048 := by omega
              clear hx0 hx1
              go_wp2_with fail
              go_roundw
              case rel => exact ⟨k + 1, by omega, by go_num, (by repeat (first | assumption | exact Ext.refl _ | refine Ext.drewN ?_ _ | refine Ext.drew ?_ | refine Ext.alloc ?_ _ | refine Ext.trans ?_ (by assumption))), Lib.hid (inrB_take HAT.out hI.out HX.out)⟩
              case measure => simp [intOf]; omega
        · exfalso
          have := hI.out
          rw [List.take_of_length_le (by omega), HI.out] at this
          cases this
    | true =>
      have he : opE l = 0 := by simp [opE, h32, hi]
      obtain ⟨_, hr⟩ := opE_ok he
      have hn : opN l = if l.length = 0 then 0 else (l.length : Int) + 4 + lnN l 256 := by
        unfold opN
        by_cases h : l.length = 0 <;> simp [he, h]
      have h3 := lnN_300 hr
      rw [he]
      have HN := Lib.hid (And.intro hn (And.intro hr h3))
      have hl32 : l.length ≤ 32 := by omega
      obtain ⟨NN, hNN⟩ : ∃ n, opN l = n := ⟨_, rfl⟩
      rw [hNN] at HN ⊢
      clear he hn hi h32 hr h3 hNN
      skip
      skip
      skip
      go_enter Try.func42, Try.ntmps42
      go_wp2_with fail
      go_loopw [14] (fun i wr => ∃ k : Nat, k ≤ l.length ∧ i = .int .i64 k ∧ Ext w wr) (fun i _ => l.length - (intOf i).toNat)
      case atStart => exact ⟨0, Nat.zero_le _, rfl, Ext.refl _⟩
      case round =>
        obtain ⟨k, hk, rfl, hx⟩ := hrel
        by_cases hlt : k < l.length
        · obtain ⟨ad, x, rfl, hat, g0, g1⟩ := (hA.ext hx).e_at (k := k) hlt
          obtain ⟨y0, y1⟩ := HN.out.2.1 x (List.mem_of_getElem? hat)
          clear hat
          go_wp2_with fail
          go_roundw
          case rel => exact ⟨k + 1, by omega, by go_num, (by repeat (first | assumption | exact Ext.refl _ | refine Ext.drewN ?_ _ | refine Ext.drew ?_ | refine Ext.alloc ?_ _ | refine Ext.trans ?_ (by assumption)))⟩
          case measure => simp [intOf]; omega
        · obtain rfl : k = l.length := by omega
          cases hz0 : decide (l.length = 0) with
          | true =>
            have h0 : l.length = 0 := of_decide_eq_true hz0
            have hb0 : ((l.length : Int) == 0) = true := by rw [h0]; rfl
            have HV := Lib.hid (show NN = 0 by rw [HN.out.1, if_pos h0])
            clear h0 hz0
            go_wp2_with fail
            go_ret2
            rw [HV.out]
            exact ⟨rfl, hx⟩
          | false =>
            have h0 : ¬ l.length = 0 := of_decide_eq_false hz0
            have hb0 : ((l.length : Int) == 0) = false := by simpa using h0
            have HV := Lib.hid (show NN = (l.length : Int) + 4 + lnN l 256 by rw [HN.out.1, if_neg h0])
            have hw4 : IntKind.i64.wrap ((l.length : Int) + 4) = (l.length : Int) + 4 := by rw [IntKind.wrap_i64]; omega
            clear hz0 h0
            have HLN := Lib.hid (lines_any l A c wr (hA.ext hx) HN.out.2.1)
            go_wp2_with fail
            refine HLN.out.mono ?_
            rintro e w5 ⟨rfl, hx5⟩
            have hX5 := hx.trans hx5
            clear hx5 HLN hx
            have HX := Lib.hid (fun k w (hk : k < 256) => idx256 l k w hk)
            go_wp2_with fail
            go_loopw [6, 35] (fun n i wr => ∃ k : Nat, k ≤ 256 ∧ i = .int .i64 k ∧ n = .int .i64 ((l.length : Int) + 4 + lnN l k) ∧ wr = w5) (fun _ i _ => 256 - (intOf i).toNat)
            case atStart => exact ⟨0, Nat.zero_le _, rfl, by simp [lnN, lineL], rfl⟩
            case round =>
              obtain ⟨k, hk, rfl, rfl, rfl⟩ := hrel
              by_cases hlt2 : k < 256
              · have hid := fun w => HX.out k w hlt2
                have hsu := lnN_succ l k
                have hle2 := lnN_le l k
                cases hb : inLn l k with
                | false =>
                  rw [hb] at hid hsu
                  have HS := Lib.hid hsu
                  clear hsu hb
                  go_wp2_with fail
                  go_roundw
                  case rel => exact ⟨k + 1, by omega, by go_num, by rw [HS.out]; simp, by trivial⟩
                  case measure => simp [intOf]; omega
                | true =>
                  rw [hb] at hid hsu
                  have HS := Lib.hid hsu
                  have hw5 : IntKind.i64.wrap ((l.length : Int) + 4 + lnN l k + 1) = (l.length : Int) + 4 + lnN l k + 1 := by rw [IntKind.wrap_i64]; omega
                  clear hsu hb
                  go_wp2_with fail
                  go_roundw
                  case rel => exact ⟨k + 1, by omega, by go_num, by rw [HS.out]; first | (simp; omega) | (simp; done) | (congr 1; simp; omega), by trivial⟩
                  case measure => simp [intOf]; omega
              · obtain rfl : k = 256 := by omega
                go_wp2_with fail
                go_ret2
                rw [HV.out]
                exact ⟨rfl, hX5⟩
set_option maxRecDepth 100000 in
set_option maxHeartbeats 6400000 in
theorem refOps10_any (l : List (Int × Int)) (A : Option Addr) (c : Nat) (w : World) (hA : Sl w A l.length c (fE l)) :
    Calls Try.prog 43 #[.slice A l.length c] w fun e w' => e = .returned (.tuple #[.int .i64 (opN l), .int .i64 (opE l)]) ∧ Ext w w' := by
  have hlm := hA.max
  have hle := hA.le
  unfold maxLen at hlm
  by_cases h32 : 32 < l.length
  · have he : opE l = 4 := by simp [opE, h32]
    have hn : opN l = 0 := by simp [opN, he]
    have hb : decide ((32 : Int) < (l.length : Int)) = true := decide_eq_true (by omega)
    rw [he, hn]
    clear he hn h32
    go_enter Try.func43, Try.ntmps43
    go_wp2_with fail
    go_ret2
    exact ⟨rfl, Ext.refl _⟩
  · have hb : decide ((32 : Int) < (l.length : Int)) = false := decide_eq_false (by omega)
    cases hi : inrB l 2048 with
    | false =>
      have he : opE l = 8 := by simp [opE, h32, hi]
      have hn : opN l = 0 := by simp [opN, he]
      rw [he, hn]
      have HI := Lib.hid hi
      clear he hn hi h32
      go_enter Try.func43, Try.ntmps43
      go_wp2_with fail
      go_loopw [4] (fun i wr => ∃ k : Nat, k ≤ l.length ∧ i = .int .i64 k ∧ Ext w wr ∧ Hid (inrB (l.take k) 2048 = true)) (fun i _ => l.length - (intOf i).toNat)
      case atStart => exact ⟨0, Nat.zero_le _, rfl, Ext.refl _, Lib.hid rfl⟩
      case round =>
        obtain ⟨k, hk, rfl, hx, hI⟩ := hrel
        by_cases hlt : k < l.length
        · obtain ⟨ad, x, rfl, hat, g0, g1⟩ := (hA.ext hx).e_at (k := k) hlt
          have HAT := Lib.hid hat
          clear hat
          by_cases hx0 : x.1 < 0
          · go_wp2_with fail
            go_ret2
            exact ⟨rfl, (by repeat (first | assumption | exact Ext.refl _ | refine Ext.drewN ?_ _ | refine Ext.drew ?_ | refine Ext.alloc ?_ _ | refine Ext.trans ?_ (by assumption)))⟩
          · by_cases hx1 : 2048 ≤ x.1
            · go_wp2_with fail
              go_ret2
              exact ⟨rfl, (by repeat (first | assumption | exact Ext.refl _ | refine Ext.drewN ?_ _ | refine Ext.drew ?_ | refine Ext.alloc ?_ _ | refine Ext.trans ?_ (by assumption)))⟩
            · have HX := Lib.hid (show 0 ≤ x.1 ∧ x.1 < 2048 from by omega)
              have y0 : 0 ≤ x.1 := by omega
              have y1 : x.1 < 2048 := by omega
              clear hx0 hx1
              go_wp2_with fail
              go_roundw
              case rel => exact ⟨k + 1, by omega, by go_num, (by repeat (first | assumption | exact Ext.refl _ | refine Ext.drewN ?_ _ | refine Ext.drew ?_ | refine Ext.alloc ?_ _ | refine Ext.trans ?_ (by assumption))), Lib.hid (inrB_take HAT.out hI.out HX.out)⟩
              case measure => simp [intOf]; omega
        · exfalso
          have := hI.out
          rw [List.take_of_length_le (by omega), HI.out] at this
          cases this
    | true =>
      have he : opE l = 0 := by simp [opE, h32, hi]
      obtain ⟨_, hr⟩ := opE_ok he
      have hn : opN l = if l.length = 0 then 0 else (l.length : Int) + 4 + lnN l 256 := by
        unfold opN
        by_cases h : l.length = 0 <;> simp [he, h]
      have h3 := lnN_300 hr
      rw [he]
      have HN := Lib.hid (And.intro hn (And.intro hr h3))
      have hl32 : l.length ≤ 32 := by omega
      obtain ⟨NN, hNN⟩ : ∃ n, opN l = n := ⟨_, rfl⟩
      rw [hNN] at HN ⊢
      clear he hn hi h32 hr h3 hNN
      obtain ⟨hz, hi⟩ := zero_of_info (P := Try.prog) (t := 86) (v := .agg (Array.replicate 300 (.bool false))) (n := 300) (by kernel_rfl)
      have HZI := Lib.hid hi
      clear hi
      go_enter Try.func43, Try.ntmps43
      go_wp2_with fail
      go_loopw [4] (fun i wr => ∃ k : Nat, k ≤ l.length ∧ i = .int .i64 k ∧ Ext w wr) (fun i _ => l.length - (intOf i).toNat)
      case atStart => exact ⟨0, Nat.zero_le _, rfl, Ext.refl _⟩
      case round =>
        obtain ⟨k, hk, rfl, hx⟩ := hrel
        by_cases hlt : k < l.length
        · obtain ⟨ad, x, rfl, hat, g0, g1⟩ := (hA.ext hx).e_at (k := k) hlt
          obtain ⟨y0, y1⟩ := HN.out.2.1 x (List.mem_of_getElem? hat)
          clear hat
          go_wp2_with fail
          go_roundw
          case rel => exact ⟨k + 1, by omega, by go_num, (by repeat (first | assumption | exact Ext.refl _ | refine Ext.drewN ?_ _ | refine Ext.drew ?_ | refine Ext.alloc ?_ _ | refine Ext.trans ?_ (by assumption)))⟩
          case measure => simp [intOf]; omega
        · obtain rfl : k = l.length := by omega
          cases hz0 : decide (l.length = 0) with
          | true =>
            have h0 : l.length = 0 := of_decide_eq_true hz0
            have hb0 : ((l.length : Int) == 0) = true := by rw [h0]; rfl
            have HV := Lib.hid (show NN = 0 by rw [HN.out.1, if_pos h0])
            clear h0 hz0
            go_wp2_with fail
            go_ret2
            rw [HV.out]
            exact ⟨rfl, hx⟩
          | false =>
            have h0 : ¬ l.length = 0 := of_decide_eq_false hz0
            have hb0 : ((l.length : Int) == 0) = false := by simpa using h0
            have HV := Lib.hid (show NN = (l.length : Int) + 4 + lnN l 256 by rw [HN.out.1, if_neg h0])
            have hw4 : IntKind.i64.wrap ((l.length : Int) + 4) = (l.length : Int) + 4 := by rw [IntKind.wrap_i64]; omega
            clear hz0 h0
            have HLN := Lib.hid (refLines_any l A c wr (hA.ext hx) HN.out.2.1)
            go_wp2_with fail
            refine HLN.out.mono ?_
            rintro e w5 ⟨rfl, hx5⟩
            have hst := run_storeCells_new (P := Try.prog) w5 86 (Array.replicate 300 (.bool false)) (lnC l 300) (by rw [lnC_size]; exact HZI.out) (by simp [lnC_size]) (lnC_one _ _)
            have hX5 := (hx.trans hx5).alloc (Obj.cells (lnC l 300) 86)
            have hH6 := heap_alloc_new w5 (Obj.cells (lnC l 300) 86)
            have HH6 := Lib.hid (And.intro hX5 hH6)
            clear hX5 hH6 hx hx5 HLN
            go_wp2_with fail
            obtain ⟨W6, hW6⟩ : ∃ W, W = w5.alloc (Obj.cells (lnC l 300) 86) := ⟨_, rfl⟩
            obtain ⟨gi, hgi⟩ : ∃ g, w5.heap.size = g := ⟨_, rfl⟩
            obtain ⟨hX5, hH6⟩ := HH6.out
            rw [← hW6] at hX5 hH6 ⊢
            rw [hgi] at hH6 ⊢
            clear hW6 hgi HH6 hst
            have HGG := Lib.hid hH6
            clear hH6
            go_loopw [5, 7] (fun n i wr => ∃ k : Nat, k ≤ 300 ∧ i = .int .i64 k ∧ n = .int .i64 ((l.length : Int) + 4 + lnN l k) ∧ wr = W6) (fun _ i _ => 300 - (intOf i).toNat)
            case atStart => exact ⟨0, Nat.zero_le _, rfl, by simp [lnN, lineL], rfl⟩
            case round =>
              obtain ⟨k, hk, rfl, rfl, rfl⟩ := hrel
              by_cases hlt2 : k < 300
              · have hcell := cell_of_row wr gi k _ 86 (0, 0) HGG.out
                rw [lnC_at _ hlt2] at hcell
                rw [show (l.any fun e => decide (e.1 / 8 = (k : Int))) = inLn l k from rfl] at hcell
                have hgl := (Array.getElem?_eq_some_iff.1 HGG.out).1
                have hsu := lnN_succ l k
                have hle2 := lnN_le l k
                cases hb : inLn l k with
                | false =>
                  rw [hb] at hcell hsu
                  have HS := Lib.hid hsu
                  clear hsu hb
                  go_wp2_with fail
                  go_roundw
                  case rel => exact ⟨k + 1, by omega, by go_num, by rw [HS.out]; simp, by trivial⟩
                  case measure => simp [intOf]; omega
                | true =>
                  rw [hb] at hcell hsu
                  have HS := Lib.hid hsu
                  have hw5 : IntKind.i64.wrap ((l.length : Int) + 4 + lnN l k + 1) = (l.length : Int) + 4 + lnN l k + 1 := by rw [IntKind.wrap_i64]; omega
                  clear hsu hb
                  go_wp2_with fail
                  go_roundw
                  case rel => exact ⟨k + 1, by omega, by go_num, by rw [HS.out]; first | (simp; omega) | (simp; done) | (congr 1; simp; omega), by trivial⟩
                  case measure => simp [intOf]; omega
              · obtain rfl : k = 300 := by omega
                have HVV := Lib.hid (show NN = (l.length : Int) + 4 + lnN l 300 by rw [HN.out.2.2]; exact HV.out)
                go_wp2_with fail
                go_ret2
                rw [HVV.out]
                exact ⟨rfl, hX5⟩
end Go.Proofs.Ytmkcpnklaijkfaa
