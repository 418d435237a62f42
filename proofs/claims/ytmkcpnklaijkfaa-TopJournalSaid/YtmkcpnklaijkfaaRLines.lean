/-
  The reference's lines of entries.
-/
import Derived.Test.YtmkcpnklaijkfaaLines
namespace Go.Proofs.Ytmkcpnklaijkfaa
open Go.RowKit
set_option maxRecDepth 100000 in
set_option maxHeartbeats 1600000 in
theorem refLines_any (l : List (Int × Int)) (A : Option Addr) (c : Nat) (w : World) (hA : Sl w A l.length c (fE l)) (hr : InRange l 2048) :
    Calls Try.prog 84 #[.slice A l.length c] w fun e w' => e = .returned (.agg (lnC l 300)) ∧ Ext w w' := by
  obtain ⟨hz, hi⟩ := zero_of_info (P := Try.prog) (t := 86) (v := .agg (Array.replicate 300 (.bool false))) (n := 300) (by kernel_rfl)
  have HR := Lib.hid hr
  have hlm := hA.max
  have hle := hA.le
  unfold maxLen at hlm
  have HI := Lib.hid hi
  clear hr hi
  go_enter Try.func84, Try.ntmps84
  go_wp2_with fail
  rw [← lnC_nil]
  go_loopw [4] (fun i wr => ∃ k : Nat, k ≤ l.length ∧ i = .int .i64 k ∧ Ext w wr ∧ Hid (wr.heap[w.heap.size + 1]? = some (.cells (lnC (l.take k) 300) 86 (0, 0))) ∧ Hid (wr.heap[w.heap.size]? = some (.cells (Array.replicate 300 (.bool false)) 86 (0, 0)))) (fun i _ => l.length - (intOf i).toNat)
  case atStart => exact ⟨0, Nat.zero_le _, rfl, ((Ext.refl w).alloc _).alloc _, Lib.hid (by have := heap_alloc_new (w.alloc (.cells (lnC [] 300) 86)) (.cells (lnC [] 300) 86); simpa using this), Lib.hid (by rw [lnC_nil]; exact (heap_alloc_old _ _ (by simp)).trans (heap_alloc_new w _))⟩
  case round =>
    obtain ⟨k, hk, rfl, hx, hH, hR⟩ := hrel
    by_cases hlt : k < l.length
    · obtain ⟨ad, x, rfl, hat, g0, g1⟩ := (hA.ext hx).e_at (k := k) hlt
      have hxr := HR.out x (List.mem_of_getElem? hat)
      have x0 : 0 ≤ x.1 := hxr.1
      have x1 : x.1 < 2048 := by have := hxr.2; omega
      have d0 : 0 ≤ x.1 / 8 := by omega
      have d1 : x.1 / 8 < 300 := by omega
      have x2 : x.1 < 2400 := by omega
      have hcell := cell_of_row wr (w.heap.size + 1) (x.1 / 8).toNat _ 86 (0, 0) hH.out
      rw [lnC_at _ (by omega)] at hcell
      have hfz : wr.frozen? ⟨w.heap.size + 1, (x.1 / 8).toNat, none⟩ = false := by simp [World.frozen?, hH.out]
      have hgl : w.heap.size + 1 < wr.heap.size := (Array.getElem?_eq_some_iff.1 hH.out).1
      obtain ⟨b, hb⟩ : ∃ b, ((l.take k).any fun e => decide (e.1 / 8 = ((x.1 / 8).toNat : Int))) = b := ⟨_, rfl⟩
      rw [hb] at hcell
      have hsn := lnC_snoc (l.take k) x 300 x0
      have HS := Lib.hid (show lnC (l.take (k + 1)) 300 = (lnC (l.take k) 300).setIfInBounds (x.1 / 8).toNat (.bool true) by rw [hsn, List.take_add_one, hat]; rfl)
      clear hb hsn hat hxr hz
      go_wp2_with fail
      go_roundw
      case rel =>
        refine ⟨k + 1, by omega, by go_num, hx.setCell (p := ⟨w.heap.size + 1, (x.1 / 8).toNat, none⟩) (Nat.le_succ _) _, Lib.hid ?_, Lib.hid ?_⟩
        · rw [HS.out]
          exact heap_setC hH.out _ _
        · rw [heap_setCell_other _ _ _ _ (by simp)]
          exact hR.out
      case measure => simp [intOf]; omega
    · obtain rfl : k = l.length := by omega
      rw [List.take_length] at hH
      have hR0 := hR.out
      have hld := run_loadVar_row (P := Try.prog) wr (w.heap.size + 1) 86 86 (lnC l 300) (0, 0) _ hH.out Try.underlying86 rfl (by rw [lnC_size]; exact HI.out)
      have hst : (storeCells ⟨w.heap.size, 0, none⟩ (lnC l 300).toList 0).run Try.prog wr = .ok () (wr.setRow w.heap.size (lnC l 300)) := by
        have h := run_storeCells_at Try.prog w.heap.size 0 86 (lnC l 300).toList 0 _ wr hR0 (by rw [Array.length_toList, lnC_size]; simp) (fun v hv => (Array.all_eq_true_iff_forall_mem.1 (lnC_one l 300)) v (by simpa using hv))
        rw [h]
        congr 2
      have hW : (wr.setRow w.heap.size (lnC l 300)).heap[w.heap.size]? = some (.cells (lnC l 300) 86 (0, 0)) := setRow_heap _ _ _ _ _ _ hR0
      have hld2 := run_loadVar_row (P := Try.prog) (wr.setRow w.heap.size (lnC l 300)) w.heap.size 86 86 (lnC l 300) (0, 0) _ hW Try.underlying86 rfl (by rw [lnC_size]; exact HI.out)
      have hxx : Ext w (wr.setRow w.heap.size (lnC l 300)) := Below.trans hx ⟨rfl, rfl, rfl, by simp [World.setRow], fun k hk => setRow_other wr w.heap.size k _ (by omega)⟩
      clear hW hR0
      go_wp2_with fail
      refine wp_load_row 86 3 (w.heap.size + 1) (.agg (lnC l 300)) rfl rfl hld ?_
      go_wp2_with fail
      refine bodyPost_ret (v := .agg (lnC l 300)) ?_ rfl ⟨rfl, hxx⟩
      simp [results, Try.results84, asAddr, hld2]
end Go.Proofs.Ytmkcpnklaijkfaa
