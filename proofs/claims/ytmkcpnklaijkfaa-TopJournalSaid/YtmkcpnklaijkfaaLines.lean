/-
  The lines of entries: an array of truth values.
-/
import Derived.Test.YtmkcpnklaijkfaaDV
import Derived.Test.YtmkcpnklaijkfaaGB
import Derived.Deep.WholeRow
namespace Go.Proofs.Ytmkcpnklaijkfaa
open Go.RowKit
/-- The lines with an address of an entry, as cells. -/
def lnC (l : List (Int × Int)) (n : Nat) : Array Value := ((List.range n).map fun i : Nat => Value.bool (l.any fun e => decide (e.1 / 8 = (i : Int)))).toArray
theorem lnC_size (l : List (Int × Int)) (n : Nat) : (lnC l n).size = n := by simp [lnC]
theorem lnC_nil (n : Nat) : lnC [] n = Array.replicate n (.bool false) := by
  apply Array.ext
  · simp [lnC]
  · intro i h1 h2
    simp [lnC]
theorem lnC_at (l : List (Int × Int)) {n i : Nat} (h : i < n) : (lnC l n)[i]? = some (.bool (l.any fun e => decide (e.1 / 8 = (i : Int)))) := by
  simp [lnC, h]
theorem lnC_snoc (l : List (Int × Int)) (e : Int × Int) (n : Nat) (h0 : 0 ≤ e.1) : (lnC l n).setIfInBounds (e.1 / 8).toNat (.bool true) = lnC (l ++ [e]) n := by
  apply Array.ext
  · simp [lnC]
  · intro i h1 h2
    simp only [lnC, List.size_toArray, List.length_map, List.length_range, Array.size_setIfInBounds] at h1 h2
    simp only [lnC, List.getElem_toArray, List.getElem_map, List.getElem_range, List.any_append, List.any_cons, List.any_nil, Bool.or_false]
    by_cases h : (e.1 / 8).toNat = i
    · have h' : e.1 / 8 = (i : Int) := by omega
      simp [h']
    · have h' : ¬ e.1 / 8 = (i : Int) := by omega
      simp [h, h']
theorem lnC_one (l : List (Int × Int)) (n : Nat) : (lnC l n).all (·.oneCell') = true := by
  simp [lnC, Value.oneCell']
theorem heap_setC {w : World} {g : Nat} {cur : Array Value} {t : TypeId} (hg : w.heap[g]? = some (.cells cur t (0, 0))) (i : Nat) (v : Value) : (w.setCell ⟨g, i, none⟩ v).heap[g]? = some (.cells (cur.setIfInBounds i v) t (0, 0)) := by
  rw [setCell_eq_setRow w g i cur t (0, 0) v hg]
  exact setRow_heap w g cur _ _ _ hg
theorem setC_self {w : World} {g : Nat} {cur : Array Value} {t : TypeId} (hg : w.heap[g]? = some (.cells cur t (0, 0))) : w.setRow g cur = w := setRow_self w g cur t (0, 0) hg
section
variable {P : Program}
theorem wp_load_row {w : World} {o : Oper} {a : Act} {K : Act → World → Prop} {Q : Exit → Act → World → Prop} (T : TypeId) (p : Nat) (g : Nat) (v : Value) (ho : o.op = .load T (.tmp p)) (hp : a.eval (.tmp p) = .pointer (some ⟨g, 0, none⟩))
    (hl : (loadVar T ⟨g, 0, none⟩).run P w = .ok v w) (h : K (a.put o.dst v) w) : o.wp P a w K Q := by
  unfold Oper.wp execOp
  simp only [ho, hp, Instr.loadAt, Instr.sureAddr, Sem.run_bind, Sem.run_pure, Result.andThen_ok, hl]
  exact h
end
set_option maxRecDepth 100000 in
set_option maxHeartbeats 1600000 in
theorem lines_any (l : List (Int × Int)) (A : Option Addr) (c : Nat) (w : World) (hA : Sl w A l.length c (fE l)) (hr : InRange l 2048) :
    Calls Try.prog 83 #[.slice A l.length c] w fun e w' => e = .returned (.agg (lnC l 256)) ∧ Ext w w' := by
  obtain ⟨hz, hi⟩ := zero_of_info (P := Try.prog) (t := 120) (v := .agg (Array.replicate 256 (.bool false))) (n := 256) (by kernel_rfl)
  have HR := Lib.hid hr
  have hlm := hA.max
  have hle := hA.le
  unfold maxLen at hlm
  have HI := Lib.hid hi
  clear hr hi
  go_enter Try.func83, Try.ntmps83
  go_wp2_with fail
  rw [← lnC_nil]
  go_loopw [7] (fun i wr => ∃ k : Nat, k ≤ l.length ∧ i = .int .i64 k ∧ Ext w wr ∧ Hid (wr.heap[w.heap.size]? = some (.cells (lnC (l.take k) 256) 120 (0, 0)))) (fun i _ => l.length - (intOf i).toNat)
  case atStart => exact ⟨0, Nat.zero_le _, rfl, (Ext.refl w).alloc _, Lib.hid (heap_alloc_new w _)⟩
  case round =>
    obtain ⟨k, hk, rfl, hx, hH⟩ := hrel
    by_cases hlt : k < l.length
    · obtain ⟨ad, x, rfl, hat, g0, g1⟩ := (hA.ext hx).e_at (k := k) hlt
      have hxr := HR.out x (List.mem_of_getElem? hat)
      have x0 : 0 ≤ x.1 := hxr.1
      have x1 : x.1 < 2048 := by have := hxr.2; omega
      have d0 : 0 ≤ x.1 / 8 := by omega
      have d1 : x.1 / 8 < 256 := by omega
      have hcell := cell_of_row wr w.heap.size (x.1 / 8).toNat _ 120 (0, 0) hH.out
      rw [lnC_at _ (by omega)] at hcell
      have hfz : wr.frozen? ⟨w.heap.size, (x.1 / 8).toNat, none⟩ = false := by simp [World.frozen?, hH.out]
      have hgl : w.heap.size < wr.heap.size := (Array.getElem?_eq_some_iff.1 hH.out).1
      obtain ⟨b, hb⟩ : ∃ b, ((l.take k).any fun e => decide (e.1 / 8 = ((x.1 / 8).toNat : Int))) = b := ⟨_, rfl⟩
      rw [hb] at hcell
      have hsn := lnC_snoc (l.take k) x 256 x0
      have HS := Lib.hid (show lnC (l.take (k + 1)) 256 = (lnC (l.take k) 256).setIfInBounds (x.1 / 8).toNat (.bool true) by rw [hsn, List.take_add_one, hat]; rfl)
      clear hb hsn hat hxr hz
      go_wp2_with fail
      go_roundw
      case rel =>
        refine ⟨k + 1, by omega, by go_num, ?_, Lib.hid ?_⟩
        · first | exact (hx.alloc _).setCell (p := ⟨w.heap.size, (x.1 / 8).toNat, none⟩) (Nat.le_refl _) _ | exact (hx.setCell (p := ⟨w.heap.size, (x.1 / 8).toNat, none⟩) (Nat.le_refl _) _).alloc _
        · rw [HS.out]
          first | exact heap_setC ((heap_alloc_old wr _ hgl).trans hH.out) _ _ | exact (heap_alloc_old _ _ (by simpa using hgl)).trans (heap_setC hH.out _ _)
      case measure => simp [intOf]; omega
    · obtain rfl : k = l.length := by omega
      rw [List.take_length] at hH
      have hld := run_loadVar_row (P := Try.prog) wr w.heap.size 120 120 (lnC l 256) (0, 0) _ hH.out Try.underlying120 rfl (by rw [lnC_size]; exact HI.out)
      have hst : (storeCells ⟨w.heap.size, 0, none⟩ (lnC l 256).toList 0).run Try.prog wr = .ok () wr := by
        have h := run_storeCells_at Try.prog w.heap.size 0 120 (lnC l 256).toList 0 (lnC l 256) wr hH.out (by rw [Array.length_toList]; omega) (fun v hv => (Array.all_eq_true_iff_forall_mem.1 (lnC_one l 256)) v (by simpa using hv))
        rw [h]
        congr 1
        have e : ((lnC l 256).toList.take (0 + 0) ++ (lnC l 256).toList ++ (lnC l 256).toList.drop (0 + 0 + (lnC l 256).toList.length)).toArray = lnC l 256 := by
          rw [show (0 + 0 : Nat) = 0 from rfl, List.take_zero, List.nil_append, Nat.zero_add, List.drop_length, List.append_nil, Array.toArray_toList]
        rw [e]
        exact setC_self hH.out
      go_wp2_with fail
      refine wp_load_row 120 2 w.heap.size (.agg (lnC l 256)) rfl rfl hld ?_
      go_wp2_with fail
      refine bodyPost_ret (v := .agg (lnC l 256)) ?_ rfl ⟨rfl, hx⟩
      simp [results, Try.results83, asAddr, hld]
end Go.Proofs.Ytmkcpnklaijkfaa
