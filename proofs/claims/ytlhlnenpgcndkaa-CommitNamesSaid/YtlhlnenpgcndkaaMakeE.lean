/-
  'make' of entries: a row of the call's own, all zero.
-/
import Derived.Test.YtlhlnenpgcndkaaMake
namespace Go.Proofs.Ytlhlnenpgcndkaa
open Go.RowKit
/-- So many entries 0. -/
def zerosE (n : Nat) : List (Int × Int) := List.replicate n (0, 0)
theorem zerosE_length (n : Nat) : (zerosE n).length = n := by simp [zerosE]
theorem wf_zerosE (n : Nat) : WfE (zerosE n) := fun x hx => by
  have := List.eq_of_mem_replicate hx
  subst this
  unfold InI InU; decide
theorem wpList_zerosE {w : World} {ops : Array Oper} {rest : List Oper} {o : Oper} {a : Act} {Q : Exit → Act → World → Prop}
    (hg : o.guard = none) (l c : Operand) (hop : o.op = Op.makeSlice 22 l c) (n : Nat) (hn : n ≤ 100000) (kl kc : IntKind) (L C : Int) (hl : a.eval l = .int kl L) (hc : a.eval c = .int kc C) (hL : L = (n : Int)) (hC : C = (n : Int))
    (e1 : (madeCells #[Value.int .i64 0, Value.int .u64 0] (n * 2)).toList = fE (zerosE n))
    (hK : ∀ w', w'.ownsRow w.heap.size 25 2 (.slice (some ⟨w.heap.size, 0, none⟩) n n) n (fE (zerosE n)) → Ext w w' → w'.heap.size = w.heap.size + 1 → wpList Try.prog ops Q rest (a.put o.dst (.slice (some ⟨w.heap.size, 0, none⟩) n n)) w') :
    wpList Try.prog ops Q (o :: rest) a w := by
  obtain ⟨i, hi, hz, hs, hb⟩ := info_parts (show (Try.prog.info? 25).map (fun i => (i.zero, i.size, i.bytes)) = some (some (.agg #[.int .i64 0, .int .u64 0]), 2, 16) by kernel_rfl)
  have h63 : (n : Int) ≤ 9223372036854775807 := by omega
  have hbb : (i.bytes : Int) * (n : Int) ≤ 281474976710656 := by rw [hb]; omega
  have hr := run_make (P := Try.prog) w 22 25 i (.agg #[.int .i64 0, .int .u64 0]) Try.underlying22 hi hz kl kc n n (by omega) (Int.le_refl _) hbb h63
  simp only [Int.toNat_natCast] at hr
  have e2 : (madeCells (Value.agg #[.int .i64 0, .int .u64 0]).cells (n * i.size)).toList = fE (zerosE n) := by
    rw [hs]
    exact e1
  refine wpList_plain hg fun K hK' => ?_
  subst hL
  subst hC
  unfold Oper.wp
  simp [execOp, hop, hl, hc, hr, Result.andThen]
  refine hK' _ _ (hK _ ?_ ((Ext.refl w).alloc _) (by simp))
  rw [← e2]
  exact World.ownsRow_lit w _ n (Nat.le_refl _) (by unfold maxLen; omega) (by rw [size_madeCells, hs])
theorem zerosE_at : ∀ (n j : Nat), (fE (zerosE n))[j]? = if j < n * 2 then some (if j % 2 = 0 then Value.int .i64 0 else Value.int .u64 0) else none
  | 0, j => by simp [zerosE, fE]
  | n + 1, 0 => by simp [zerosE, List.replicate_succ, fE]
  | n + 1, 1 => by simp [zerosE, List.replicate_succ, fE]; omega
  | n + 1, j + 2 => by
    have h := zerosE_at n j
    have e : fE (zerosE (n + 1)) = .int .i64 0 :: .int .u64 0 :: fE (zerosE n) := by simp [zerosE, List.replicate_succ, fE]
    rw [e, List.getElem?_cons_succ, List.getElem?_cons_succ, h, show (j + 2) % 2 = j % 2 from by omega]
    by_cases hj : j < n * 2
    · rw [if_pos hj, if_pos (show j + 2 < (n + 1) * 2 by omega)]
    · rw [if_neg hj, if_neg (show ¬ j + 2 < (n + 1) * 2 by omega)]
theorem madeE (n : Nat) : (madeCells #[Value.int .i64 0, Value.int .u64 0] (n * 2)).toList = fE (zerosE n) := by
  apply List.ext_getElem?
  intro j
  rw [zerosE_at]
  by_cases hj : j < n * 2
  · rcases (by omega : j % 2 = 0 ∨ j % 2 = 1) with h | h <;> simp [madeCells, hj, h]
  · simp [madeCells, hj]
end Go.Proofs.Ytlhlnenpgcndkaa
