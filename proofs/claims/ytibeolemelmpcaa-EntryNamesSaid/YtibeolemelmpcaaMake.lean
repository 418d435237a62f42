/-
  'make' of words: a row of the call's own, all zero.
-/
import Derived.Test.YtibeolemelmpcaaImage
import Derived.Test.YtibeolemelmpcaaOwn
namespace Go.Proofs.Ytibeolemelmpcaa
open Go.RowKit
/-- So many words 0. -/
def zerosU (n : Nat) : List Int := List.replicate n 0
theorem zerosU_length (n : Nat) : (zerosU n).length = n := by simp [zerosU]
theorem wf_zeros (n : Nat) : WfU (zerosU n) := fun x hx => by
  have := List.eq_of_mem_replicate hx
  subst this
  unfold InU; decide
theorem wpList_zeros {w : World} {ops : Array Oper} {rest : List Oper} {o : Oper} {a : Act} {Q : Exit → Act → World → Prop}
    (hg : o.guard = none) (l c : Operand) (hop : o.op = Op.makeSlice 35 l c) (n : Nat) (hn : n ≤ 100000) (kl kc : IntKind) (L C : Int) (hl : a.eval l = .int kl L) (hc : a.eval c = .int kc C) (hL : L = (n : Int)) (hC : C = (n : Int))
    (hK : ∀ w', w'.ownsRow w.heap.size 23 1 (.slice (some ⟨w.heap.size, 0, none⟩) n n) n (fU (zerosU n)) → Ext w w' → w'.heap.size = w.heap.size + 1 → wpList Try.prog ops Q rest (a.put o.dst (.slice (some ⟨w.heap.size, 0, none⟩) n n)) w') :
    wpList Try.prog ops Q (o :: rest) a w := by
  obtain ⟨i, hi, hz, hs, hb⟩ := info_parts (show (Try.prog.info? 23).map (fun i => (i.zero, i.size, i.bytes)) = some (some (.int .u64 0), 1, 8) by kernel_rfl)
  have h63 : (n : Int) ≤ 9223372036854775807 := by omega
  have hbb : (i.bytes : Int) * (n : Int) ≤ 281474976710656 := by rw [hb]; omega
  have hr := run_make (P := Try.prog) w 35 23 i (.int .u64 0) Try.underlying35 hi hz kl kc n n (by omega) (Int.le_refl _) hbb h63
  simp only [Int.toNat_natCast] at hr
  have e1 : (madeCells (Value.int .u64 0).cells (n * i.size)).toList = fU (zerosU n) := by
    rw [hs]
    have : (Value.int .u64 0).cells = #[Value.int .u64 0] := rfl
    rw [this, toList_madeCells_one, zerosU, fU, List.map_replicate, Nat.mul_one]
  refine wpList_plain hg fun K hK' => ?_
  subst hL
  subst hC
  unfold Oper.wp
  simp [execOp, hop, hl, hc, hr, Result.andThen]
  refine hK' _ _ (hK _ ?_ ((Ext.refl w).alloc _) (by simp))
  rw [← e1]
  exact World.ownsRow_lit w _ n (Nat.le_refl _) (by unfold maxLen; omega) (by rw [size_madeCells, hs])
theorem own_sl {w : World} {base : Nat} {e : TypeId} {size : Nat} {A : Option Addr} {c n : Nat} {xs : List Value} (h : w.ownsRow base e size (.slice A n c) n xs) : Sl w A n c xs := by
  obtain ⟨A', c', hv, hs⟩ := Sl.of_own h
  injection hv with h1 h2 h3
  subst h1 h3
  exact hs
end Go.Proofs.Ytibeolemelmpcaa
