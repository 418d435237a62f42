/-
  Plain facts of two masks together; an array of truth values in memory.
-/
import Derived.Test.YtmmcbleoglgamaaCrWord
import Derived.Test.YtmmcbleoglgamaaKeep
import Derived.Test.YtmmcbleoglgamaaArm
namespace Go.Proofs.Ytmmcbleoglgamaa
open Go.RowKit
theorem kpB_bit (x i : Nat) : kpB (x : Int) i = x.testBit (i % 64) := by
  rw [Nat.testBit_eq_decide_div_mod_eq, kpB]
  congr 1
  have : ((x : Int) / 2 ^ (i % 64) % 2) = ((x / 2 ^ (i % 64) % 2 : Nat) : Int) := by push_cast; rfl
  rw [this]
  apply propext
  omega
theorem or_fact {a b : Int} (ha : InU a) (hb : InU b) : InU (bits BinOp.or IntKind.u64 a b) ∧ ∀ i, kpB (bits BinOp.or IntKind.u64 a b) i = (kpB a i || kpB b i) := by
  unfold InU at ha hb
  obtain ⟨x, rfl⟩ := Int.eq_ofNat_of_zero_le ha.1
  obtain ⟨y, rfl⟩ := Int.eq_ofNat_of_zero_le hb.1
  have hx : x < 2 ^ 64 := by omega
  have hy : y < 2 ^ 64 := by omega
  have hxy : x ||| y < 2 ^ 64 := Nat.or_lt_two_pow hx hy
  have hb : bits BinOp.or IntKind.u64 (x : Int) (y : Int) = ((x ||| y : Nat) : Int) := by
    have h1 : (BitVec.ofInt 64 (x : Int) ||| BitVec.ofInt 64 (y : Int)).toNat = x ||| y := by
      rw [BitVec.toNat_or]
      congr 1 <;> simp <;> omega
    show IntKind.u64.wrap (((BitVec.ofInt 64 (x : Int) ||| BitVec.ofInt 64 (y : Int)).toNat : Nat) : Int) = _
    rw [h1]
    simp only [IntKind.wrap, IntKind.bits, IntKind.signed]
    generalize x ||| y = z at hxy ⊢
    first | (simp; omega) | omega
  rw [hb]
  refine ⟨by unfold InU; omega, fun i => ?_⟩
  rw [kpB_bit, kpB_bit, kpB_bit, Nat.testBit_or]
theorem kept_mem {mask : Int} {n j : Nat} : (j : Int) ∈ keptN mask n ↔ j < n ∧ kpB mask j = true := by
  simp only [keptN, List.mem_map, List.mem_filter, List.mem_range]
  constructor
  · rintro ⟨k, h, e⟩
    have : k = j := Int.ofNat.inj e
    subst this
    exact h
  · intro h
    exact ⟨j, h, rfl⟩
/-- How many of the first k indices are kept, among n. -/
def cntF (mask : Int) (n k : Nat) : Nat := (keptN mask (min k n)).length
theorem cntF_yes {mask : Int} {n k : Nat} (h : k < n ∧ kpB mask k = true) : (keptN mask n)[cntF mask n k]? = some (k : Int) ∧ cntF mask n (k + 1) = cntF mask n k + 1 := by
  obtain ⟨h1, h2⟩ := h
  unfold cntF
  rw [show min k n = k from by omega, show min (k + 1) n = k + 1 from by omega]
  refine ⟨keptN_yes h1 h2, ?_⟩
  rw [keptN_succ, h2, if_pos rfl, List.length_append]
  rfl
theorem cntF_no {mask : Int} {n k : Nat} (h : ¬ (k < n ∧ kpB mask k = true)) : cntF mask n (k + 1) = cntF mask n k := by
  unfold cntF
  by_cases h1 : k < n
  · have h2 : kpB mask k = false := by
      cases hh : kpB mask k
      · rfl
      · exact absurd ⟨h1, hh⟩ h
    rw [show min k n = k from by omega, show min (k + 1) n = k + 1 from by omega, keptN_succ, h2, if_neg (by decide), List.append_nil]
  · rw [show min k n = n from by omega, show min (k + 1) n = n from by omega]
/-- Block g holds 2101 truth values. -/
def Arr (w : World) (g : Nat) (f : Nat → Bool) : Prop :=
  (∀ j, j < 2101 → w.cell? ⟨g, j, none⟩ = some (.bool (f j))) ∧ (∀ o, w.frozen? ⟨g, o, none⟩ = false) ∧ g < w.heap.size
theorem Arr.set {w : World} {g : Nat} {f : Nat → Bool} (h : Arr w g f) {j : Nat} (hj : j < 2101) : Arr (w.setCell ⟨g, j, none⟩ (.bool true)) g (fun i => f i || i == j) := by
  refine ⟨fun i hi => ?_, fun o => by rw [World.frozen?_setCell]; exact h.2.1 o, by simpa using h.2.2⟩
  by_cases e : i = j
  · subst e
    rw [cell_same (h.1 i hi)]
    simp
  · rw [cell_other (by simp only [ne_eq, Addr.mk.injEq, true_and, and_true]; omega), h.1 i hi]
    simp [e]
theorem Arr.ext {w w' : World} {g : Nat} {f : Nat → Bool} (h : Arr w g f) (x : Ext w w') : Arr w' g f :=
  ⟨fun j hj => x.cell (h.1 j hj), fun o => by rw [x.bcell.2 _ _ h.2.2]; exact h.2.1 o, Nat.lt_of_lt_of_le h.2.2 x.size⟩
theorem zeroC : Try.zeroCells53 = Array.replicate 2101 (.bool false) := by kernel_rfl
theorem Arr.new (w : World) : Arr (w.alloc (Obj.cells Try.zeroCells53 53)) w.heap.size (fun _ => false) := by
  rw [zeroC]
  refine ⟨fun j hj => ?_, fun o => by simp [go_sem], by simp⟩
  simp only [go_sem]
  simp [hj]
end Go.Proofs.Ytmmcbleoglgamaa
