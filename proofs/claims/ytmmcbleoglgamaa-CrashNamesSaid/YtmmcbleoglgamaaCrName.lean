/-
  Plain facts for the chapter's examples of layer 4.
-/
import Derived.Test.YtmmcbleoglgamaaAlive04
import Derived.Test.YtmmcbleoglgamaaKeep
import Derived.Test.YtmmcbleoglgamaaArm
import Derived.Test.YtmmcbleoglgamaaSameI
namespace Go.Proofs.Ytmmcbleoglgamaa
open Go.RowKit
def qN (k : Nat) : List Dw := (List.range k).map fun (i : Nat) => ((i : Int), 1, false)
def nK : List Int := [0, 63, 64, 127, 128]
def mN : List Int := (List.range 256).map fun i => if i = 0 ∨ i = 63 ∨ i = 64 ∨ i = 127 ∨ i = 128 then 1 else 0
theorem qN_succ (k : Nat) : qN (k + 1) = qN k ++ [((k : Int), 1, false)] := by simp [qN, List.range_succ]
theorem qN_length (k : Nat) : (qN k).length = k := by simp [qN]
theorem mN_length : mN.length = 256 := by simp [mN]
theorem cn1 : devE [] [] (-1) false = 8 ∧ armE [] [] (-1) false (-2) = 8 := by decide +kernel
theorem cn2 : devE (zerosU 256) exQ (-1) false = 0 ∧ devE (zerosU 256) exQ 0 true = 0 := by decide +kernel
theorem cn3 : devE (zerosU 256) (qN 130) 0 false = 0 := by decide +kernel
theorem cn4 : keptN 9223372036854775809 130 = nK := by decide +kernel
theorem cn5 : crM 9223372036854775809 0 (zerosU 256) (qN 130) = mN := by decide +kernel
theorem cn6 : ∀ k : Fin 257, 0 ≤ (mN.take k.1).sum ∧ (mN.take k.1).sum ≤ 5 := by decide +kernel
theorem cn7 : mN.sum = 5 := by decide +kernel
theorem sum_take {l : List Int} {k : Nat} {x : Int} (h : l[k]? = some x) : (l.take (k + 1)).sum = (l.take k).sum + x := by
  rw [List.take_add_one, h, Option.toList_some, List.sum_append]
  simp
theorem cn_arm : armE (zerosU 256) exQ (-1) false (-2) = 2 ∧ armE (zerosU 256) exQ (-1) false 1000001 = 2 ∧ armE (zerosU 256) exQ 0 true 1000000 = 0 ∧ armE (zerosU 256) exQ 0 true 0 = 0 := by
  simp [armE, cn2]
theorem cn_armV : armV [] [] (-1) false (-2) = zeroV ∧ armV (zerosU 256) exQ (-1) false (-2) = zeroV ∧ armV (zerosU 256) exQ (-1) false 1000001 = zeroV ∧ armV (zerosU 256) exQ 0 true 1000000 = (zerosU 256, exQ, 1000000, false) ∧ armV (zerosU 256) exQ 0 true 0 = (zerosU 256, exQ, 0, false) := by
  simp [armV, cn_arm, cn1]
theorem cn_cr : crashV [] [] (-1) false 0 = zeroV ∧ choL [] [] (-1) false 0 = [] ∧ choL (zerosU 256) (qN 130) 0 false 9223372036854775809 = nK ∧ crashV (zerosU 256) (qN 130) 0 false 9223372036854775809 = (mN, [], -1, false) := by
  refine ⟨by simp [crashV, cn1], by simp [choL, cn1], by simp only [choL, cn3, if_true, qN_length, cn4], by simp only [crashV, cn3, if_true, cn5]⟩
end Go.Proofs.Ytmmcbleoglgamaa
