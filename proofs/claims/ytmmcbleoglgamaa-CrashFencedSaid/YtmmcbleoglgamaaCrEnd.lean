/-
  Plain facts of a crash that keeps all, of one that keeps nothing, and of a crash after a crash.
-/
import Derived.Test.YtmmcbleoglgamaaRefCr
namespace Go.Proofs.Ytmmcbleoglgamaa
theorem kpB_all (i : Nat) : kpB 18446744073709551615 i = true := by
  have h : ∀ j : Fin 64, kpB 18446744073709551615 j.1 = true := by decide +kernel
  have := h ⟨i % 64, Nat.mod_lt _ (by decide)⟩
  simpa [kpB] using this
theorem kpB_none (i : Nat) : kpB 0 i = false := by simp [kpB]
theorem crM_all : ∀ (q : List Dw) (i : Nat) (m : List Int), crM 18446744073709551615 i m q = wrd m q
  | [], _, _ => rfl
  | x :: l, i, m => by simp only [crM, kpB_all, wrd, List.foldl_cons, if_true]; exact crM_all l _ _
theorem crM_none : ∀ (q : List Dw) (i : Nat) (m : List Int), crM 0 i m q = m
  | [], _, _ => rfl
  | x :: l, i, m => by simp only [crM, kpB_none]; exact crM_none l _ _
theorem devB_cr {m : List Int} {q : List Dw} {left : Int} {down : Bool} (h : devB m q left down = true) (M : List Int) (hM : M.length = m.length) : devB M [] (-1) false = true := by
  obtain ⟨h1, -⟩ := devB_bd h
  simp [devB, hM, h1, ascB]
theorem crashV_ok {m : List Int} {q : List Dw} {left : Int} {down : Bool} (h : devB m q left down = true) (mask : Int) : crashV m q left down mask = (crM mask 0 m q, [], -1, false) := by simp [crashV, devE_yes h]
theorem crashV_again {m : List Int} {q : List Dw} {left : Int} {down : Bool} (h : devB m q left down = true) (M : List Int) (hM : M.length = m.length) (again : Int) : crashV M [] (-1) false again = (M, [], -1, false) ∧ devE M [] (-1) false = 0 := ⟨by rw [crashV_ok (devB_cr h M hM)]; rfl, devE_yes (devB_cr h M hM)⟩
end Go.Proofs.Ytmmcbleoglgamaa
