/-
  PhaseNames: the law returns true. No condition.
-/
import Derived.Test.YthnonfmaamchkaaLawPA
import Derived.Test.YthnonfmaamchkaaMake
import Derived.Test.YthnonfmaamchkaaPhSet
import Derived.Test.YthnonfmaamchkaaPhRead
import Derived.Test.YthnonfmaamchkaaTold
import Derived.Test.YthnonfmaamchkaaCut
import Derived.Test.YthnonfmaamchkaaOpen
namespace Go.Proofs.Ythnonfmaamchkaa
open Go.ChangeShapes Go.WideShapes Go.ChangeAt Go.RowKit
abbrev Ph := Int × Int × Int
def pnB : List Ph := [(-1, 0, 0), (5, 0, 0), (0, 0, 128), (1, 128, 0), (2, 0, 128), (3, 126, 0), (3, 129, 0), (3, 2050, 0), (3, 130, 128), (4, 0, 0), (4, 130, 0), (4, 130, 126), (4, 131, 128), (4, 130, 129), (3, -128, 0)]
def pnG : List Ph := [(0, 0, 0), (1, 0, 0), (2, 0, 0), (3, 0, 0), (3, 2048, 0), (4, 128, 128), (4, 2048, 128)]
def pnA : List Int := [16, 16, 17, 18, 19, 23]
def pnW : List Int := [5, 9223372036854775808, 128, 2, 1, 1099511627776]
theorem pnB_bad : ∀ (k : Nat) (x : Ph), pnB[k]? = some x → phB x.1 x.2.1 x.2.2 = false := by
  intro k x hx
  have hk : k < 15 := by
    have := (List.getElem?_eq_some_iff.1 hx).1
    simpa [pnB] using this
  have key : ∀ k : Fin 15, phB (pnB.getD k.val (0, 0, 0)).1 (pnB.getD k.val (0, 0, 0)).2.1 (pnB.getD k.val (0, 0, 0)).2.2 = false := by decide +kernel
  have h := key ⟨k, hk⟩
  simp only [List.getD, hx, Option.getD_some] at h
  exact h
theorem pnG_good : ∀ (k : Nat) (x : Ph), pnG[k]? = some x → phB x.1 x.2.1 x.2.2 = true := by
  intro k x hx
  have hk : k < 7 := by
    have := (List.getElem?_eq_some_iff.1 hx).1
    simpa [pnG] using this
  have key : ∀ k : Fin 7, phB (pnG.getD k.val (0, 0, 0)).1 (pnG.getD k.val (0, 0, 0)).2.1 (pnG.getD k.val (0, 0, 0)).2.2 = true := by decide +kernel
  have h := key ⟨k, hk⟩
  simp only [List.getD, hx, Option.getD_some] at h
  exact h
theorem pnC_bad : ∀ (k : Nat) (a v : Int), pnA[k]? = some a → pnW[k]? = some v → (0 ≤ a ∧ a < 256 ∧ InU v) ∧ prE ((zerosU 256).set a.toNat v) = 50 := by
  intro k a v ha hv
  have hk : k < 6 := by
    have := (List.getElem?_eq_some_iff.1 ha).1
    simpa [pnA] using this
  have key : ∀ k : Fin 6, (0 ≤ pnA.getD k.val 0 ∧ pnA.getD k.val 0 < 256 ∧ 0 ≤ pnW.getD k.val 0 ∧ pnW.getD k.val 0 ≤ 18446744073709551615) ∧ prE ((zerosU 256).set (pnA.getD k.val 0).toNat (pnW.getD k.val 0)) = 50 := by decide +kernel
  have h := key ⟨k, hk⟩
  simp only [List.getD, ha, hv, Option.getD_some] at h
  exact ⟨⟨h.1.1, h.1.2.1, h.1.2.2.1, h.1.2.2.2⟩, h.2⟩
theorem pn_facts : prE (zerosU 256) = 0 ∧ prA (zerosU 256) 16 = 0 ∧ prA (zerosU 256) 17 = 0 ∧ prA (zerosU 256) 18 = 0 ∧ spE 256 3 2048 0 = 0 ∧ (setP (zerosU 256) 3 2048 0).length = 256 ∧ prE (setP (zerosU 256) 3 2048 0) = 50 ∧ prE ((zerosU 256).take 8) = 8 ∧ ((zerosU 256).take 8).length = 8 ∧ sizeB 256 = true ∧ sizeB 0 = false := by decide +kernel
theorem prA_bad {m : List Int} {er : Int} (h : prE m = er) (h0 : er ≠ 0) (i : Nat) : prA m i = 0 := by
  unfold prA; rw [h, if_neg h0]
theorem u_take256 {w : World} {A : Option Addr} {c : Nat} {m : List Int} (h : Sl w A 256 c (fU m)) {k : Nat} (hk : k ≤ 256) : Sl w A k c (fU (m.take k)) := by
  rw [fU_take]
  exact h.pre hk
/-- Phases lie in block g, three cells each. -/
def Ph3 (L : List Ph) (w : World) (g : Nat) : Prop := ∀ (k : Nat) (x : Ph), L[k]? = some x → w.cell? ⟨g, k * 3, none⟩ = some (.int .i64 x.1) ∧ w.cell? ⟨g, k * 3 + 1, none⟩ = some (.int .i64 x.2.1) ∧ w.cell? ⟨g, k * 3 + 2, none⟩ = some (.int .i64 x.2.2)
theorem Ph3.ext {L : List Ph} {w w' : World} {g : Nat} (h : Ph3 L w g) (x : Ext w w') : Ph3 L w' g := fun k D hD => by
  obtain ⟨g0, g1, g2⟩ := h k D hD
  exact ⟨x.cell g0, x.cell g1, x.cell g2⟩
theorem lit_cell (w : World) (cs : Array Value) (T : TypeId) (j : Nat) (v : Value) (hv : cs.toList[j]? = some v) (hn : cs.size ≤ maxLen) : (w.alloc (.cells cs T)).cell? ⟨w.heap.size, j, none⟩ = some v := by
  obtain ⟨ad, e, hc⟩ := (Sl.lit' (w := w) cs T w.heap.size cs.size rfl hn).cells (by intro h0; rw [h0] at hv; simp at hv)
  injection e with e
  subst e
  have := hc j v hv
  simpa [Addr.add_lit] using this
theorem pnB_start (w : World) : Ph3 pnB (w.alloc (.cells #[.int .i64 (-1), .int .i64 0, .int .i64 0, .int .i64 5, .int .i64 0, .int .i64 0, .int .i64 0, .int .i64 0, .int .i64 128, .int .i64 1, .int .i64 128, .int .i64 0, .int .i64 2, .int .i64 0, .int .i64 128, .int .i64 3, .int .i64 126, .int .i64 0, .int .i64 3, .int .i64 129, .int .i64 0, .int .i64 3, .int .i64 2050, .int .i64 0, .int .i64 3, .int .i64 130, .int .i64 128, .int .i64 4, .int .i64 0, .int .i64 0, .int .i64 4, .int .i64 130, .int .i64 0, .int .i64 4, .int .i64 130, .int .i64 126, .int .i64 4, .int .i64 131, .int .i64 128, .int .i64 4, .int .i64 130, .int .i64 129, .int .i64 3, .int .i64 (-128), .int .i64 0] 23)) w.heap.size := by
  intro k x hx
  have hk : k < 15 := by
    have := (List.getElem?_eq_some_iff.1 hx).1
    simpa [pnB] using this
  rcases (by omega : k = 0 ∨ k = 1 ∨ k = 2 ∨ k = 3 ∨ k = 4 ∨ k = 5 ∨ k = 6 ∨ k = 7 ∨ k = 8 ∨ k = 9 ∨ k = 10 ∨ k = 11 ∨ k = 12 ∨ k = 13 ∨ k = 14) with rfl | rfl | rfl | rfl | rfl | rfl | rfl | rfl | rfl | rfl | rfl | rfl | rfl | rfl | rfl
  all_goals
    injection hx with hx
    subst hx
    exact ⟨lit_cell _ _ _ _ _ rfl (by decide), lit_cell _ _ _ _ _ rfl (by decide), lit_cell _ _ _ _ _ rfl (by decide)⟩
theorem pnG_start (w : World) : Ph3 pnG (w.alloc (.cells #[.int .i64 0, .int .i64 0, .int .i64 0, .int .i64 1, .int .i64 0, .int .i64 0, .int .i64 2, .int .i64 0, .int .i64 0, .int .i64 3, .int .i64 0, .int .i64 0, .int .i64 3, .int .i64 2048, .int .i64 0, .int .i64 4, .int .i64 128, .int .i64 128, .int .i64 4, .int .i64 2048, .int .i64 128] 23)) w.heap.size := by
  intro k x hx
  have hk : k < 7 := by
    have := (List.getElem?_eq_some_iff.1 hx).1
    simpa [pnG] using this
  rcases (by omega : k = 0 ∨ k = 1 ∨ k = 2 ∨ k = 3 ∨ k = 4 ∨ k = 5 ∨ k = 6) with rfl | rfl | rfl | rfl | rfl | rfl | rfl
  all_goals
    injection hx with hx
    subst hx
    exact ⟨lit_cell _ _ _ _ _ rfl (by decide), lit_cell _ _ _ _ _ rfl (by decide), lit_cell _ _ _ _ _ rfl (by decide)⟩
/-- Setting a phase that is not valid. -/
theorem phSet_bad (m : List Int) (n : Nat) (hn : m.length = n) (A : Option Addr) (k : Nat) (a b c : Int) (w : World) (hA : Sl w A n k (fU m)) (h : spE n a b c = 8) :
    Calls Try.prog 31 #[.slice A n k, .agg #[.int .i64 a, .int .i64 b, .int .i64 c]] w fun e w' => e = .returned (.tuple #[.slice none 0 0, .int .i64 8]) ∧ Ext w w' := by
  subst hn
  refine (phSet_any m A k a b c w hA).mono ?_
  rintro e w' (⟨h0, _⟩ | ⟨_, rfl, hx⟩)
  · rw [h] at h0; cases h0
  · exact ⟨by rw [h], hx⟩
theorem phWrite_no (a b c : Int) (w : World) (h : phB a b c = false) :
    Calls Try.prog 15 #[.agg #[.int .i64 a, .int .i64 b, .int .i64 c]] w fun e w' => e = .returned (.tuple #[.slice none 0 0, .int .i64 8]) ∧ Ext w w' := by
  refine (phWrite_any a b c w).mono ?_
  rintro e w' (⟨h0, _⟩ | ⟨_, hx⟩)
  · rw [h] at h0; cases h0
  · exact hx
theorem phRead_er (m : List Int) (n : Nat) (hn : m.length = n) (er : Int) (h : prE m = er) (h0 : er ≠ 0) (A : Option Addr) (k : Nat) (w : World) (hA : Sl w A n k (fU m)) (wm : WfU m) :
    Calls Try.prog 32 #[.slice A n k] w fun e w' => e = .returned (.tuple #[.agg #[.int .i64 0, .int .i64 0, .int .i64 0], .int .i64 er]) ∧ Ext w w' := by
  subst hn
  refine (phRead_any m A k w hA wm).mono ?_
  rintro e w' ⟨rfl, hx⟩
  exact ⟨by rw [prA_bad h h0, prA_bad h h0, prA_bad h h0, h], hx⟩
set_option maxRecDepth 100000 in
set_option maxHeartbeats 12800000 in
theorem phaseNames_any (w : World) :
    Calls Try.prog 6 #[] w fun e w' => e = .returned (.bool true) ∧ Ext w w' := by
  obtain ⟨f0, f1, f2, f3, f4, f5, f6, f7, f8, f9, f10⟩ := pn_facts
  have wz := wf_zeros 256
  have lz := zerosU_length 256
  have hz : eqP 0 0 0 0 0 0 = true := by decide
  have heq := run_eqlP 0 0 0 0 0 0
  rw [hz] at heq
  -- reading an image of zeros
  have t1 := fun A k W (ha : Sl W A (zerosU 256).length k (fU (zerosU 256))) => phRead_any (zerosU 256) A k W ha wz
  unfold RdP at t1
  rw [f0, f1, f2, f3, lz] at t1
  -- setting a phase behind the image
  have t2 := fun A k W (ha : Sl W A (zerosU 256).length k (fU (zerosU 256))) => phSet_any (zerosU 256) A k 3 2048 0 W ha
  rw [lz, show spE ((256 : Nat) : Int) 3 2048 0 = 0 from f4] at t2
  have u2 : ∀ A k W, Sl W A 256 k (fU (zerosU 256)) → Calls Try.prog 31 #[.slice A 256 k, .agg #[.int .i64 3, .int .i64 2048, .int .i64 0]] W fun e w' => ∃ A k, e = .returned (.tuple #[.slice A 256 k, .int .i64 0]) ∧ Sl w' A 256 k (fU (setP (zerosU 256) 3 2048 0)) ∧ Ext W w' := fun A k W ha => by
    refine (t2 A k W ha).mono ?_
    rintro e w' (⟨_, A, k, rfl, _, hs, hx⟩ | ⟨h0, _⟩)
    · exact ⟨A, k, rfl, hs, hx⟩
    · exact absurd rfl h0
  have wset : WfU (setP (zerosU 256) 3 2048 0) := by
    intro x hx
    have hb : ∀ y ∈ setP (zerosU 256) 3 2048 0, 0 ≤ y ∧ y ≤ 18446744073709551615 := by decide +kernel
    exact hb x hx
  have t3 := fun A k W (ha : Sl W A 256 k (fU (setP (zerosU 256) 3 2048 0))) => phRead_er (setP (zerosU 256) 3 2048 0) 256 f5 50 f6 (by decide) A k W ha wset
  have wt8 : WfU ((zerosU 256).take 8) := fun x hx => wz x (List.mem_of_mem_take hx)
  have t4 := fun A k W (ha : Sl W A 8 k (fU ((zerosU 256).take 8))) => phRead_er ((zerosU 256).take 8) 8 f8 8 f7 (by decide) A k W ha wt8
  have t5 : ∀ W, Calls Try.prog 31 #[.slice none 0 0, .agg #[.int .i64 (-1), .int .i64 0, .int .i64 0]] W fun e w' => e = .returned (.tuple #[.slice none 0 0, .int .i64 8]) ∧ Ext W w' := fun W => phSet_bad [] 0 rfl none 0 (-1) 0 0 W (Sl.nil_ W) (by unfold spE; rw [show sizeB ((0 : Nat) : Int) = false from f10]; rfl)
  have t6 : ∀ a b c, phB a b c = false → ∀ A k W, Sl W A 256 k (fU (zerosU 256)) → Calls Try.prog 31 #[.slice A 256 k, .agg #[.int .i64 a, .int .i64 b, .int .i64 c]] W fun e w' => e = .returned (.tuple #[.slice none 0 0, .int .i64 8]) ∧ Ext W w' := fun a b c h A k W ha => phSet_bad (zerosU 256) 256 lz A k a b c W ha (by unfold spE phE; rw [show sizeB ((256 : Nat) : Int) = true from f9, h]; rfl)
  have t7 := fun A k W (ha : Sl W A (zerosU 256).length k (fU (zerosU 256))) => twin2_any (zerosU 256) A k W ha (by rw [lz]; decide)
  rw [lz] at t7
  have t8 : ∀ (k : Nat) (a v : Int), pnA[k]? = some a → pnW[k]? = some v → ∀ A c W, Sl W A 256 c (fU ((zerosU 256).set a.toNat v)) → Calls Try.prog 32 #[.slice A 256 c] W fun e w' => e = .returned (.tuple #[.agg #[.int .i64 0, .int .i64 0, .int .i64 0], .int .i64 50]) ∧ Ext W w' := fun k a v ha hv A c W hs => by
    obtain ⟨⟨_, _, hu⟩, hp⟩ := pnC_bad k a v ha hv
    refine phRead_er _ 256 (by rw [List.length_set]; exact lz) 50 hp (by decide) A c W hs ?_
    intro x hx
    rcases List.mem_or_eq_of_mem_set hx with h | h
    · exact wz x h
    · rw [h]; exact hu
  have HH := Lib.hid (And.intro t1 (And.intro u2 (And.intro t3 (And.intro t4 (And.intro t5 (And.intro t6 (And.intro t7 t8)))))))
  clear t1 t2 u2 t3 t4 t5 t6 t7 t8 wt8 wset f0 f1 f2 f3 f4 f5 f6 f7 f8 f9 f10 wz hz
  have LZ := Lib.hid lz
  clear lz
  go_enter Try.func6, Try.ntmps6
  go_wp2_with (at_make; refine wpList_zeros rfl _ _ rfl 256 (by decide) _ _ _ _ rfl rfl rfl rfl ?_; intro w1 hown hX hz1)
  have hA := own_sl hown
  have hB := pnB_start w1
  have hX2 := hX.alloc (Obj.cells #[.int .i64 (-1), .int .i64 0, .int .i64 0, .int .i64 5, .int .i64 0, .int .i64 0, .int .i64 0, .int .i64 0, .int .i64 128, .int .i64 1, .int .i64 128, .int .i64 0, .int .i64 2, .int .i64 0, .int .i64 128, .int .i64 3, .int .i64 126, .int .i64 0, .int .i64 3, .int .i64 129, .int .i64 0, .int .i64 3, .int .i64 2050, .int .i64 0, .int .i64 3, .int .i64 130, .int .i64 128, .int .i64 4, .int .i64 0, .int .i64 0, .int .i64 4, .int .i64 130, .int .i64 0, .int .i64 4, .int .i64 130, .int .i64 126, .int .i64 4, .int .i64 131, .int .i64 128, .int .i64 4, .int .i64 130, .int .i64 129, .int .i64 3, .int .i64 (-128), .int .i64 0] 23)
  have hA2 := hA.alloc (Obj.cells #[.int .i64 (-1), .int .i64 0, .int .i64 0, .int .i64 5, .int .i64 0, .int .i64 0, .int .i64 0, .int .i64 0, .int .i64 128, .int .i64 1, .int .i64 128, .int .i64 0, .int .i64 2, .int .i64 0, .int .i64 128, .int .i64 3, .int .i64 126, .int .i64 0, .int .i64 3, .int .i64 129, .int .i64 0, .int .i64 3, .int .i64 2050, .int .i64 0, .int .i64 3, .int .i64 130, .int .i64 128, .int .i64 4, .int .i64 0, .int .i64 0, .int .i64 4, .int .i64 130, .int .i64 0, .int .i64 4, .int .i64 130, .int .i64 126, .int .i64 4, .int .i64 131, .int .i64 128, .int .i64 4, .int .i64 130, .int .i64 129, .int .i64 3, .int .i64 (-128), .int .i64 0] 23)
  obtain ⟨W2, hW2⟩ : ∃ W, W = w1.alloc (Obj.cells #[.int .i64 (-1), .int .i64 0, .int .i64 0, .int .i64 5, .int .i64 0, .int .i64 0, .int .i64 0, .int .i64 0, .int .i64 128, .int .i64 1, .int .i64 128, .int .i64 0, .int .i64 2, .int .i64 0, .int .i64 128, .int .i64 3, .int .i64 126, .int .i64 0, .int .i64 3, .int .i64 129, .int .i64 0, .int .i64 3, .int .i64 2050, .int .i64 0, .int .i64 3, .int .i64 130, .int .i64 128, .int .i64 4, .int .i64 0, .int .i64 0, .int .i64 4, .int .i64 130, .int .i64 0, .int .i64 4, .int .i64 130, .int .i64 126, .int .i64 4, .int .i64 131, .int .i64 128, .int .i64 4, .int .i64 130, .int .i64 129, .int .i64 3, .int .i64 (-128), .int .i64 0] 23) := ⟨_, rfl⟩
  rw [← hW2] at hB hX2 hA2 ⊢
  rw [hz1] at hB
  obtain ⟨gB, hgB⟩ : ∃ g, w.heap.size + 1 = g := ⟨_, rfl⟩
  rw [hgB] at hB ⊢
  obtain ⟨gM, hgM⟩ : ∃ g, w.heap.size = g := ⟨_, rfl⟩
  rw [hgM] at hA2
  simp only [hgM]
  have HB := Lib.hid hB
  have HX := Lib.hid (And.intro hX2 hA2)
  clear hB hX2 hA2 hW2 hgB hgM hA hown hX hz1
  go_loopw [3] (fun i wr => ∃ k : Nat, k ≤ 15 ∧ i = .int .i64 k ∧ Ext W2 wr) (fun i _ => 15 - (intOf i).toNat)
  case atStart => exact ⟨0, Nat.zero_le _, rfl, Ext.refl W2⟩
  case round =>
    obtain ⟨k, hk, rfl, hx⟩ := hrel
    by_cases hlt : k < 15
    · obtain ⟨⟨a, b, c⟩, hD⟩ : ∃ D, pnB[k]? = some D := ⟨_, List.getElem?_eq_getElem hlt⟩
      have hb : phB a b c = false := pnB_bad k _ hD
      have b1 := fun W => phWrite_no a b c W hb
      have b2 := HH.out.2.2.2.2.2.1 a b c hb
      have b3 := fun W => phCheck_any a b c W
      rw [show phE a b c = 8 from by simp [phE, hb]] at b3
      have HC := Lib.hid (And.intro b1 (And.intro b2 b3))
      have HDk := Lib.hid hD
      have hM := HX.out.2.ext hx
      have i1 : (0 : Int) ≤ k := by omega
      have i2 : (k : Int) < 15 := by omega
      clear b1 b2 b3 hb hD
      obtain ⟨g0, g1, g2⟩ := (HB.out.ext hx) k _ HDk.out
      dsimp only at g0 g1 g2
      go_wp2_with fail
      refine (HC.out.1 wr).mono ?_
      rintro e W101 ⟨rfl, hxx⟩
      replace hM := hM.ext hxx
      replace hx := hx.trans hxx
      clear hxx
      clear g0 g1 g2
      obtain ⟨g0, g1, g2⟩ := (HB.out.ext hx) k _ HDk.out
      dsimp only at g0 g1 g2
      go_wp2_with fail
      refine (HC.out.2.1 _ _ W101 hM).mono ?_
      rintro e W102 ⟨rfl, hxx⟩
      replace hM := hM.ext hxx
      replace hx := hx.trans hxx
      clear hxx
      clear g0 g1 g2
      obtain ⟨g0, g1, g2⟩ := (HB.out.ext hx) k _ HDk.out
      dsimp only at g0 g1 g2
      go_wp2_with fail
      refine (HC.out.2.2 W102).mono ?_
      rintro e W103 ⟨rfl, hxx⟩
      replace hM := hM.ext hxx
      replace hx := hx.trans hxx
      clear hxx
      clear g0 g1 g2
      go_wp2_with fail
      go_roundw
      case rel => exact ⟨k + 1, by omega, by go_num, hx⟩
      case measure => simp [intOf]; omega
    · obtain rfl : k = 15 := by omega
      rw [show ((15 : Nat) : Int) = 15 from rfl]
      have hX := HX.out.1.trans hx
      have hM := HX.out.2.ext hx
      have hBB := HB.out.ext hx
      have hG := pnG_start wr
      have hxx := (Ext.refl wr).alloc (Obj.cells #[.int .i64 0, .int .i64 0, .int .i64 0, .int .i64 1, .int .i64 0, .int .i64 0, .int .i64 2, .int .i64 0, .int .i64 0, .int .i64 3, .int .i64 0, .int .i64 0, .int .i64 3, .int .i64 2048, .int .i64 0, .int .i64 4, .int .i64 128, .int .i64 128, .int .i64 4, .int .i64 2048, .int .i64 128] 23)
      clear hx HX HB
      go_wp2_with fail
      obtain ⟨W3, hW3⟩ : ∃ W, W = wr.alloc (Obj.cells #[.int .i64 0, .int .i64 0, .int .i64 0, .int .i64 1, .int .i64 0, .int .i64 0, .int .i64 2, .int .i64 0, .int .i64 0, .int .i64 3, .int .i64 0, .int .i64 0, .int .i64 3, .int .i64 2048, .int .i64 0, .int .i64 4, .int .i64 128, .int .i64 128, .int .i64 4, .int .i64 2048, .int .i64 128] 23) := ⟨_, rfl⟩
      rw [← hW3] at hG hxx ⊢
      obtain ⟨gG, hgG⟩ : ∃ g, wr.heap.size = g := ⟨_, rfl⟩
      rw [hgG] at hG ⊢
      have HX := Lib.hid (And.intro (hX.trans hxx) (hM.ext hxx))
      have HB := Lib.hid (hBB.ext hxx)
      have HG := Lib.hid hG
      clear hX hM hBB hG hxx hW3 hgG
      go_loopw [9] (fun i wr => ∃ k : Nat, k ≤ 7 ∧ i = .int .i64 k ∧ Ext W3 wr) (fun i _ => 7 - (intOf i).toNat)
      case atStart => exact ⟨0, Nat.zero_le _, rfl, Ext.refl W3⟩
      case round =>
        obtain ⟨k, hk, rfl, hx⟩ := hrel
        by_cases hlt : k < 7
        · obtain ⟨⟨a, b, c⟩, hD⟩ : ∃ D, pnG[k]? = some D := ⟨_, List.getElem?_eq_getElem hlt⟩
          have hb : phB a b c = true := pnG_good k _ hD
          have b3 := fun W => phCheck_any a b c W
          rw [show phE a b c = 0 from by simp [phE, hb]] at b3
          have HC := Lib.hid b3
          have HDk := Lib.hid hD
          have i1 : (0 : Int) ≤ k := by omega
          have i2 : (k : Int) < 7 := by omega
          clear b3 hb hD
          obtain ⟨g0, g1, g2⟩ := (HG.out.ext hx) k _ HDk.out
          dsimp only at g0 g1 g2
          go_wp2_with fail
          refine (HC.out wr).mono ?_
          rintro e W101 ⟨rfl, hxx⟩
          replace hx := hx.trans hxx
          clear hxx
          clear g0 g1 g2
          go_wp2_with fail
          go_roundw
          case rel => exact ⟨k + 1, by omega, by go_num, hx⟩
          case measure => simp [intOf]; omega
        · obtain rfl : k = 7 := by omega
          rw [show ((7 : Nat) : Int) = 7 from rfl]
          have hX := HX.out.1.trans hx
          have hM := HX.out.2.ext hx
          have hBB := HB.out.ext hx
          have hGG := HG.out.ext hx
          clear hx HX HB HG
          go_wp2_with fail
          refine (HH.out.1 _ _ wr hM).mono ?_
          rintro e W101 ⟨rfl, hxx⟩
          replace hM := hM.ext hxx
          replace hBB := hBB.ext hxx
          replace hGG := hGG.ext hxx
          replace hX := hX.trans hxx
          clear hxx
          go_upto_region 17 with fail
          have hI := Box3.new W101 (.int .i64 0) (.int .i64 0) (.int .i64 0) 23
          have hxx := (Ext.refl W101).alloc (Obj.cells #[.int .i64 0, .int .i64 0, .int .i64 0] 23)
          obtain ⟨WI, hW⟩ : ∃ W, W = W101.alloc (Obj.cells #[.int .i64 0, .int .i64 0, .int .i64 0] 23) := ⟨_, rfl⟩
          obtain ⟨gI, hg⟩ : ∃ g, W101.heap.size = g := ⟨_, rfl⟩
          rw [← hW] at hI hxx ⊢
          rw [hg] at hI ⊢
          clear hW hg
          replace hM := hM.ext hxx
          replace hBB := hBB.ext hxx
          replace hGG := hGG.ext hxx
          replace hX := hX.trans hxx
          clear hxx
          obtain ⟨g0, g1, g2⟩ := hGG 4 (3, 2048, 0) rfl
          simp only [Nat.reduceMul, Nat.reduceAdd] at g0 g1 g2
          go_wp2_with fail
          refine (HH.out.2.1 _ _ WI hM).mono ?_
          rintro e W102 ⟨AF, cF, rfl, hF, hxx⟩
          replace hM := hM.ext hxx
          replace hBB := hBB.ext hxx
          replace hGG := hGG.ext hxx
          replace hI := hI.ext hxx
          replace hX := hX.trans hxx
          clear hxx
          clear g0 g1 g2 hGG
          go_wp2_with fail
          refine (HH.out.2.2.1 _ _ W102 hF).mono ?_
          rintro e W103 ⟨rfl, hxx⟩
          replace hM := hM.ext hxx
          replace hBB := hBB.ext hxx
          replace hI := hI.ext hxx
          replace hX := hX.trans hxx
          clear hxx
          clear hF
          have hSA := (Sl.lit' (w := W103.alloc (Obj.cells #[.int .i64 0, .int .i64 0, .int .i64 0] 23)) #[.int .i64 16, .int .i64 16, .int .i64 17, .int .i64 18, .int .i64 19, .int .i64 23] 3 (W103.heap.size + 1) 6 (by simp) (by decide)).alloc (Obj.cells #[.int .u64 5, .int .u64 9223372036854775808, .int .u64 128, .int .u64 2, .int .u64 1, .int .u64 1099511627776] 31)
          have hSW := Sl.lit' (w := (W103.alloc (Obj.cells #[.int .i64 0, .int .i64 0, .int .i64 0] 23)).alloc (Obj.cells #[.int .i64 16, .int .i64 16, .int .i64 17, .int .i64 18, .int .i64 19, .int .i64 23] 3)) #[.int .u64 5, .int .u64 9223372036854775808, .int .u64 128, .int .u64 2, .int .u64 1, .int .u64 1099511627776] 31 (W103.heap.size + 1 + 1) 6 (by simp) (by decide)
          have hxx := (((Ext.refl W103).alloc (Obj.cells #[.int .i64 0, .int .i64 0, .int .i64 0] 23)).alloc (Obj.cells #[.int .i64 16, .int .i64 16, .int .i64 17, .int .i64 18, .int .i64 19, .int .i64 23] 3)).alloc (Obj.cells #[.int .u64 5, .int .u64 9223372036854775808, .int .u64 128, .int .u64 2, .int .u64 1, .int .u64 1099511627776] 31)
          go_wp2_with fail
          obtain ⟨W5, hW⟩ : ∃ W, W = ((W103.alloc (Obj.cells #[.int .i64 0, .int .i64 0, .int .i64 0] 23)).alloc (Obj.cells #[.int .i64 16, .int .i64 16, .int .i64 17, .int .i64 18, .int .i64 19, .int .i64 23] 3)).alloc (Obj.cells #[.int .u64 5, .int .u64 9223372036854775808, .int .u64 128, .int .u64 2, .int .u64 1, .int .u64 1099511627776] 31) := ⟨_, rfl⟩
          rw [← hW] at hSA hSW hxx ⊢
          obtain ⟨gW, hg⟩ : ∃ g, W103.heap.size + 1 + 1 = g := ⟨_, rfl⟩
          rw [hg] at hSW ⊢
          obtain ⟨gA, hg2⟩ : ∃ g, W103.heap.size + 1 = g := ⟨_, rfl⟩
          rw [hg2] at hSA ⊢
          clear hW hg hg2
          replace hM := hM.ext hxx
          replace hBB := hBB.ext hxx
          replace hI := hI.ext hxx
          replace hX := hX.trans hxx
          clear hxx
          have HX := Lib.hid (And.intro hX (And.intro hM (And.intro hBB (And.intro hI (And.intro hSA hSW)))))
          clear hX hM hBB hI hSA hSW
          go_loopw [18] (fun i wr => ∃ k : Nat, k ≤ 6 ∧ i = .int .i64 k ∧ Ext W5 wr) (fun i _ => 6 - (intOf i).toNat)
          case atStart => exact ⟨0, Nat.zero_le _, rfl, Ext.refl W5⟩
          case round =>
            obtain ⟨k, hk, rfl, hx⟩ := hrel
            by_cases hlt : k < 6
            · obtain ⟨a, ha⟩ : ∃ a, pnA[k]? = some a := ⟨_, List.getElem?_eq_getElem (by simpa [pnA] using hlt)⟩
              obtain ⟨v, hv⟩ : ∃ v, pnW[k]? = some v := ⟨_, List.getElem?_eq_getElem (by simpa [pnW] using hlt)⟩
              obtain ⟨⟨a0, a1, _⟩, _⟩ := pnC_bad k a v ha hv
              have h8 := HH.out.2.2.2.2.2.2.2 k a v ha hv
              have HC := Lib.hid h8
              have HAV := Lib.hid (And.intro ha hv)
              have hM := HX.out.2.1.ext hx
              have i1 : (0 : Int) ≤ k := by omega
              have i2 : (k : Int) < 6 := by omega
              clear h8 ha hv
              go_wp2_with fail
              refine (HH.out.2.2.2.2.2.2.1 _ _ wr hM).mono ?_
              rintro e w2 ⟨A2, c2, rfl, hown, -, hxx⟩
              obtain ⟨gO, rfl, hgO⟩ := own_head hown (by decide)
              have hx2 := hx.trans hxx
              obtain ⟨ad1, a', e1, ha', g1⟩ := (show Sl w2 (some ⟨gA, 0, none⟩) 6 6 (fI pnA) from HX.out.2.2.2.2.1.ext hx2).i_at (k := k) (by simpa [pnA] using hlt)
              obtain ⟨ad2, v', e2, hv', g2⟩ := (show Sl w2 (some ⟨gW, 0, none⟩) 6 6 (fU pnW) from HX.out.2.2.2.2.2.ext hx2).u_at (k := k) (by simpa [pnW] using hlt)
              injection e1 with e1
              injection e2 with e2
              subst e1 e2
              rw [HAV.out.1] at ha'
              rw [HAV.out.2] at hv'
              injection ha' with ha'
              injection hv' with hv'
              subst ha' hv'
              simp only [Addr.add_lit, Nat.zero_add] at g1 g2
              obtain ⟨z, -, c0, cf⟩ := own_at_U hown (i := a.toNat) (by rw [LZ.out]; omega)
              have HO := Lib.hid (And.intro hown (And.intro hx2 (Nat.le_trans hx.size hgO)))
              clear hown hx2 hgO hM hxx hx
              go_wp2_with fail
              go_region
              all_goals
                have ho4 := own_ext (own_set_U HO.out.1 a.toNat v) (ext_drewN _ 1)
                have hx4 : Ext W5 ((w2.setCell ⟨gO, a.toNat, none⟩ (.int .u64 v)).drewN 1) := (HO.out.2.1.setCell (p := ⟨gO, a.toNat, none⟩) HO.out.2.2 _).drewN 1
                have hS4 := own_sl ho4
                clear ho4
                go_upto_region 26 with fail
                obtain ⟨W4, hW4⟩ : ∃ W, W = (w2.setCell ⟨gO, a.toNat, none⟩ (.int .u64 v)).drew := ⟨_, rfl⟩
                replace hx4 : Ext W5 W4 := by rw [hW4]; exact hx4
                replace hS4 : Sl W4 (some ⟨gO, 0, none⟩) 256 c2 (fU ((zerosU 256).set a.toNat v)) := by rw [hW4]; exact hS4
                rw [← hW4]
                clear hW4 c0 cf g1 g2
                go_wp2_with fail
                refine (HC.out _ _ _ hS4).mono ?_
                rintro e w5 ⟨rfl, hx5⟩
                go_wp2_with fail
                go_roundw
                case rel => exact ⟨k + 1, by omega, by go_num, (hx4.trans hx5).alloc _⟩
                case measure => simp [intOf]; omega
            · obtain rfl : k = 6 := by omega
              rw [show ((6 : Nat) : Int) = 6 from rfl]
              have hX := HX.out.1.trans hx
              have hM := HX.out.2.1.ext hx
              have hBB := HX.out.2.2.1.ext hx
              have hI := HX.out.2.2.2.1.ext hx
              clear hx HX
              have hM8 := u_take256 (k := 8) hM (by decide)
              clear hM
              go_wp2_with fail
              refine (HH.out.2.2.2.1 _ _ wr hM8).mono ?_
              rintro e W101 ⟨rfl, hxx⟩
              replace hM8 := hM8.ext hxx
              replace hBB := hBB.ext hxx
              replace hI := hI.ext hxx
              replace hX := hX.trans hxx
              clear hxx
              go_upto_region 30 with fail
              have hxx := (Ext.refl W101).alloc (Obj.cells #[.int .i64 0, .int .i64 0, .int .i64 0] 23)
              obtain ⟨W6, hW⟩ : ∃ W, W = W101.alloc (Obj.cells #[.int .i64 0, .int .i64 0, .int .i64 0] 23) := ⟨_, rfl⟩
              rw [← hW] at hxx ⊢
              clear hW hM8
              replace hBB := hBB.ext hxx
              replace hI := hI.ext hxx
              replace hX := hX.trans hxx
              clear hxx
              obtain ⟨g0, g1, g2⟩ := hBB 0 (-1, 0, 0) rfl
              simp only [Nat.reduceMul, Nat.reduceAdd] at g0 g1 g2
              go_wp2_with fail
              refine (HH.out.2.2.2.2.1 W6).mono ?_
              rintro e W102 ⟨rfl, hxx⟩
              replace hBB := hBB.ext hxx
              replace hI := hI.ext hxx
              replace hX := hX.trans hxx
              clear hxx
              clear g0 g1 g2
              obtain ⟨p0, p1, p2, pf, pl⟩ := hI
              go_wp2_with fail
              refine (alive11_any _).mono ?_
              rintro e w9 ⟨rfl, hx9⟩
              go_wp2_with fail
              go_ret
              exact ⟨rfl, hX.trans hx9⟩
set_option maxRecDepth 100000 in
theorem phaseNames_lifted (os : Os) (started : os.Started) (H : Type) (enc : TypeId × Value → H) :
    ReturnsInHanded {} Try.checked os 6 .any (Rows.phaseNamesSpec.pre6 enc Try.prog Try.f6 Rows.phaseNamesRow.domain false) (Rows.phaseNamesSpec.post enc Try.prog Try.f6 false true false false) := by
  refine returnsInHanded_of_change (C := Try.checked) own_knob started (by kernel_rfl) Try.func6
    (ChangeSpec.witness6 (enc := enc) (C := Try.checked) false ⟨#[], #[], []⟩ 8 (by kernel_rfl) (by kernel_rfl) (by kernel_rfl) (by kernel_rfl)) ?_
  intro W base args ds gs before hval0 hW hcnd _
  have hval : ∀ (j : Nat) t v, Try.f6.params[j]? = some t → args[j]? = some v → Value.okWide Try.prog W .any base t v := hval0
  have hW' := hW
  obtain ⟨p, q, hA0, hV, rfl, hfz, hnd⟩ := hW
  have hA : DataW.TrodAll enc Try.prog W 0 (fun _ => true) true Try.f6.params.toList args.toList ds p := hA0
  rw [Try.params6] at hA hval
  obtain ⟨rfl, rfl, rfl⟩ := trodAll_none hA
  obtain ⟨rfl, rfl⟩ := trodVars_none hV
  clear hA0 hval0 hval hA
  refine (phaseNames_any W).mono fun e W' ⟨he, hx⟩ => ?_
  subst he
  exact ⟨_, rfl, post_law laid_out (by kernel_rfl) hW' rfl rfl rfl Try.underlying4 hx⟩
theorem phaseNames_holds : Rows.PhaseNamesSaid :=
  OpenClaim.holds_of_wide 6 Try.f6 rfl rfl rfl rfl rfl rfl rfl ⟨rfl, rfl, rfl, rfl, rfl⟩ rfl rfl rfl rfl rfl (by kernel_rfl) Try.func6 (by kernel_rfl)
    (of_decide_eq_true (by kernel_rfl)) (by unfold Func.isWrapper; first | (rw [if_pos (by decide +kernel)]; kernel_rfl) | (rw [if_neg (by decide +kernel)]; exact ⟨rfl, rfl⟩))
    (fun os started H enc _ => phaseNames_lifted os started H enc)
end Go.Proofs.Ythnonfmaamchkaa
