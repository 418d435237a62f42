/-
  CacheNames: the law returns true. No condition.
-/
import Derived.Test.YtmmcbleoglgamaaAlive03
import Derived.Test.YtmmcbleoglgamaaOpen
namespace Go.Proofs.Ytmmcbleoglgamaa
open Go.ChangeShapes Go.WideShapes Go.ChangeAt Go.RowKit
theorem Sl.pre {w : World} {A : Option Addr} {n c : Nat} {xs : List Value} (h : Sl w A n c xs) {k size : Nat} (hk : k ≤ n) : Sl w A k c (xs.take (k * size)) := by
  have hle := h.le
  refine ⟨by omega, h.max, h.nil, fun hx => ?_⟩
  obtain ⟨ad, rfl, hc⟩ := h.cells (by intro h0; subst h0; simp at hx)
  refine ⟨ad, rfl, fun j u hu => hc j u ?_⟩
  rw [List.getElem?_take] at hu
  split at hu
  · exact hu
  · cases hu
theorem u_take255 {w : World} {A : Option Addr} {c : Nat} {m : List Int} (h : Sl w A 256 c (fU m)) {k : Nat} (hk : k ≤ 256) : Sl w A k c (fU (m.take k)) := by
  have e : fU (m.take k) = (fU m).take (k * 1) := by simp [fU, List.map_take]
  rw [e]
  exact h.pre hk
theorem Sl.congr {w w' : World} {A : Option Addr} {n c : Nat} {xs : List Value} (h : Sl w A n c xs) (e : ∀ p, w'.cell? p = w.cell? p) : Sl w' A n c xs :=
  ⟨h.le, h.max, h.nil, fun hx => by
    obtain ⟨ad, hA, hc⟩ := h.cells hx
    exact ⟨ad, hA, fun j u hu => by rw [e]; exact hc j u hu⟩⟩
theorem setL_cell {w : World} {g : Nat} {v0 v1 v2 v3 : Value} (h : Box4 w g v0 v1 v2 v3) (u2 : Value) (p : Addr) :
    (w.setCell ⟨g, 2, none⟩ u2).cell? p = (setB w g v0 v1 u2 v3).cell? p := by
  have hb := h.set2 u2
  have hc := h.set4 v0 v1 u2 v3
  by_cases h3 : p = ⟨g, 3, none⟩
  · subst h3; rw [hb.c3]; exact hc.c3.symm
  · by_cases h2 : p = ⟨g, 2, none⟩
    · subst h2; rw [hb.c2]; exact hc.c2.symm
    · by_cases h1 : p = ⟨g, 1, none⟩
      · subst h1; rw [hb.c1]; exact hc.c1.symm
      · by_cases h0 : p = ⟨g, 0, none⟩
        · subst h0; rw [hb.c0]; exact hc.c0.symm
        · rw [cell_other (Ne.symm h2), setB_far (Ne.symm h0) (Ne.symm h1) (Ne.symm h2) (Ne.symm h3)]
/-- What a device in a variable may still do is stored. -/
theorem DV.setL {w : World} {g : Nat} {m : List Int} {q : List Dw} {l : Int} {n : Bool} (h : DV w g m q l n) (l' : Int) :
    DV (w.setCell ⟨g, 2, none⟩ (.int .i64 l')) g m q l' n := by
  obtain ⟨A, c, B, d, hb, hA, hB⟩ := h
  exact ⟨A, c, B, d, hb.set2 _, (hA.setB_U hb _ _ _ _).congr (setL_cell hb _), (hB.setB_D hb _ _ _ _).congr (setL_cell hb _)⟩
/-- The devices that are not valid. -/
def cnB : List Dev4 := [([], [], -1, false), ((zerosU 256).take 255, [], 0, false), (zerosU 256, [], -2, false), (zerosU 256, [], 1000001, false), (zerosU 256, [], -1, true), (zerosU 256, [], 1, true), (zerosU 256, [(-1, 0, false)], 0, false), (zerosU 256, [(256, 0, false)], 0, false), (zerosU 256, [(5, 0, false), (5, 0, false)], 0, false), (zerosU 256, [(5, 0, false), (4, 0, false)], 0, false)]
theorem cnB_bad : ∀ (k : Nat) (D : Dev4), cnB[k]? = some D → devB D.1 D.2.1 D.2.2.1 D.2.2.2 = false := by
  intro k D hD
  have hk : k < 10 := by
    have := (List.getElem?_eq_some_iff.1 hD).1
    simpa [cnB] using this
  have key : ∀ k : Fin 10, dv4 (cnB.getD k.val ([], [], -1, false)) = false := by decide +kernel
  have h := key ⟨k, hk⟩
  simp only [List.getD, hD, Option.getD_some] at h
  exact h
/-- They lie in block g, four cells each. -/
def CnB (w : World) (g : Nat) : Prop := ∀ (k : Nat) (D : Dev4), cnB[k]? = some D → ∃ A c B d, w.cell? ⟨g, k * 4, none⟩ = some (.slice A D.1.length c) ∧ w.cell? ⟨g, k * 4 + 1, none⟩ = some (.slice B D.2.1.length d) ∧ w.cell? ⟨g, k * 4 + 2, none⟩ = some (.int .i64 D.2.2.1) ∧ w.cell? ⟨g, k * 4 + 3, none⟩ = some (.bool D.2.2.2) ∧ Sl w A D.1.length c (fU D.1) ∧ Sl w B D.2.1.length d (fD D.2.1)
theorem CnB.ext {w w' : World} {g : Nat} (h : CnB w g) (x : Ext w w') : CnB w' g := fun k D hD => by
  obtain ⟨A, c, B, d, g0, g1, g2, g3, sA, sB⟩ := h k D hD
  exact ⟨A, c, B, d, x.cell g0, x.cell g1, x.cell g2, x.cell g3, sA.ext x, sB.ext x⟩
theorem cn_len : ((zerosU 256).take 255).length = 255 ∧ (zerosU 256).length = 256 := by decide +kernel
set_option maxRecDepth 100000 in
theorem cn_start (w1 : World) (g : Nat) (hM : Sl w1 (some ⟨g, 0, none⟩) 256 256 (fU (zerosU 256))) (hz : w1.heap.size = g + 1) :
    CnB (((((w1.alloc (Obj.cells #[.int .i64 (-1), .int .u64 0, .bool false] 44)).alloc (Obj.cells #[.int .i64 256, .int .u64 0, .bool false] 44)).alloc (Obj.cells #[.int .i64 5, .int .u64 0, .bool false, .int .i64 5, .int .u64 0, .bool false] 44)).alloc (Obj.cells #[.int .i64 5, .int .u64 0, .bool false, .int .i64 4, .int .u64 0, .bool false] 44)).alloc
      (Obj.cells #[.slice none 0 0, .slice none 0 0, .int .i64 (-1), .bool false, .slice (some ⟨g, 0, none⟩) 255 256, .slice none 0 0, .int .i64 0, .bool false, .slice (some ⟨g, 0, none⟩) 256 256, .slice none 0 0, .int .i64 (-2), .bool false, .slice (some ⟨g, 0, none⟩) 256 256, .slice none 0 0, .int .i64 1000001, .bool false, .slice (some ⟨g, 0, none⟩) 256 256, .slice none 0 0, .int .i64 (-1), .bool true, .slice (some ⟨g, 0, none⟩) 256 256, .slice none 0 0, .int .i64 1, .bool true, .slice (some ⟨g, 0, none⟩) 256 256, .slice (some ⟨g + 1, 0, none⟩) 1 1, .int .i64 0, .bool false, .slice (some ⟨g, 0, none⟩) 256 256, .slice (some ⟨g + 1 + 1, 0, none⟩) 1 1, .int .i64 0, .bool false, .slice (some ⟨g, 0, none⟩) 256 256, .slice (some ⟨g + 1 + 1 + 1, 0, none⟩) 2 2, .int .i64 0, .bool false, .slice (some ⟨g, 0, none⟩) 256 256, .slice (some ⟨g + 1 + 1 + 1 + 1, 0, none⟩) 2 2, .int .i64 0, .bool false] 25)) (g + 1 + 1 + 1 + 1 + 1) := by
  obtain ⟨l0, l1⟩ := cn_len
  have hM5 := ((((hM.alloc (Obj.cells #[.int .i64 (-1), .int .u64 0, .bool false] 44)).alloc (Obj.cells #[.int .i64 256, .int .u64 0, .bool false] 44)).alloc (Obj.cells #[.int .i64 5, .int .u64 0, .bool false, .int .i64 5, .int .u64 0, .bool false] 44)).alloc (Obj.cells #[.int .i64 5, .int .u64 0, .bool false, .int .i64 4, .int .u64 0, .bool false] 44))
  have d1 := (((Sl.lit' (w := w1) #[.int .i64 (-1), .int .u64 0, .bool false] 44 (g + 1) 1 hz.symm (by decide)).alloc (Obj.cells #[.int .i64 256, .int .u64 0, .bool false] 44)).alloc (Obj.cells #[.int .i64 5, .int .u64 0, .bool false, .int .i64 5, .int .u64 0, .bool false] 44)).alloc (Obj.cells #[.int .i64 5, .int .u64 0, .bool false, .int .i64 4, .int .u64 0, .bool false] 44)
  have d2 := ((Sl.lit' (w := w1.alloc (Obj.cells #[.int .i64 (-1), .int .u64 0, .bool false] 44)) #[.int .i64 256, .int .u64 0, .bool false] 44 (g + 1 + 1) 1 (by simp [hz]) (by decide)).alloc (Obj.cells #[.int .i64 5, .int .u64 0, .bool false, .int .i64 5, .int .u64 0, .bool false] 44)).alloc (Obj.cells #[.int .i64 5, .int .u64 0, .bool false, .int .i64 4, .int .u64 0, .bool false] 44)
  have d3 := (Sl.lit' (w := (w1.alloc (Obj.cells #[.int .i64 (-1), .int .u64 0, .bool false] 44)).alloc (Obj.cells #[.int .i64 256, .int .u64 0, .bool false] 44)) #[.int .i64 5, .int .u64 0, .bool false, .int .i64 5, .int .u64 0, .bool false] 44 (g + 1 + 1 + 1) 2 (by simp [hz]) (by decide)).alloc (Obj.cells #[.int .i64 5, .int .u64 0, .bool false, .int .i64 4, .int .u64 0, .bool false] 44)
  have d4 := Sl.lit' (w := ((w1.alloc (Obj.cells #[.int .i64 (-1), .int .u64 0, .bool false] 44)).alloc (Obj.cells #[.int .i64 256, .int .u64 0, .bool false] 44)).alloc (Obj.cells #[.int .i64 5, .int .u64 0, .bool false, .int .i64 5, .int .u64 0, .bool false] 44)) #[.int .i64 5, .int .u64 0, .bool false, .int .i64 4, .int .u64 0, .bool false] 44 (g + 1 + 1 + 1 + 1) 2 (by simp [hz]) (by decide)
  obtain ⟨W, hW⟩ : ∃ W, W = (((w1.alloc (Obj.cells #[.int .i64 (-1), .int .u64 0, .bool false] 44)).alloc (Obj.cells #[.int .i64 256, .int .u64 0, .bool false] 44)).alloc (Obj.cells #[.int .i64 5, .int .u64 0, .bool false, .int .i64 5, .int .u64 0, .bool false] 44)).alloc (Obj.cells #[.int .i64 5, .int .u64 0, .bool false, .int .i64 4, .int .u64 0, .bool false] 44) := ⟨_, rfl⟩
  have hz5 : g + 1 + 1 + 1 + 1 + 1 = W.heap.size := by rw [hW]; simp [hz]
  rw [← hW] at hM5 d1 d2 d3 d4 ⊢
  clear hW
  have hL := fun cs (T : TypeId) => Sl.lit' (w := W) cs T (g + 1 + 1 + 1 + 1 + 1) 10 hz5 (by decide)
  have hM6 := u_take255 (k := 255) hM5 (by decide)
  intro k D hD
  have hk : k < 10 := by
    have := (List.getElem?_eq_some_iff.1 hD).1
    simpa [cnB] using this
  have hcs : ∀ (cs : Array Value) (T : TypeId) (j : Nat) (v : Value), cs.toList[j]? = some v → (W.alloc (.cells cs T)).cell? ⟨g + 1 + 1 + 1 + 1 + 1, j, none⟩ = some v := fun cs T j v hv => by
    obtain ⟨ad, e, hc⟩ := (hL cs T).cells (by intro h0; rw [h0] at hv; simp at hv)
    injection e with e
    subst e
    have := hc j v hv
    simpa [Addr.add_lit] using this
  rcases (by omega : k = 0 ∨ k = 1 ∨ k = 2 ∨ k = 3 ∨ k = 4 ∨ k = 5 ∨ k = 6 ∨ k = 7 ∨ k = 8 ∨ k = 9) with rfl | rfl | rfl | rfl | rfl | rfl | rfl | rfl | rfl | rfl
  all_goals
    injection hD with hD
    subst hD
    simp only [l0, l1, List.length_cons, List.length_nil]
  · exact ⟨none, 0, none, 0, hcs _ _ _ _ rfl, hcs _ _ _ _ rfl, hcs _ _ _ _ rfl, hcs _ _ _ _ rfl, Sl.nil_ _, Sl.nil_ _⟩
  · exact ⟨some ⟨g, 0, none⟩, 256, none, 0, hcs _ _ _ _ rfl, hcs _ _ _ _ rfl, hcs _ _ _ _ rfl, hcs _ _ _ _ rfl, hM6.alloc _, Sl.nil_ _⟩
  · exact ⟨some ⟨g, 0, none⟩, 256, none, 0, hcs _ _ _ _ rfl, hcs _ _ _ _ rfl, hcs _ _ _ _ rfl, hcs _ _ _ _ rfl, hM5.alloc _, Sl.nil_ _⟩
  · exact ⟨some ⟨g, 0, none⟩, 256, none, 0, hcs _ _ _ _ rfl, hcs _ _ _ _ rfl, hcs _ _ _ _ rfl, hcs _ _ _ _ rfl, hM5.alloc _, Sl.nil_ _⟩
  · exact ⟨some ⟨g, 0, none⟩, 256, none, 0, hcs _ _ _ _ rfl, hcs _ _ _ _ rfl, hcs _ _ _ _ rfl, hcs _ _ _ _ rfl, hM5.alloc _, Sl.nil_ _⟩
  · exact ⟨some ⟨g, 0, none⟩, 256, none, 0, hcs _ _ _ _ rfl, hcs _ _ _ _ rfl, hcs _ _ _ _ rfl, hcs _ _ _ _ rfl, hM5.alloc _, Sl.nil_ _⟩
  · exact ⟨some ⟨g, 0, none⟩, 256, some ⟨g + 1, 0, none⟩, 1, hcs _ _ _ _ rfl, hcs _ _ _ _ rfl, hcs _ _ _ _ rfl, hcs _ _ _ _ rfl, hM5.alloc _, d1.alloc _⟩
  · exact ⟨some ⟨g, 0, none⟩, 256, some ⟨g + 1 + 1, 0, none⟩, 1, hcs _ _ _ _ rfl, hcs _ _ _ _ rfl, hcs _ _ _ _ rfl, hcs _ _ _ _ rfl, hM5.alloc _, d2.alloc _⟩
  · exact ⟨some ⟨g, 0, none⟩, 256, some ⟨g + 1 + 1 + 1, 0, none⟩, 2, hcs _ _ _ _ rfl, hcs _ _ _ _ rfl, hcs _ _ _ _ rfl, hcs _ _ _ _ rfl, hM5.alloc _, d3.alloc _⟩
  · exact ⟨some ⟨g, 0, none⟩, 256, some ⟨g + 1 + 1 + 1 + 1, 0, none⟩, 2, hcs _ _ _ _ rfl, hcs _ _ _ _ rfl, hcs _ _ _ _ rfl, hcs _ _ _ _ rfl, hM5.alloc _, d4.alloc _⟩
theorem cn_facts : devB (zerosU 256) [] 3 false = true ∧ devB (zerosU 256) [(3, 7, false)] 2 false = true ∧ devB (zerosU 256) [(3, 7, true)] 1 false = true ∧ devB ((zerosU 256).set 3 7) [] 0 false = true ∧ devB (zerosU 256) [(3, 7, false)] 0 false = true ∧ devB (zerosU 256) [(3, 7, false)] 0 true = true ∧ ldV (zerosU 256) [(3, 7, false)] 3 = 7 ∧ imgE 8 = 8 ∧ ((zerosU 256).take 8).length = 8 ∧ ((zerosU 256).set 3 7).length = 256 := by decide +kernel
set_option maxRecDepth 100000 in
set_option maxHeartbeats 12800000 in
theorem cacheNames_any (w : World) :
    Calls Try.prog 12 #[] w fun e w' => e = .returned (.bool true) ∧ Ext w w' := by
  obtain ⟨v0, v1, v2, v3, v4, v5, f7, f8, l8, lF⟩ := cn_facts
  have l0 := cn_len.2
  have t1 := fun A c W (ha : Sl W A ((zerosU 256).take 8).length c (fU ((zerosU 256).take 8))) => dNew_any ((zerosU 256).take 8) A c W ha
  rw [show newV ((zerosU 256).take 8) = ([], [], 0, false) from by rw [newV, l8, show imgE ((8 : Nat) : Int) = 8 from f8]; rfl, l8, show imgE ((8 : Nat) : Int) = 8 from f8] at t1
  obtain ⟨m, hm⟩ : ∃ m, zerosU 256 = m := ⟨_, rfl⟩
  obtain ⟨m8, hm8⟩ : ∃ m, (zerosU 256).take 8 = m := ⟨_, rfl⟩
  have HM := Lib.hid (And.intro hm hm8)
  rw [hm8] at t1
  rw [hm] at v0 v1 v2 v3 v4 v5 f7 l0 lF
  have aE : ∀ (q : List Dw) (l : Int) (n : Bool) (a : Int), devB m q l n = true → (a < 0 ∨ (256 : Int) ≤ a) → askE m q l n a = 2 := fun q l n a h1 h2 => by
    unfold askE; rw [if_pos h1, if_pos (by rw [l0]; exact h2)]
  have t2 := fun A c B d W (ha : Sl W A m.length c (fU m)) (hb : Sl W B ([] : List Dw).length d (fD [])) => dLoad_any m [] 3 false 256 A c B d W ha hb
  have t3 := fun A c B d W (ha : Sl W A m.length c (fU m)) (hb : Sl W B ([] : List Dw).length d (fD [])) => dStore_any m [] 3 false (-1) 0 A c B d W ha hb
  have t4 := fun A c B d W (ha : Sl W A m.length c (fU m)) (hb : Sl W B ([] : List Dw).length d (fD [])) => dFlush_any m [] 3 false 256 A c B d W ha hb
  rw [aE [] 3 false 256 v0 (.inr (by decide)), show loadV m [] 3 false 256 = 0 from by rw [loadV, aE [] 3 false 256 v0 (.inr (by decide))]; rfl] at t2
  rw [aE [] 3 false (-1) v0 (.inl (by decide)), show storeV m [] 3 false (-1) 0 = ([], [], 0, false) from by rw [storeV, aE [] 3 false (-1) v0 (.inl (by decide))]; rfl] at t3
  rw [aE [] 3 false 256 v0 (.inr (by decide)), show flushV m [] 3 false 256 = ([], [], 0, false) from by rw [flushV, aE [] 3 false 256 v0 (.inr (by decide))]; rfl] at t4
  have t5 := fun A c B d W (ha : Sl W A m.length c (fU m)) (hb : Sl W B ([] : List Dw).length d (fD [])) => dStore_ok (a := 3) 7 v0 (by decide) (by rw [l0]; decide) A c B d W ha hb
  rw [show stepD (m, [], 3, false) (.st 3 7) = (m, [(3, 7, false)], 2, false) from rfl] at t5
  have t6 := fun A c B d W (ha : Sl W A m.length c (fU m)) (hb : Sl W B ([(3, 7, false)] : List Dw).length d (fD [(3, 7, false)])) => dFlush_ok (a := 3) v1 (by decide) (by rw [l0]; decide) A c B d W ha hb
  rw [show stepD (m, [(3, 7, false)], 2, false) (.fl 3) = (m, [(3, 7, true)], 1, false) from rfl] at t6
  have t7 := fun A c B d W (ha : Sl W A m.length c (fU m)) (hb : Sl W B ([(3, 7, true)] : List Dw).length d (fD [(3, 7, true)])) => dFence_ok v2 A c B d W ha hb
  rw [show stepD (m, [(3, 7, true)], 1, false) .fe = (m.set 3 7, [], 0, false) from rfl] at t7
  have t8 := fun A c B d W (ha : Sl W A (m.set 3 7).length c (fU (m.set 3 7))) (hb : Sl W B ([] : List Dw).length d (fD [])) => dStore_ok (a := 4) 8 v3 (by decide) (by rw [lF]; decide) A c B d W ha hb
  rw [show stepD (m.set 3 7, [], 0, false) (.st 4 8) = (m.set 3 7, [], 0, true) from rfl] at t8
  have t9 := fun A c B d W (ha : Sl W A m.length c (fU m)) (hb : Sl W B ([(3, 7, false)] : List Dw).length d (fD [(3, 7, false)])) => dFence_ok v4 A c B d W ha hb
  rw [show stepD (m, [(3, 7, false)], 0, false) .fe = (m, [(3, 7, false)], 0, true) from rfl] at t9
  have t10 := fun A c B d W (ha : Sl W A m.length c (fU m)) (hb : Sl W B ([(3, 7, false)] : List Dw).length d (fD [(3, 7, false)])) => dFlush_ok (a := 3) v5 (by decide) (by rw [l0]; decide) A c B d W ha hb
  rw [show stepD (m, [(3, 7, false)], 0, true) (.fl 3) = (m, [(3, 7, false)], 0, true) from rfl] at t10
  have t11 := fun A c B d W (ha : Sl W A m.length c (fU m)) (hb : Sl W B ([(3, 7, false)] : List Dw).length d (fD [(3, 7, false)])) => dFence_ok v5 A c B d W ha hb
  rw [show stepD (m, [(3, 7, false)], 0, true) .fe = (m, [(3, 7, false)], 0, true) from rfl] at t11
  have t12 := fun A c B d W (ha : Sl W A m.length c (fU m)) (hb : Sl W B ([(3, 7, false)] : List Dw).length d (fD [(3, 7, false)])) => dStore_ok (a := 5) 9 v5 (by decide) (by rw [l0]; decide) A c B d W ha hb
  rw [show stepD (m, [(3, 7, false)], 0, true) (.st 5 9) = (m, [(3, 7, false)], 0, true) from rfl] at t12
  have t14 := fun A c B d W (ha : Sl W A m.length c (fU m)) (hb : Sl W B ([(3, 7, false)] : List Dw).length d (fD [(3, 7, false)])) => dLoad_ok (a := 3) v5 (by decide) (by rw [l0]; decide) A c B d W ha hb
  rw [f7] at t14
  obtain ⟨q1, hq1⟩ : ∃ q : List Dw, [(3, 7, false)] = q := ⟨_, rfl⟩
  obtain ⟨q2, hq2⟩ : ∃ q : List Dw, [(3, 7, true)] = q := ⟨_, rfl⟩
  obtain ⟨e0, he0⟩ : ∃ q : List Dw, [] = q := ⟨_, rfl⟩
  obtain ⟨z0, hz0⟩ : ∃ q : List Int, [] = q := ⟨_, rfl⟩
  obtain ⟨F, hF⟩ : ∃ F, m.set 3 7 = F := ⟨_, rfl⟩
  have k1 : ((q1.length : Int) == 1) = true := by rw [← hq1]; rfl
  have k0 : ((e0.length : Int) == 0) = true := by rw [← he0]; rfl
  have n0 : e0.length = 0 := by rw [← he0]; rfl
  have s0 : ∀ W, Sl W none e0.length 0 (fD e0) := fun W => by rw [← he0]; exact Sl.nil_ W
  rw [he0, hz0] at t1
  rw [he0] at t2
  rw [he0, hz0] at t3 t4
  rw [hq1, he0] at t5
  rw [hq1, hq2] at t6
  rw [hq2, hF, he0] at t7
  rw [hF, he0] at t8
  rw [hq1] at t9 t10 t11 t12 t14
  have HH := Lib.hid (And.intro t1 (And.intro t2 (And.intro t3 (And.intro t4 (And.intro t5 (And.intro t6 (And.intro t7 (And.intro t8 (And.intro t9 (And.intro t10 (And.intro t11 (And.intro t12 t14))))))))))))
  have HN := Lib.hid (And.intro n0 (And.intro s0 l0))
  clear t1 t2 t3 t4 t5 t6 t7 t8 t9 t10 t11 t12 t14 aE v0 v1 v2 v3 v4 v5 f7 f8 l8 lF l0 n0 s0 hq1 hq2 he0 hz0 hF hm hm8
  go_enter Try.func12, Try.ntmps12
  go_wp2_with (at_make; refine wpList_zeros rfl _ _ rfl 256 (by decide) _ _ _ _ rfl rfl rfl rfl ?_; intro w1 hown hX hz1)
  have hA := own_sl4 hown
  have hB := cn_start w1 w.heap.size hA hz1
  have hX2 : Ext w (((((w1.alloc (Obj.cells #[.int .i64 (-1), .int .u64 0, .bool false] 44)).alloc (Obj.cells #[.int .i64 256, .int .u64 0, .bool false] 44)).alloc (Obj.cells #[.int .i64 5, .int .u64 0, .bool false, .int .i64 5, .int .u64 0, .bool false] 44)).alloc (Obj.cells #[.int .i64 5, .int .u64 0, .bool false, .int .i64 4, .int .u64 0, .bool false] 44)).alloc (Obj.cells #[.slice none 0 0, .slice none 0 0, .int .i64 (-1), .bool false, .slice (some ⟨w.heap.size, 0, none⟩) 255 256, .slice none 0 0, .int .i64 0, .bool false, .slice (some ⟨w.heap.size, 0, none⟩) 256 256, .slice none 0 0, .int .i64 (-2), .bool false, .slice (some ⟨w.heap.size, 0, none⟩) 256 256, .slice none 0 0, .int .i64 1000001, .bool false, .slice (some ⟨w.heap.size, 0, none⟩) 256 256, .slice none 0 0, .int .i64 (-1), .bool true, .slice (some ⟨w.heap.size, 0, none⟩) 256 256, .slice none 0 0, .int .i64 1, .bool true, .slice (some ⟨w.heap.size, 0, none⟩) 256 256, .slice (some ⟨w.heap.size + 1, 0, none⟩) 1 1, .int .i64 0, .bool false, .slice (some ⟨w.heap.size, 0, none⟩) 256 256, .slice (some ⟨w.heap.size + 1 + 1, 0, none⟩) 1 1, .int .i64 0, .bool false, .slice (some ⟨w.heap.size, 0, none⟩) 256 256, .slice (some ⟨w.heap.size + 1 + 1 + 1, 0, none⟩) 2 2, .int .i64 0, .bool false, .slice (some ⟨w.heap.size, 0, none⟩) 256 256, .slice (some ⟨w.heap.size + 1 + 1 + 1 + 1, 0, none⟩) 2 2, .int .i64 0, .bool false] 25)) := (((((hX).alloc _).alloc _).alloc _).alloc _).alloc _
  have hA2 := (((((hA).alloc (Obj.cells #[.int .i64 (-1), .int .u64 0, .bool false] 44)).alloc (Obj.cells #[.int .i64 256, .int .u64 0, .bool false] 44)).alloc (Obj.cells #[.int .i64 5, .int .u64 0, .bool false, .int .i64 5, .int .u64 0, .bool false] 44)).alloc (Obj.cells #[.int .i64 5, .int .u64 0, .bool false, .int .i64 4, .int .u64 0, .bool false] 44)).alloc (Obj.cells #[.slice none 0 0, .slice none 0 0, .int .i64 (-1), .bool false, .slice (some ⟨w.heap.size, 0, none⟩) 255 256, .slice none 0 0, .int .i64 0, .bool false, .slice (some ⟨w.heap.size, 0, none⟩) 256 256, .slice none 0 0, .int .i64 (-2), .bool false, .slice (some ⟨w.heap.size, 0, none⟩) 256 256, .slice none 0 0, .int .i64 1000001, .bool false, .slice (some ⟨w.heap.size, 0, none⟩) 256 256, .slice none 0 0, .int .i64 (-1), .bool true, .slice (some ⟨w.heap.size, 0, none⟩) 256 256, .slice none 0 0, .int .i64 1, .bool true, .slice (some ⟨w.heap.size, 0, none⟩) 256 256, .slice (some ⟨w.heap.size + 1, 0, none⟩) 1 1, .int .i64 0, .bool false, .slice (some ⟨w.heap.size, 0, none⟩) 256 256, .slice (some ⟨w.heap.size + 1 + 1, 0, none⟩) 1 1, .int .i64 0, .bool false, .slice (some ⟨w.heap.size, 0, none⟩) 256 256, .slice (some ⟨w.heap.size + 1 + 1 + 1, 0, none⟩) 2 2, .int .i64 0, .bool false, .slice (some ⟨w.heap.size, 0, none⟩) 256 256, .slice (some ⟨w.heap.size + 1 + 1 + 1 + 1, 0, none⟩) 2 2, .int .i64 0, .bool false] 25)
  obtain ⟨W2, hW2⟩ : ∃ W, W = (((((w1.alloc (Obj.cells #[.int .i64 (-1), .int .u64 0, .bool false] 44)).alloc (Obj.cells #[.int .i64 256, .int .u64 0, .bool false] 44)).alloc (Obj.cells #[.int .i64 5, .int .u64 0, .bool false, .int .i64 5, .int .u64 0, .bool false] 44)).alloc (Obj.cells #[.int .i64 5, .int .u64 0, .bool false, .int .i64 4, .int .u64 0, .bool false] 44)).alloc (Obj.cells #[.slice none 0 0, .slice none 0 0, .int .i64 (-1), .bool false, .slice (some ⟨w.heap.size, 0, none⟩) 255 256, .slice none 0 0, .int .i64 0, .bool false, .slice (some ⟨w.heap.size, 0, none⟩) 256 256, .slice none 0 0, .int .i64 (-2), .bool false, .slice (some ⟨w.heap.size, 0, none⟩) 256 256, .slice none 0 0, .int .i64 1000001, .bool false, .slice (some ⟨w.heap.size, 0, none⟩) 256 256, .slice none 0 0, .int .i64 (-1), .bool true, .slice (some ⟨w.heap.size, 0, none⟩) 256 256, .slice none 0 0, .int .i64 1, .bool true, .slice (some ⟨w.heap.size, 0, none⟩) 256 256, .slice (some ⟨w.heap.size + 1, 0, none⟩) 1 1, .int .i64 0, .bool false, .slice (some ⟨w.heap.size, 0, none⟩) 256 256, .slice (some ⟨w.heap.size + 1 + 1, 0, none⟩) 1 1, .int .i64 0, .bool false, .slice (some ⟨w.heap.size, 0, none⟩) 256 256, .slice (some ⟨w.heap.size + 1 + 1 + 1, 0, none⟩) 2 2, .int .i64 0, .bool false, .slice (some ⟨w.heap.size, 0, none⟩) 256 256, .slice (some ⟨w.heap.size + 1 + 1 + 1 + 1, 0, none⟩) 2 2, .int .i64 0, .bool false] 25)) := ⟨_, rfl⟩
  rw [← hW2] at hB hX2 hA2 ⊢
  obtain ⟨gB, hgB⟩ : ∃ g, w.heap.size + 1 + 1 + 1 + 1 + 1 = g := ⟨_, rfl⟩
  rw [hgB] at hB ⊢
  obtain ⟨gM, hgM⟩ : ∃ g, w.heap.size = g := ⟨_, rfl⟩
  rw [hgM] at hA2
  simp only [hgM]
  have HB := Lib.hid hB
  have HX := Lib.hid (And.intro hX2 hA2)
  clear hB hX2 hA2 hW2 hgB hgM hA hown hX hz1
  go_loopw [3] (fun i wr => ∃ k : Nat, k ≤ 10 ∧ i = .int .i64 k ∧ Ext W2 wr) (fun i _ => 10 - (intOf i).toNat)
  case atStart => exact ⟨0, Nat.zero_le _, rfl, Ext.refl W2⟩
  case round =>
    obtain ⟨k, hk, rfl, hx⟩ := hrel
    by_cases hlt : k < 10
    · obtain ⟨⟨m', q', l', n'⟩, hD⟩ : ∃ D, cnB[k]? = some D := ⟨_, List.getElem?_eq_getElem hlt⟩
      have hb := cnB_bad k _ hD
      have hde : devE m' q' l' n' = 8 := devE_no hb
      have hae : ∀ a, askE m' q' l' n' a = 8 := fun a => by unfold askE; rw [show devB m' q' l' n' = false from hb]; rfl
      have b1 := fun A c B d W ha hb => dLoad_any m' q' l' n' (-1) A c B d W ha hb
      have b2 := fun A c B d W ha hb => dStore_any m' q' l' n' (-1) 0 A c B d W ha hb
      have b3 := fun A c B d W ha hb => dFlush_any m' q' l' n' (-1) A c B d W ha hb
      have b4 := fun A c B d W ha hb => dFence_any m' q' l' n' A c B d W ha hb
      have b5 := fun A c B d W ha hb => dView_any m' q' l' n' A c B d W ha hb
      have b6 := fun A c B d W hb => dCheck_any m' q' l' n' A c B d W hb
      rw [hae] at b1 b2 b3
      rw [hde] at b4 b5 b6
      obtain ⟨x, hxv⟩ : ∃ x, loadV m' q' l' n' (-1) = x := ⟨_, rfl⟩
      obtain ⟨⟨m2, q2', l2, n2⟩, h2⟩ : ∃ D, storeV m' q' l' n' (-1) 0 = D := ⟨_, rfl⟩
      obtain ⟨⟨m3, q3, l3, n3⟩, h3⟩ : ∃ D, flushV m' q' l' n' (-1) = D := ⟨_, rfl⟩
      obtain ⟨⟨m4, q4, l4, n4⟩, h4⟩ : ∃ D, fenceV m' q' l' n' = D := ⟨_, rfl⟩
      obtain ⟨V, h5⟩ : ∃ x, viewL m' q' l' n' = x := ⟨_, rfl⟩
      rw [hxv] at b1
      rw [h2] at b2
      rw [h3] at b3
      rw [h4] at b4
      rw [h5] at b5
      have HC := Lib.hid (And.intro b1 (And.intro b2 (And.intro b3 (And.intro b4 (And.intro b5 b6)))))
      have HDk := Lib.hid hD
      have i1 : (0 : Int) ≤ k := by omega
      have i2 : (k : Int) < 10 := by omega
      clear b1 b2 b3 b4 b5 b6 hxv h2 h3 h4 h5 hb hde hae hD
      obtain ⟨A, c, B, d, g0, g1, g2, g3, sA, sB⟩ := (HB.out.ext hx) k _ HDk.out
      dsimp only at g0 g1 g2 g3 sA sB
      go_wp2_with fail
      refine (HC.out.1 A c B d wr sA sB).mono ?_
      rintro e W101 ⟨rfl, hxx⟩
      replace hx := hx.trans hxx
      clear hxx
      clear g0 g1 g2 g3 sA sB
      obtain ⟨A, c, B, d, g0, g1, g2, g3, sA, sB⟩ := (HB.out.ext hx) k _ HDk.out
      dsimp only at g0 g1 g2 g3 sA sB
      go_wp2_with fail
      refine (HC.out.2.1 A c B d W101 sA sB).mono ?_
      rintro e W102 ⟨AS2, cS2, BS2, dS2, rfl, sS2, tS2, hxx⟩
      go_upto_region 8 with fail
      have hS2 := DV.new W102 m2 (q2') l2 n2 AS2 cS2 BS2 dS2 25 sS2 tS2
      have loS2 := Nat.le_trans hx.size hxx.size
      replace hxx := Ext.trans hxx ((Ext.refl W102).alloc (Obj.cells #[.slice AS2 m2.length cS2, .slice BS2 q2'.length dS2, .int .i64 l2, .bool n2] 25))
      obtain ⟨W103, hW⟩ : ∃ W, W = W102.alloc (Obj.cells #[.slice AS2 m2.length cS2, .slice BS2 q2'.length dS2, .int .i64 l2, .bool n2] 25) := ⟨_, rfl⟩
      obtain ⟨gS2, hg⟩ : ∃ g, W102.heap.size = g := ⟨_, rfl⟩
      rw [← hW] at hS2 hxx ⊢
      rw [hg] at hS2 loS2  ⊢
      clear hW hg sS2 tS2
      replace hx := hx.trans hxx
      clear hxx
      clear g0 g1 g2 g3 sA sB hS2 loS2
      obtain ⟨A, c, B, d, g0, g1, g2, g3, sA, sB⟩ := (HB.out.ext hx) k _ HDk.out
      dsimp only at g0 g1 g2 g3 sA sB
      go_wp2_with fail
      refine (HC.out.2.2.1 A c B d W103 sA sB).mono ?_
      rintro e W104 ⟨AS3, cS3, BS3, dS3, rfl, sS3, tS3, hxx⟩
      go_upto_region 9 with fail
      have hS3 := DV.new W104 m3 q3 l3 n3 AS3 cS3 BS3 dS3 25 sS3 tS3
      have loS3 := Nat.le_trans hx.size hxx.size
      replace hxx := Ext.trans hxx ((Ext.refl W104).alloc (Obj.cells #[.slice AS3 m3.length cS3, .slice BS3 q3.length dS3, .int .i64 l3, .bool n3] 25))
      obtain ⟨W105, hW⟩ : ∃ W, W = W104.alloc (Obj.cells #[.slice AS3 m3.length cS3, .slice BS3 q3.length dS3, .int .i64 l3, .bool n3] 25) := ⟨_, rfl⟩
      obtain ⟨gS3, hg⟩ : ∃ g, W104.heap.size = g := ⟨_, rfl⟩
      rw [← hW] at hS3 hxx ⊢
      rw [hg] at hS3 loS3  ⊢
      clear hW hg sS3 tS3
      replace hx := hx.trans hxx
      clear hxx
      clear g0 g1 g2 g3 sA sB hS3 loS3
      obtain ⟨A, c, B, d, g0, g1, g2, g3, sA, sB⟩ := (HB.out.ext hx) k _ HDk.out
      dsimp only at g0 g1 g2 g3 sA sB
      go_wp2_with fail
      refine (HC.out.2.2.2.1 A c B d W105 sA sB).mono ?_
      rintro e W106 ⟨AS4, cS4, BS4, dS4, rfl, sS4, tS4, hxx⟩
      go_upto_region 10 with fail
      have hS4 := DV.new W106 m4 q4 l4 n4 AS4 cS4 BS4 dS4 25 sS4 tS4
      have loS4 := Nat.le_trans hx.size hxx.size
      replace hxx := Ext.trans hxx ((Ext.refl W106).alloc (Obj.cells #[.slice AS4 m4.length cS4, .slice BS4 q4.length dS4, .int .i64 l4, .bool n4] 25))
      obtain ⟨W107, hW⟩ : ∃ W, W = W106.alloc (Obj.cells #[.slice AS4 m4.length cS4, .slice BS4 q4.length dS4, .int .i64 l4, .bool n4] 25) := ⟨_, rfl⟩
      obtain ⟨gS4, hg⟩ : ∃ g, W106.heap.size = g := ⟨_, rfl⟩
      rw [← hW] at hS4 hxx ⊢
      rw [hg] at hS4 loS4  ⊢
      clear hW hg sS4 tS4
      replace hx := hx.trans hxx
      clear hxx
      clear g0 g1 g2 g3 sA sB hS4 loS4
      obtain ⟨A, c, B, d, g0, g1, g2, g3, sA, sB⟩ := (HB.out.ext hx) k _ HDk.out
      dsimp only at g0 g1 g2 g3 sA sB
      go_wp2_with fail
      refine (HC.out.2.2.2.2.1 A c B d W107 sA sB).mono ?_
      rintro e W108 ⟨AV, cV, rfl, -, -, hxx⟩
      replace hx := hx.trans hxx
      clear hxx
      clear g0 g1 g2 g3 sA sB
      obtain ⟨A, c, B, d, g0, g1, g2, g3, sA, sB⟩ := (HB.out.ext hx) k _ HDk.out
      dsimp only at g0 g1 g2 g3 sA sB
      go_wp2_with fail
      refine (HC.out.2.2.2.2.2 A c B d W108 sB).mono ?_
      rintro e W109 ⟨rfl, hxx⟩
      replace hx := hx.trans hxx
      clear hxx
      clear g0 g1 g2 g3 sA sB
      go_wp2_with fail
      go_roundw
      case rel => exact ⟨k + 1, by omega, by go_num, hx⟩
      case measure => simp [intOf]; omega
    · obtain rfl : k = 10 := by omega
      rw [show ((10 : Nat) : Int) = 10 from rfl]
      have hM := HX.out.2.ext hx
      have hX := HX.out.1.trans hx
      clear hx
      have hM8 := u_take255 (k := 8) hM (by decide)
      rw [HM.out.2] at hM8
      rw [HM.out.1] at hM
      go_upto_region 13 with fail
      go_wp2_with fail
      refine (HH.out.1 _ _ wr hM8).mono ?_
      rintro e W101 ⟨AS1, cS1, BS1, dS1, rfl, sS1, tS1, hxx⟩
      go_upto_region 14 with fail
      have hS1 := DV.new W101 z0 e0 0 false AS1 cS1 BS1 dS1 25 sS1 tS1
      have loS1 := Nat.le_trans hX.size hxx.size
      replace hxx := Ext.trans hxx ((Ext.refl W101).alloc (Obj.cells #[.slice AS1 z0.length cS1, .slice BS1 e0.length dS1, .int .i64 0, .bool false] 25))
      obtain ⟨W102, hW⟩ : ∃ W, W = W101.alloc (Obj.cells #[.slice AS1 z0.length cS1, .slice BS1 e0.length dS1, .int .i64 0, .bool false] 25) := ⟨_, rfl⟩
      obtain ⟨gS1, hg⟩ : ∃ g, W101.heap.size = g := ⟨_, rfl⟩
      rw [← hW] at hS1 hxx ⊢
      rw [hg] at hS1 loS1  ⊢
      clear hW hg sS1 tS1
      replace hM := hM.ext hxx
      replace hM8 := hM8.ext hxx
      replace hX := hX.trans hxx
      clear hxx
      clear hS1 loS1 hM8
      go_upto_region 15 with fail
      have hD := DV.new W102 m e0 3 false (some ⟨gM, 0, none⟩) 256 none 0 25 (by rw [HN.out.2.2]; exact hM) (HN.out.2.1 _)
      rw [HN.out.2.2, HN.out.1] at hD
      have loD := hX.size
      have hxx := (Ext.refl W102).alloc (Obj.cells #[.slice (some ⟨gM, 0, none⟩) 256 256, .slice none 0 0, .int .i64 3, .bool false] 25)
      obtain ⟨W5, hW⟩ : ∃ W, W = W102.alloc (Obj.cells #[.slice (some ⟨gM, 0, none⟩) 256 256, .slice none 0 0, .int .i64 3, .bool false] 25) := ⟨_, rfl⟩
      obtain ⟨gD, hg⟩ : ∃ g, W102.heap.size = g := ⟨_, rfl⟩
      rw [← hW] at hD hxx ⊢
      rw [hg] at hD loD ⊢
      clear hW hg
      replace hM := hM.ext hxx
      replace hX := hX.trans hxx
      clear hxx hM
      obtain ⟨AD, cD, BD, dD, bD, sD, tD⟩ := hD
      obtain ⟨b0, b1, b2, b3, bf, bl⟩ := bD
      go_wp2_with fail
      refine (HH.out.2.1 AD cD BD dD W5 sD tD).mono ?_
      rintro e W103 ⟨rfl, hxx⟩
      have hD := DV.mk (Box4.mk b0 b1 b2 b3 bf bl) sD tD
      clear b0 b1 b2 b3 bf bl
      replace hD := hD.ext hxx
      replace hX := hX.trans hxx
      clear hxx
      obtain ⟨AD, cD, BD, dD, bD, sD, tD⟩ := hD
      obtain ⟨b0, b1, b2, b3, bf, bl⟩ := bD
      go_wp2_with fail
      refine (HH.out.2.2.1 AD cD BD dD W103 sD tD).mono ?_
      rintro e W104 ⟨AS2, cS2, BS2, dS2, rfl, sS2, tS2, hxx⟩
      have hD := DV.mk (Box4.mk b0 b1 b2 b3 bf bl) sD tD
      clear b0 b1 b2 b3 bf bl
      go_upto_region 17 with fail
      have hS2 := DV.new W104 z0 e0 0 false AS2 cS2 BS2 dS2 25 sS2 tS2
      have neDS2 : gD ≠ W104.heap.size := Nat.ne_of_lt (Nat.lt_of_lt_of_le hD.lt hxx.size)
      have loS2 := Nat.le_trans hX.size hxx.size
      replace hxx := Ext.trans hxx ((Ext.refl W104).alloc (Obj.cells #[.slice AS2 z0.length cS2, .slice BS2 e0.length dS2, .int .i64 0, .bool false] 25))
      obtain ⟨W105, hW⟩ : ∃ W, W = W104.alloc (Obj.cells #[.slice AS2 z0.length cS2, .slice BS2 e0.length dS2, .int .i64 0, .bool false] 25) := ⟨_, rfl⟩
      obtain ⟨gS2, hg⟩ : ∃ g, W104.heap.size = g := ⟨_, rfl⟩
      rw [← hW] at hS2 hxx ⊢
      rw [hg] at hS2 loS2 neDS2 ⊢
      clear hW hg sS2 tS2
      replace hD := hD.ext hxx
      replace hX := hX.trans hxx
      clear hxx
      clear hS2 loS2 neDS2
      obtain ⟨AD, cD, BD, dD, bD, sD, tD⟩ := hD
      obtain ⟨b0, b1, b2, b3, bf, bl⟩ := bD
      go_wp2_with fail
      refine (HH.out.2.2.2.1 AD cD BD dD W105 sD tD).mono ?_
      rintro e W106 ⟨AS3, cS3, BS3, dS3, rfl, sS3, tS3, hxx⟩
      have hD := DV.mk (Box4.mk b0 b1 b2 b3 bf bl) sD tD
      clear b0 b1 b2 b3 bf bl
      go_upto_region 18 with fail
      have hS3 := DV.new W106 z0 e0 0 false AS3 cS3 BS3 dS3 25 sS3 tS3
      have neDS3 : gD ≠ W106.heap.size := Nat.ne_of_lt (Nat.lt_of_lt_of_le hD.lt hxx.size)
      have loS3 := Nat.le_trans hX.size hxx.size
      replace hxx := Ext.trans hxx ((Ext.refl W106).alloc (Obj.cells #[.slice AS3 z0.length cS3, .slice BS3 e0.length dS3, .int .i64 0, .bool false] 25))
      obtain ⟨W107, hW⟩ : ∃ W, W = W106.alloc (Obj.cells #[.slice AS3 z0.length cS3, .slice BS3 e0.length dS3, .int .i64 0, .bool false] 25) := ⟨_, rfl⟩
      obtain ⟨gS3, hg⟩ : ∃ g, W106.heap.size = g := ⟨_, rfl⟩
      rw [← hW] at hS3 hxx ⊢
      rw [hg] at hS3 loS3 neDS3 ⊢
      clear hW hg sS3 tS3
      replace hD := hD.ext hxx
      replace hX := hX.trans hxx
      clear hxx
      clear hS3 loS3 neDS3
      obtain ⟨AD, cD, BD, dD, bD, sD, tD⟩ := hD
      obtain ⟨b0, b1, b2, b3, bf, bl⟩ := bD
      go_wp2_with fail
      refine (HH.out.2.2.2.2.1 AD cD BD dD W107 sD tD).mono ?_
      rintro e W108 ⟨A9, c9, B9, d9, rfl, s9, t9, hxx⟩
      have hD := DV.mk (Box4.mk b0 b1 b2 b3 bf bl) sD tD
      clear b0 b1 b2 b3 bf bl
      replace hD := hD.ext hxx
      replace hX := hX.trans hxx
      have h9 := hD
      obtain ⟨A8, c8, B8, d8, b9, s8, t8⟩ := h9
      obtain ⟨b0, b1, b2, b3, bf, bl⟩ := b9
      go_upto_region 19 with fail
      clear b0 b1 b2 b3 bf bl s8 t8 hxx
      have h9 := hD.set s9 t9 (2) (false)
      replace hX := hX.setB loD (.slice A9 m.length c9) (.slice B9 q1.length d9) (.int .i64 2) (.bool false)
      obtain ⟨W109, hW⟩ : ∃ W, W = setB W108 gD (.slice A9 m.length c9) (.slice B9 q1.length d9) (.int .i64 2) (.bool false) := ⟨_, rfl⟩
      rw [show ((((W108.setCell ⟨gD, 0, none⟩ (.slice A9 m.length c9)).setCell ⟨gD, 1, none⟩ (.slice B9 q1.length d9)).setCell ⟨gD, 2, none⟩ (.int .i64 2)).setCell ⟨gD, 3, none⟩ (.bool false)) = setB W108 gD (.slice A9 m.length c9) (.slice B9 q1.length d9) (.int .i64 2) (.bool false) from rfl, ← hW]
      rw [← hW] at h9 hX 
      replace hD := h9
      clear h9 hW s9 t9
      obtain ⟨AD, cD, BD, dD, bD, sD, tD⟩ := hD
      obtain ⟨b0, b1, b2, b3, bf, bl⟩ := bD
      go_wp2_with fail
      refine (HH.out.2.2.2.2.2.1 AD cD BD dD W109 sD tD).mono ?_
      rintro e W110 ⟨AP, cP, BP, dP, rfl, sP, tP, hxx⟩
      have hD := DV.mk (Box4.mk b0 b1 b2 b3 bf bl) sD tD
      clear b0 b1 b2 b3 bf bl
      go_upto_region 20 with fail
      have hP := DV.new W110 m q2 1 false AP cP BP dP 25 sP tP
      have neDP : gD ≠ W110.heap.size := Nat.ne_of_lt (Nat.lt_of_lt_of_le hD.lt hxx.size)
      have loP := Nat.le_trans hX.size hxx.size
      replace hxx := Ext.trans hxx ((Ext.refl W110).alloc (Obj.cells #[.slice AP m.length cP, .slice BP q2.length dP, .int .i64 1, .bool false] 25))
      obtain ⟨W111, hW⟩ : ∃ W, W = W110.alloc (Obj.cells #[.slice AP m.length cP, .slice BP q2.length dP, .int .i64 1, .bool false] 25) := ⟨_, rfl⟩
      obtain ⟨gP, hg⟩ : ∃ g, W110.heap.size = g := ⟨_, rfl⟩
      rw [← hW] at hP hxx ⊢
      rw [hg] at hP loP neDP ⊢
      clear hW hg sP tP
      replace hD := hD.ext hxx
      replace hX := hX.trans hxx
      clear hxx
      obtain ⟨AP, cP, BP, dP, bP, sP, tP⟩ := hP
      obtain ⟨b0, b1, b2, b3, bf, bl⟩ := bP
      go_wp2_with fail
      refine (HH.out.2.2.2.2.2.2.1 AP cP BP dP W111 sP tP).mono ?_
      rintro e W112 ⟨AQ, cQ, BQ, dQ, rfl, sQ, tQ, hxx⟩
      have hP := DV.mk (Box4.mk b0 b1 b2 b3 bf bl) sP tP
      clear b0 b1 b2 b3 bf bl
      go_upto_region 21 with fail
      have hQ := DV.new W112 F e0 0 false AQ cQ BQ dQ 25 sQ tQ
      have neDQ : gD ≠ W112.heap.size := Nat.ne_of_lt (Nat.lt_of_lt_of_le hD.lt hxx.size)
      have nePQ : gP ≠ W112.heap.size := Nat.ne_of_lt (Nat.lt_of_lt_of_le hP.lt hxx.size)
      have loQ := Nat.le_trans hX.size hxx.size
      replace hxx := Ext.trans hxx ((Ext.refl W112).alloc (Obj.cells #[.slice AQ F.length cQ, .slice BQ e0.length dQ, .int .i64 0, .bool false] 25))
      obtain ⟨W113, hW⟩ : ∃ W, W = W112.alloc (Obj.cells #[.slice AQ F.length cQ, .slice BQ e0.length dQ, .int .i64 0, .bool false] 25) := ⟨_, rfl⟩
      obtain ⟨gQ, hg⟩ : ∃ g, W112.heap.size = g := ⟨_, rfl⟩
      rw [← hW] at hQ hxx ⊢
      rw [hg] at hQ loQ neDQ nePQ ⊢
      clear hW hg sQ tQ
      replace hD := hD.ext hxx
      replace hP := hP.ext hxx
      replace hX := hX.trans hxx
      clear hxx
      obtain ⟨AQ, cQ, BQ, dQ, bQ, sQ, tQ⟩ := hQ
      obtain ⟨b0, b1, b2, b3, bf, bl⟩ := bQ
      go_wp2_with fail
      refine (HH.out.2.2.2.2.2.2.2.1 AQ cQ BQ dQ W113 sQ tQ).mono ?_
      rintro e W114 ⟨AR, cR, BR, dR, rfl, sR, tR, hxx⟩
      have hQ := DV.mk (Box4.mk b0 b1 b2 b3 bf bl) sQ tQ
      clear b0 b1 b2 b3 bf bl
      go_upto_region 22 with fail
      have hR := DV.new W114 F e0 0 true AR cR BR dR 25 sR tR
      have neDR : gD ≠ W114.heap.size := Nat.ne_of_lt (Nat.lt_of_lt_of_le hD.lt hxx.size)
      have nePR : gP ≠ W114.heap.size := Nat.ne_of_lt (Nat.lt_of_lt_of_le hP.lt hxx.size)
      have neQR : gQ ≠ W114.heap.size := Nat.ne_of_lt (Nat.lt_of_lt_of_le hQ.lt hxx.size)
      have loR := Nat.le_trans hX.size hxx.size
      replace hxx := Ext.trans hxx ((Ext.refl W114).alloc (Obj.cells #[.slice AR F.length cR, .slice BR e0.length dR, .int .i64 0, .bool true] 25))
      obtain ⟨W115, hW⟩ : ∃ W, W = W114.alloc (Obj.cells #[.slice AR F.length cR, .slice BR e0.length dR, .int .i64 0, .bool true] 25) := ⟨_, rfl⟩
      obtain ⟨gR, hg⟩ : ∃ g, W114.heap.size = g := ⟨_, rfl⟩
      rw [← hW] at hR hxx ⊢
      rw [hg] at hR loR neDR nePR neQR ⊢
      clear hW hg sR tR
      replace hD := hD.ext hxx
      replace hP := hP.ext hxx
      replace hQ := hQ.ext hxx
      replace hX := hX.trans hxx
      clear hxx
      obtain ⟨AD, cD, BD, dD, bD, sD, tD⟩ := hD
      obtain ⟨b0, b1, b2, b3, bf, bl⟩ := bD
      obtain ⟨AP, cP, BP, dP, bP, sP, tP⟩ := hP
      obtain ⟨o0, o1, o2, o3, of, ol⟩ := bP
      obtain ⟨AQ, cQ, BQ, dQ, bQ, sQ, tQ⟩ := hQ
      obtain ⟨p0, p1, p2, p3, pf, pl⟩ := bQ
      go_upto_region 23 with fail
      have hD := DV.mk (Box4.mk b0 b1 b2 b3 bf bl) sD tD
      clear b0 b1 b2 b3 bf bl
      have hP := DV.mk (Box4.mk o0 o1 o2 o3 of ol) sP tP
      clear o0 o1 o2 o3 of ol
      have hQ := DV.mk (Box4.mk p0 p1 p2 p3 pf pl) sQ tQ
      clear p0 p1 p2 p3 pf pl
      clear hP hQ hR loP loQ loR neDP neDQ nePQ neDR nePR neQR
      have HDD := Lib.hid (And.intro (hD.setL 0) (hX.setCell (p := ⟨gD, 2, none⟩) loD (.int .i64 0)))
      obtain ⟨A8, c8, B8, d8, ⟨b0, b1, b2, b3, bf, bl⟩, -, -⟩ := hD
      clear hX
      go_upto_region 24 with fail
      clear b0 b1 b2 b3 bf bl
      obtain ⟨W6, hW⟩ : ∃ W, W = W115.setCell ⟨gD, 2, none⟩ (.int .i64 0) := ⟨_, rfl⟩
      obtain ⟨hD, hX⟩ := HDD.out
      rw [← hW] at hD hX ⊢
      clear hW HDD
      obtain ⟨AD, cD, BD, dD, bD, sD, tD⟩ := hD
      obtain ⟨b0, b1, b2, b3, bf, bl⟩ := bD
      go_wp2_with fail
      refine (HH.out.2.2.2.2.2.2.2.2.1 AD cD BD dD W6 sD tD).mono ?_
      rintro e W101 ⟨A9, c9, B9, d9, rfl, s9, t9, hxx⟩
      have hD := DV.mk (Box4.mk b0 b1 b2 b3 bf bl) sD tD
      clear b0 b1 b2 b3 bf bl
      replace hD := hD.ext hxx
      replace hX := hX.trans hxx
      have h9 := hD
      obtain ⟨A8, c8, B8, d8, b9, s8, t8⟩ := h9
      obtain ⟨b0, b1, b2, b3, bf, bl⟩ := b9
      go_upto_region 25 with fail
      clear b0 b1 b2 b3 bf bl s8 t8 hxx
      have h9 := hD.set s9 t9 (0) (true)
      replace hX := hX.setB loD (.slice A9 m.length c9) (.slice B9 q1.length d9) (.int .i64 0) (.bool true)
      obtain ⟨W102, hW⟩ : ∃ W, W = setB W101 gD (.slice A9 m.length c9) (.slice B9 q1.length d9) (.int .i64 0) (.bool true) := ⟨_, rfl⟩
      rw [show ((((W101.setCell ⟨gD, 0, none⟩ (.slice A9 m.length c9)).setCell ⟨gD, 1, none⟩ (.slice B9 q1.length d9)).setCell ⟨gD, 2, none⟩ (.int .i64 0)).setCell ⟨gD, 3, none⟩ (.bool true)) = setB W101 gD (.slice A9 m.length c9) (.slice B9 q1.length d9) (.int .i64 0) (.bool true) from rfl, ← hW]
      rw [← hW] at h9 hX 
      replace hD := h9
      clear h9 hW s9 t9
      obtain ⟨AD, cD, BD, dD, bD, sD, tD⟩ := hD
      obtain ⟨b0, b1, b2, b3, bf, bl⟩ := bD
      go_wp2_with fail
      refine (HH.out.2.2.2.2.2.2.2.2.2.1 AD cD BD dD W102 sD tD).mono ?_
      rintro e W103 ⟨AY, cY, BY, dY, rfl, sY, tY, hxx⟩
      have hD := DV.mk (Box4.mk b0 b1 b2 b3 bf bl) sD tD
      clear b0 b1 b2 b3 bf bl
      go_upto_region 27 with fail
      have hY := DV.new W103 m q1 0 true AY cY BY dY 25 sY tY
      have neDY : gD ≠ W103.heap.size := Nat.ne_of_lt (Nat.lt_of_lt_of_le hD.lt hxx.size)
      have loY := Nat.le_trans hX.size hxx.size
      replace hxx := Ext.trans hxx ((Ext.refl W103).alloc (Obj.cells #[.slice AY m.length cY, .slice BY q1.length dY, .int .i64 0, .bool true] 25))
      obtain ⟨W104, hW⟩ : ∃ W, W = W103.alloc (Obj.cells #[.slice AY m.length cY, .slice BY q1.length dY, .int .i64 0, .bool true] 25) := ⟨_, rfl⟩
      obtain ⟨gY, hg⟩ : ∃ g, W103.heap.size = g := ⟨_, rfl⟩
      rw [← hW] at hY hxx ⊢
      rw [hg] at hY loY neDY ⊢
      clear hW hg sY tY
      replace hD := hD.ext hxx
      replace hX := hX.trans hxx
      clear hxx
      obtain ⟨AY, cY, BY, dY, bY, sY, tY⟩ := hY
      obtain ⟨b0, b1, b2, b3, bf, bl⟩ := bY
      go_wp2_with fail
      refine (HH.out.2.2.2.2.2.2.2.2.2.2.1 AY cY BY dY W104 sY tY).mono ?_
      rintro e W105 ⟨A9, c9, B9, d9, rfl, s9, t9, hxx⟩
      have hY := DV.mk (Box4.mk b0 b1 b2 b3 bf bl) sY tY
      clear b0 b1 b2 b3 bf bl
      replace hD := hD.ext hxx
      replace hY := hY.ext hxx
      replace hX := hX.trans hxx
      have h9 := hY
      obtain ⟨A8, c8, B8, d8, b9, s8, t8⟩ := h9
      obtain ⟨b0, b1, b2, b3, bf, bl⟩ := b9
      go_upto_region 28 with fail
      clear b0 b1 b2 b3 bf bl s8 t8 hxx
      have h9 := hY.set s9 t9 (0) (true)
      replace hD := hD.far hY (by first | exact neDY | exact Ne.symm neYD) (.slice A9 m.length c9) (.slice B9 q1.length d9) (.int .i64 0) (.bool true)
      replace hX := hX.setB loY (.slice A9 m.length c9) (.slice B9 q1.length d9) (.int .i64 0) (.bool true)
      obtain ⟨W106, hW⟩ : ∃ W, W = setB W105 gY (.slice A9 m.length c9) (.slice B9 q1.length d9) (.int .i64 0) (.bool true) := ⟨_, rfl⟩
      rw [show ((((W105.setCell ⟨gY, 0, none⟩ (.slice A9 m.length c9)).setCell ⟨gY, 1, none⟩ (.slice B9 q1.length d9)).setCell ⟨gY, 2, none⟩ (.int .i64 0)).setCell ⟨gY, 3, none⟩ (.bool true)) = setB W105 gY (.slice A9 m.length c9) (.slice B9 q1.length d9) (.int .i64 0) (.bool true) from rfl, ← hW]
      rw [← hW] at h9 hX hD
      replace hY := h9
      clear h9 hW s9 t9
      obtain ⟨AY, cY, BY, dY, bY, sY, tY⟩ := hY
      obtain ⟨b0, b1, b2, b3, bf, bl⟩ := bY
      go_wp2_with fail
      refine (HH.out.2.2.2.2.2.2.2.2.2.2.2.1 AY cY BY dY W106 sY tY).mono ?_
      rintro e W107 ⟨A9, c9, B9, d9, rfl, s9, t9, hxx⟩
      have hY := DV.mk (Box4.mk b0 b1 b2 b3 bf bl) sY tY
      clear b0 b1 b2 b3 bf bl
      replace hD := hD.ext hxx
      replace hY := hY.ext hxx
      replace hX := hX.trans hxx
      have h9 := hY
      obtain ⟨A8, c8, B8, d8, b9, s8, t8⟩ := h9
      obtain ⟨b0, b1, b2, b3, bf, bl⟩ := b9
      go_upto_region 29 with fail
      clear b0 b1 b2 b3 bf bl s8 t8 hxx
      have h9 := hY.set s9 t9 (0) (true)
      replace hD := hD.far hY (by first | exact neDY | exact Ne.symm neYD) (.slice A9 m.length c9) (.slice B9 q1.length d9) (.int .i64 0) (.bool true)
      replace hX := hX.setB loY (.slice A9 m.length c9) (.slice B9 q1.length d9) (.int .i64 0) (.bool true)
      obtain ⟨W108, hW⟩ : ∃ W, W = setB W107 gY (.slice A9 m.length c9) (.slice B9 q1.length d9) (.int .i64 0) (.bool true) := ⟨_, rfl⟩
      rw [show ((((W107.setCell ⟨gY, 0, none⟩ (.slice A9 m.length c9)).setCell ⟨gY, 1, none⟩ (.slice B9 q1.length d9)).setCell ⟨gY, 2, none⟩ (.int .i64 0)).setCell ⟨gY, 3, none⟩ (.bool true)) = setB W107 gY (.slice A9 m.length c9) (.slice B9 q1.length d9) (.int .i64 0) (.bool true) from rfl, ← hW]
      rw [← hW] at h9 hX hD
      replace hY := h9
      clear h9 hW s9 t9
      obtain ⟨AY, cY, BY, dY, bY, sY, tY⟩ := hY
      obtain ⟨b0, b1, b2, b3, bf, bl⟩ := bY
      obtain ⟨AD, cD, BD, dD, bD, sD, tD⟩ := hD
      obtain ⟨o0, o1, o2, o3, of, ol⟩ := bD
      go_wp2_with fail
      refine (dSame_yes m q1 0 true AY cY BY dY AD cD BD dD W108 sY tY sD tD).mono ?_
      rintro e W109 ⟨rfl, hxx⟩
      have hY := DV.mk (Box4.mk b0 b1 b2 b3 bf bl) sY tY
      clear b0 b1 b2 b3 bf bl
      have hD := DV.mk (Box4.mk o0 o1 o2 o3 of ol) sD tD
      clear o0 o1 o2 o3 of ol
      replace hD := hD.ext hxx
      replace hY := hY.ext hxx
      replace hX := hX.trans hxx
      clear hxx
      obtain ⟨AD, cD, BD, dD, bD, sD, tD⟩ := hD
      obtain ⟨b0, b1, b2, b3, bf, bl⟩ := bD
      go_wp2_with fail
      refine (HH.out.2.2.2.2.2.2.2.2.2.2.2.2 AD cD BD dD W109 sD tD).mono ?_
      rintro e W110 ⟨rfl, hxx⟩
      have hD := DV.mk (Box4.mk b0 b1 b2 b3 bf bl) sD tD
      clear b0 b1 b2 b3 bf bl
      replace hD := hD.ext hxx
      replace hY := hY.ext hxx
      replace hX := hX.trans hxx
      clear hxx
      go_wp2_with fail
      refine (alive03_any _).mono ?_
      rintro e w9 ⟨rfl, hx9⟩
      go_wp2_with fail
      go_ret
      exact ⟨rfl, hX.trans hx9⟩
set_option maxRecDepth 100000 in
theorem cacheNames_lifted (os : Os) (started : os.Started) (H : Type) (enc : TypeId × Value → H) :
    ReturnsInHanded {} Try.checked os 12 .any (Rows.cacheNamesSpec.pre6 enc Try.prog Try.f12 Rows.cacheNamesRow.domain false) (Rows.cacheNamesSpec.post enc Try.prog Try.f12 false true false false) := by
  refine returnsInHanded_of_change (C := Try.checked) own_knob started (by kernel_rfl) Try.func12
    (ChangeSpec.witness6 (enc := enc) (C := Try.checked) false ⟨#[], #[], []⟩ 8 (by kernel_rfl) (by kernel_rfl) (by kernel_rfl) (by kernel_rfl)) ?_
  intro W base args ds gs before hval0 hW hcnd _
  have hval : ∀ (j : Nat) t v, Try.f12.params[j]? = some t → args[j]? = some v → Value.okWide Try.prog W .any base t v := hval0
  have hW' := hW
  obtain ⟨p, q, hA0, hV, rfl, hfz, hnd⟩ := hW
  have hA : DataW.TrodAll enc Try.prog W 0 (fun _ => true) true Try.f12.params.toList args.toList ds p := hA0
  rw [Try.params12] at hA hval
  obtain ⟨rfl, rfl, rfl⟩ := trodAll_none hA
  obtain ⟨rfl, rfl⟩ := trodVars_none hV
  clear hA0 hval0 hval hA
  refine (cacheNames_any W).mono fun e W' ⟨he, hx⟩ => ?_
  subst he
  exact ⟨_, rfl, post_law laid_out (by kernel_rfl) hW' rfl rfl rfl Try.underlying4 hx⟩
theorem cacheNames_holds : Rows.CacheNamesSaid :=
  OpenClaim.holds_of_wide 12 Try.f12 rfl rfl rfl rfl rfl rfl rfl ⟨rfl, rfl, rfl, rfl, rfl⟩ rfl rfl rfl rfl rfl (by kernel_rfl) Try.func12 (by kernel_rfl)
    (of_decide_eq_true (by kernel_rfl)) (by unfold Func.isWrapper; first | (rw [if_pos (by decide +kernel)]; kernel_rfl) | (rw [if_neg (by decide +kernel)]; exact ⟨rfl, rfl⟩))
    (fun os started H enc _ => cacheNames_lifted os started H enc)
end Go.Proofs.Ytmmcbleoglgamaa
