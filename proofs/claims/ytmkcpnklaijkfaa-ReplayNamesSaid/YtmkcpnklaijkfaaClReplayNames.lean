/-
  ReplayNames: the law returns true. No condition.
-/
import Derived.Test.YtmkcpnklaijkfaaSameK
import Derived.Test.YtmkcpnklaijkfaaAlive10
import Derived.Test.YtmkcpnklaijkfaaGA
namespace Go.Proofs.Ytmkcpnklaijkfaa
open Go.ChangeShapes Go.WideShapes Go.ChangeAt Go.RowKit
/-- An image of 256 words in a block of its own. -/
def OW (w : World) (b : Nat) (X : List Int) : Prop := w.ownsRow b 24 1 (.slice (some ⟨b, 0, none⟩) 256 256) 256 (fU X)
theorem OW.ext {w w' : World} {b : Nat} {X : List Int} (h : OW w b X) (x : Ext w w') : OW w' b X := own_ext h x
def rn1 : List Int := (zerosU 256).set 24 5
def rn2 : List Int := rn1.set 24 0
def rnd (a : Int) : List Dw := [(a, 7, false)]
def rn3 : List (Int × Int) := [(130, 0), (135, 0), (136, 0)]
theorem rn_f1 : rn1.length = 256 ∧ crE rn1 = 50 ∧ crE (rn1.take 8) = 8 ∧ devB rn1 [] (-1) false = true ∧ devB [] [] (-2) false = false := by decide +kernel
theorem rn_f2 : rn2.length = 256 ∧ devB rn2 (rnd 200) 3 false = true ∧ devB rn2 (rnd 24) (-1) false = true ∧ crE (wrd rn2 (rnd 200)) = 0 ∧ (crL (wrd rn2 (rnd 200))).length = 0 ∧ crE (wrd rn2 (rnd 24)) = 50 := by decide +kernel
theorem rn_f3 : opE (zerosE 33) = 4 ∧ opN (zerosE 33) = 0 ∧ opE [(2048, 0)] = 8 ∧ opN [(2048, 0)] = 0 ∧ opE [(-1, 0)] = 8 ∧ opN [(-1, 0)] = 0 ∧ opE [] = 0 ∧ opN [] = 0 ∧ opE rn3 = 0 ∧ opN rn3 = 9 := by decide +kernel
set_option maxRecDepth 100000 in
set_option maxHeartbeats 6400000 in
theorem replayNames_any (w : World) : Calls Try.prog 10 #[] w fun e w' => e = .returned (.bool true) ∧ Ext w w' := by
  obtain ⟨a1, a2, a3, a4, a5⟩ := rn_f1
  obtain ⟨b1, b2, b3, b4, b5, b6⟩ := rn_f2
  obtain ⟨o1, o2, o3, o4, o5, o6, o7, o8, o9, o10⟩ := rn_f3
  have w1' : WfU rn1 := wfU_set (wf_zeros 256) (by unfold InU; decide)
  have w2' : WfU rn2 := wfU_set w1' (by unfold InU; decide)
  have wd : ∀ a, InI a → WfD (rnd a) := fun a h x hx => by
    simp [rnd] at hx; subst hx
    exact ⟨h, by show (0 : Int) ≤ 7; decide, by show (7 : Int) ≤ 18446744073709551615; decide⟩
  obtain ⟨mz, hmz⟩ : ∃ m : List Int, [] = m := ⟨_, rfl⟩
  obtain ⟨qz, hqz⟩ : ∃ m : List Dw, [] = m := ⟨_, rfl⟩
  have h1 : ∀ A c W, Sl W A 256 c (fU rn1) → Calls Try.prog 33 #[.slice A 256 c] W (RetU W [] 50) := fun A c W h => by
    have := image10_any rn1 A c W (by rw [a1]; exact h) w1'
    rw [a1, a2, show imgL rn1 = [] from by simp [imgL, a2]] at this
    exact this
  have h2 : ∀ A c W, Sl W A 256 c (fU rn1) → Calls Try.prog 30 #[.agg #[.slice A 256 c, .slice none 0 0, .int .i64 (-1), .bool false]] W (RetV W (mz, qz, 0, false) 50) := fun A c W h => by
    have he : dvE rn1 [] (-1) false = 50 := by simp only [dvE, a4, if_true]; exact a2
    have := dev10_any rn1 [] (-1) false A c none 0 W (by rw [a1]; exact h) (Sl.nil_ W) w1' (fun x hx => by cases hx)
    rw [dvV, he, if_neg (by decide), a1] at this
    rw [← hmz, ← hqz]
    exact this
  have h3 : ∀ A c W, Sl W A 8 c (fU (rn1.take 8)) → Calls Try.prog 33 #[.slice A 8 c] W (RetU W [] 8) := fun A c W h => by
    have hl : (rn1.take 8).length = 8 := by rw [List.length_take, a1]; rfl
    have := image10_any (rn1.take 8) A c W (by rw [hl]; exact h) (fun x hx => w1' x (List.mem_of_mem_take hx))
    rw [hl, a3, show imgL (rn1.take 8) = [] from by simp [imgL, a3]] at this
    exact this
  have h4 : ∀ W, Calls Try.prog 30 #[.agg #[.slice none 0 0, .slice none 0 0, .int .i64 (-2), .bool false]] W (RetV W (mz, qz, 0, false) 8) := fun W => by
    have he : dvE [] [] (-2) false = 8 := by simp only [dvE, a5]; rfl
    have := dev10_any [] [] (-2) false none 0 none 0 W (Sl.nil_ W) (Sl.nil_ W) (fun x hx => by cases hx) (fun x hx => by cases hx)
    rw [dvV, he, if_neg (by decide)] at this
    rw [← hmz, ← hqz]
    exact this
  obtain ⟨q5, hq5⟩ : ∃ q, rnd 200 = q := ⟨_, rfl⟩
  have h5 : ∀ A c B d W, Sl W A 256 c (fU rn2) → Sl W B 1 d (fD (rnd 200)) → Calls Try.prog 30 #[.agg #[.slice A 256 c, .slice B 1 d, .int .i64 3, .bool false]] W (RetV W (rn2, q5, 3, false) 0) := fun A c B d W h k => by
    have he : dvE rn2 (rnd 200) 3 false = 0 := by simp only [dvE, b2, if_true]; exact b4
    have := dev10_any rn2 (rnd 200) 3 false A c B d W (by rw [b1]; exact h) k w2' (wd 200 (by unfold InI; decide))
    rw [dvV, he, if_pos rfl, if_pos b5, b1] at this
    rw [← hq5]
    exact this
  have h6 : ∀ A c B d W, Sl W A 256 c (fU rn2) → Sl W B 1 d (fD (rnd 24)) → Calls Try.prog 30 #[.agg #[.slice A 256 c, .slice B 1 d, .int .i64 (-1), .bool false]] W (RetV W (mz, qz, 0, false) 50) := fun A c B d W h k => by
    have he : dvE rn2 (rnd 24) (-1) false = 50 := by simp only [dvE, b3, if_true]; exact b6
    have := dev10_any rn2 (rnd 24) (-1) false A c B d W (by rw [b1]; exact h) k w2' (wd 24 (by unfold InI; decide))
    rw [dvV, he, if_neg (by decide), b1] at this
    rw [← hmz, ← hqz]
    exact this
  have h7 : ∀ A c W, Sl W A 33 c (fE (zerosE 33)) → Calls Try.prog 42 #[.slice A 33 c] W fun e w' => e = .returned (.tuple #[.int .i64 0, .int .i64 4]) ∧ Ext W w' := fun A c W h => by
    have := ops10_any (zerosE 33) A c W (by rw [zerosE_length]; exact h)
    rw [o1, o2, zerosE_length] at this
    exact this
  have h8 : ∀ A c W, Sl W A 1 c (fE [(2048, 0)]) → Calls Try.prog 42 #[.slice A 1 c] W fun e w' => e = .returned (.tuple #[.int .i64 0, .int .i64 8]) ∧ Ext W w' := fun A c W h => by
    have := ops10_any [(2048, 0)] A c W h
    rw [o3, o4] at this
    exact this
  have h9 : ∀ A c W, Sl W A 1 c (fE [(-1, 0)]) → Calls Try.prog 42 #[.slice A 1 c] W fun e w' => e = .returned (.tuple #[.int .i64 0, .int .i64 8]) ∧ Ext W w' := fun A c W h => by
    have := ops10_any [(-1, 0)] A c W h
    rw [o5, o6] at this
    exact this
  have h10 : ∀ W, Calls Try.prog 42 #[.slice none 0 0] W fun e w' => e = .returned (.tuple #[.int .i64 0, .int .i64 0]) ∧ Ext W w' := fun W => by
    have := ops10_any [] none 0 W (Sl.nil_ W)
    rw [o7, o8] at this
    exact this
  have h11 : ∀ A c W, Sl W A 3 c (fE rn3) → Calls Try.prog 42 #[.slice A 3 c] W fun e w' => e = .returned (.tuple #[.int .i64 9, .int .i64 0]) ∧ Ext W w' := fun A c W h => by
    have := ops10_any rn3 A c W h
    rw [o9, o10] at this
    exact this
  have hq1 : ((q5.length : Int) == 1) = true := by rw [← hq5]; rfl
  obtain ⟨X1, hX1⟩ : ∃ X, rn1 = X := ⟨_, rfl⟩
  obtain ⟨X2, hX2⟩ : ∃ X, rn2 = X := ⟨_, rfl⟩
  have e1 : (zerosU 256).set 24 5 = X1 := hX1
  have e2 : X1.set 24 0 = X2 := by rw [← hX1]; exact hX2
  have l1 : 24 < X1.length := by rw [← hX1, a1]; decide
  have l8 : 8 ≤ X1.length := by rw [← hX1, a1]; decide
  rw [hX1] at h1 h2 h3
  rw [hX2] at h5 h6
  have HH := Lib.hid (And.intro h1 (And.intro h2 (And.intro h3 (And.intro h4 (And.intro h5 (And.intro h6 (And.intro h7 (And.intro h8 (And.intro h9 (And.intro h10 h11))))))))))
  have HF := Lib.hid (And.intro e1 (And.intro e2 (And.intro l1 l8)))
  clear hmz hqz h1 h2 h3 h4 h5 h6 h7 h8 h9 h10 h11 hX1 hX2 e1 e2 l1 l8 hq5 wd w1' w2' a1 a2 a3 a4 a5 b1 b2 b3 b4 b5 b6 o1 o2 o3 o4 o5 o6 o7 o8 o9 o10
  go_enter Try.func10, Try.ntmps10
  go_wp2_with (at_make; refine wpList_zeros rfl _ _ rfl 256 (by decide) _ _ _ _ rfl rfl rfl rfl ?_; intro w1 hown hx1 hz1; obtain ⟨y, hy, hcl, hfz⟩ := own_at_U hown (i := 24) (by decide); clear hy)
  have hO : OW (w1.setCell ⟨w.heap.size, 24, none⟩ (.int .u64 5)) w.heap.size X1 := by
    have := own_set_U hown 24 5
    rw [HF.out.1] at this
    exact this
  have hX : Ext w (w1.setCell ⟨w.heap.size, 24, none⟩ (.int .u64 5)) := hx1.setCell (p := ⟨w.heap.size, 24, none⟩) (Nat.le_refl _) _
  obtain ⟨W2, hW2⟩ : ∃ W, W = w1.setCell ⟨w.heap.size, 24, none⟩ (.int .u64 5) := ⟨_, rfl⟩
  obtain ⟨g, hg⟩ : ∃ g, w.heap.size = g := ⟨_, rfl⟩
  have HG := Lib.hid hg
  rw [← hW2] at hO hX ⊢
  rw [hg] at hO ⊢
  clear hW2 hg hcl hfz hown hx1 hz1
  refine (HH.out.1 _ _ W2 (own_sl hO)).mono ?_
  rintro e w2 ⟨A2, c2, rfl, -, hxx⟩
  replace hO := hO.ext hxx
  replace hX := hX.trans hxx
  clear hxx
  go_wp2_with fail
  refine (HH.out.2.1 (some ⟨g, 0, none⟩) 256 w2 (own_sl hO)).mono ?_
  rintro e W101 ⟨AB1, cB1, BB1, dB1, rfl, sB1, tB1, hxx⟩
  go_upto_region 5 with fail
  have hB1 := DV.new W101 mz qz 0 false AB1 cB1 BB1 dB1 46 sB1 tB1
  have loB1 := Nat.le_trans hX.size hxx.size
  replace hxx := Ext.trans hxx ((Ext.refl W101).alloc (Obj.cells #[.slice AB1 mz.length cB1, .slice BB1 qz.length dB1, .int .i64 0, .bool false] 46))
  obtain ⟨W102, hW⟩ : ∃ W, W = W101.alloc (Obj.cells #[.slice AB1 mz.length cB1, .slice BB1 qz.length dB1, .int .i64 0, .bool false] 46) := ⟨_, rfl⟩
  obtain ⟨gB1, hg⟩ : ∃ g, W101.heap.size = g := ⟨_, rfl⟩
  rw [← hW] at hB1 hxx ⊢
  rw [hg] at hB1 loB1  ⊢
  clear hW hg sB1 tB1
  replace hO := hO.ext hxx
  replace hX := hX.trans hxx
  clear hxx
  go_wp2_with fail
  refine (HH.out.2.2.1 (some ⟨g, 0, none⟩) 256 W102 (by rw [fU_take]; exact (own_sl hO).pre (k := 8) (size := 1) (by decide))).mono ?_
  rintro e W103 ⟨A3, c3, rfl, -, hxx⟩
  replace hB1 := hB1.ext hxx
  replace hO := hO.ext hxx
  replace hX := hX.trans hxx
  clear hxx
  go_wp2_with fail
  refine (HH.out.2.2.2.1 W103).mono ?_
  rintro e W104 ⟨AB2, cB2, BB2, dB2, rfl, sB2, tB2, hxx⟩
  go_upto_region 7 with fail
  have hB2 := DV.new W104 mz qz 0 false AB2 cB2 BB2 dB2 46 sB2 tB2
  have neB1B2 : gB1 ≠ W104.heap.size := Nat.ne_of_lt (Nat.lt_of_lt_of_le hB1.lt hxx.size)
  have loB2 := Nat.le_trans hX.size hxx.size
  replace hxx := Ext.trans hxx ((Ext.refl W104).alloc (Obj.cells #[.slice AB2 mz.length cB2, .slice BB2 qz.length dB2, .int .i64 0, .bool false] 46))
  obtain ⟨W105, hW⟩ : ∃ W, W = W104.alloc (Obj.cells #[.slice AB2 mz.length cB2, .slice BB2 qz.length dB2, .int .i64 0, .bool false] 46) := ⟨_, rfl⟩
  obtain ⟨gB2, hg⟩ : ∃ g, W104.heap.size = g := ⟨_, rfl⟩
  rw [← hW] at hB2 hxx ⊢
  rw [hg] at hB2 loB2 neB1B2 ⊢
  clear hW hg sB2 tB2
  replace hB1 := hB1.ext hxx
  replace hO := hO.ext hxx
  replace hX := hX.trans hxx
  clear hxx
  clear hB1 hB2 neB1B2 loB1 loB2
  obtain ⟨y, hy, hcl, hfz⟩ := own_at_U hO (i := 24) HF.out.2.2.1
  have hO2 : OW (W105.setCell ⟨g, 24, none⟩ (.int .u64 0)) g X2 := by
    have := own_set_U hO 24 0
    rw [HF.out.2.1] at this
    exact this
  replace hX := hX.setCell (p := ⟨g, 24, none⟩) (Nat.le_of_eq HG.out) (.int .u64 0)
  clear hO hy
  go_upto_region 8 with fail
  obtain ⟨W8, hW8⟩ : ∃ W, W = W105.setCell ⟨g, 24, none⟩ (.int .u64 0) := ⟨_, rfl⟩
  rw [← hW8] at hO2 hX ⊢
  clear hW8 hcl hfz
  go_wp2_with fail
  have hL1 := Sl.lit' (w := W8) #[.int .i64 200, .int .u64 7, .bool false] 88 W8.heap.size 1 rfl (by decide)
  have hxx : Ext W8 (W8.alloc (Obj.cells #[.int .i64 200, .int .u64 7, .bool false] 88)) := (Ext.refl _).alloc _
  obtain ⟨W101, hW⟩ : ∃ W, W = W8.alloc (Obj.cells #[.int .i64 200, .int .u64 7, .bool false] 88) := ⟨_, rfl⟩
  obtain ⟨gL1, hg⟩ : ∃ g, W8.heap.size = g := ⟨_, rfl⟩
  rw [← hW] at hL1 hxx ⊢
  rw [hg] at hL1 ⊢
  clear hW hg
  replace hO2 := hO2.ext hxx
  replace hX := hX.trans hxx
  clear hxx
  refine (HH.out.2.2.2.2.1 (some ⟨g, 0, none⟩) 256 (some ⟨gL1, 0, none⟩) 1 W101 (own_sl hO2) hL1).mono ?_
  rintro e W102 ⟨AN, cN, BN, dN, rfl, sN, tN, hxx⟩
  go_upto_region 9 with fail
  have hN := DV.new W102 X2 q5 3 false AN cN BN dN 46 sN tN
  have loN := Nat.le_trans hX.size hxx.size
  replace hxx := Ext.trans hxx ((Ext.refl W102).alloc (Obj.cells #[.slice AN X2.length cN, .slice BN q5.length dN, .int .i64 3, .bool false] 46))
  obtain ⟨W103, hW⟩ : ∃ W, W = W102.alloc (Obj.cells #[.slice AN X2.length cN, .slice BN q5.length dN, .int .i64 3, .bool false] 46) := ⟨_, rfl⟩
  obtain ⟨gN, hg⟩ : ∃ g, W102.heap.size = g := ⟨_, rfl⟩
  rw [← hW] at hN hxx ⊢
  rw [hg] at hN loN  ⊢
  clear hW hg sN tN
  replace hO2 := hO2.ext hxx
  replace hX := hX.trans hxx
  clear hxx
  go_wp2_with fail
  have hL2 := Sl.lit' (w := W103) #[.int .i64 24, .int .u64 7, .bool false] 88 W103.heap.size 1 rfl (by decide)
  have hxx : Ext W103 (W103.alloc (Obj.cells #[.int .i64 24, .int .u64 7, .bool false] 88)) := (Ext.refl _).alloc _
  obtain ⟨W104, hW⟩ : ∃ W, W = W103.alloc (Obj.cells #[.int .i64 24, .int .u64 7, .bool false] 88) := ⟨_, rfl⟩
  obtain ⟨gL2, hg⟩ : ∃ g, W103.heap.size = g := ⟨_, rfl⟩
  rw [← hW] at hL2 hxx ⊢
  rw [hg] at hL2 ⊢
  clear hW hg
  replace hN := hN.ext hxx
  replace hO2 := hO2.ext hxx
  replace hX := hX.trans hxx
  clear hxx
  refine (HH.out.2.2.2.2.2.1 (some ⟨g, 0, none⟩) 256 (some ⟨gL2, 0, none⟩) 1 W104 (own_sl hO2) hL2).mono ?_
  rintro e W105 ⟨AB3, cB3, BB3, dB3, rfl, sB3, tB3, hxx⟩
  go_upto_region 10 with fail
  have hB3 := DV.new W105 mz qz 0 false AB3 cB3 BB3 dB3 46 sB3 tB3
  have neNB3 : gN ≠ W105.heap.size := Nat.ne_of_lt (Nat.lt_of_lt_of_le hN.lt hxx.size)
  have loB3 := Nat.le_trans hX.size hxx.size
  replace hxx := Ext.trans hxx ((Ext.refl W105).alloc (Obj.cells #[.slice AB3 mz.length cB3, .slice BB3 qz.length dB3, .int .i64 0, .bool false] 46))
  obtain ⟨W106, hW⟩ : ∃ W, W = W105.alloc (Obj.cells #[.slice AB3 mz.length cB3, .slice BB3 qz.length dB3, .int .i64 0, .bool false] 46) := ⟨_, rfl⟩
  obtain ⟨gB3, hg⟩ : ∃ g, W105.heap.size = g := ⟨_, rfl⟩
  rw [← hW] at hB3 hxx ⊢
  rw [hg] at hB3 loB3 neNB3 ⊢
  clear hW hg sB3 tB3
  replace hN := hN.ext hxx
  replace hO2 := hO2.ext hxx
  replace hX := hX.trans hxx
  clear hxx
  clear hB3 neNB3 loB3 hO2
  go_wp2_with (at_make; refine wpList_zerosE rfl _ _ rfl 33 (by decide) _ _ _ _ rfl rfl rfl rfl (madeE 33) ?_; intro w4 hown4 hxx hz4)
  have hL3 := own_sl hown4
  clear hown4
  replace hN := hN.ext hxx
  replace hX := hX.trans hxx
  clear hxx
  refine (HH.out.2.2.2.2.2.2.1 _ _ w4 hL3).mono ?_
  rintro e w5 ⟨rfl, hxx⟩
  replace hN := hN.ext hxx
  replace hX := hX.trans hxx
  clear hxx hL3
  go_wp2_with fail
  have hL4 := Sl.lit' (w := w5) #[.int .i64 2048, .int .u64 0] 38 w5.heap.size 1 rfl (by decide)
  have hxx : Ext w5 (w5.alloc (Obj.cells #[.int .i64 2048, .int .u64 0] 38)) := (Ext.refl _).alloc _
  obtain ⟨W107, hW⟩ : ∃ W, W = w5.alloc (Obj.cells #[.int .i64 2048, .int .u64 0] 38) := ⟨_, rfl⟩
  obtain ⟨gL4, hg⟩ : ∃ g, w5.heap.size = g := ⟨_, rfl⟩
  rw [← hW] at hL4 hxx ⊢
  rw [hg] at hL4 ⊢
  clear hW hg
  replace hN := hN.ext hxx
  replace hX := hX.trans hxx
  clear hxx
  refine (HH.out.2.2.2.2.2.2.2.1 _ 1 W107 hL4).mono ?_
  rintro e W108 ⟨rfl, hxx⟩
  replace hN := hN.ext hxx
  replace hX := hX.trans hxx
  clear hxx
  go_wp2_with fail
  have hL5 := Sl.lit' (w := W108) #[.int .i64 (-1), .int .u64 0] 38 W108.heap.size 1 rfl (by decide)
  have hxx : Ext W108 (W108.alloc (Obj.cells #[.int .i64 (-1), .int .u64 0] 38)) := (Ext.refl _).alloc _
  obtain ⟨W109, hW⟩ : ∃ W, W = W108.alloc (Obj.cells #[.int .i64 (-1), .int .u64 0] 38) := ⟨_, rfl⟩
  obtain ⟨gL5, hg⟩ : ∃ g, W108.heap.size = g := ⟨_, rfl⟩
  rw [← hW] at hL5 hxx ⊢
  rw [hg] at hL5 ⊢
  clear hW hg
  replace hN := hN.ext hxx
  replace hX := hX.trans hxx
  clear hxx
  refine (HH.out.2.2.2.2.2.2.2.2.1 _ 1 W109 hL5).mono ?_
  rintro e W110 ⟨rfl, hxx⟩
  replace hN := hN.ext hxx
  replace hX := hX.trans hxx
  clear hxx
  go_wp2_with fail
  refine (HH.out.2.2.2.2.2.2.2.2.2.1 W110).mono ?_
  rintro e W111 ⟨rfl, hxx⟩
  replace hN := hN.ext hxx
  replace hX := hX.trans hxx
  clear hxx
  go_wp2_with fail
  have hL6 := Sl.lit' (w := W111) #[.int .i64 130, .int .u64 0, .int .i64 135, .int .u64 0, .int .i64 136, .int .u64 0] 38 W111.heap.size 3 rfl (by decide)
  have hxx : Ext W111 (W111.alloc (Obj.cells #[.int .i64 130, .int .u64 0, .int .i64 135, .int .u64 0, .int .i64 136, .int .u64 0] 38)) := (Ext.refl _).alloc _
  obtain ⟨W112, hW⟩ : ∃ W, W = W111.alloc (Obj.cells #[.int .i64 130, .int .u64 0, .int .i64 135, .int .u64 0, .int .i64 136, .int .u64 0] 38) := ⟨_, rfl⟩
  obtain ⟨gL6, hg⟩ : ∃ g, W111.heap.size = g := ⟨_, rfl⟩
  rw [← hW] at hL6 hxx ⊢
  rw [hg] at hL6 ⊢
  clear hW hg
  replace hN := hN.ext hxx
  replace hX := hX.trans hxx
  clear hxx
  refine (HH.out.2.2.2.2.2.2.2.2.2.2 _ 3 W112 hL6).mono ?_
  rintro e W113 ⟨rfl, hxx⟩
  replace hN := hN.ext hxx
  replace hX := hX.trans hxx
  clear hxx
  obtain ⟨AN, cN, BN, dN, bN, sN, tN⟩ := hN
  obtain ⟨b0, b1, b2, b3, bf, bl⟩ := bN
  go_wp2_with fail
  refine (alive10_any _).mono ?_
  rintro e w9 ⟨rfl, hx9⟩
  go_wp2_with fail
  go_ret
  exact ⟨rfl, hX.trans hx9⟩
set_option maxRecDepth 100000 in
theorem replayNames_lifted (os : Os) (started : os.Started) (H : Type) (enc : TypeId × Value → H) :
    ReturnsInHanded {} Try.checked os 10 .any (Rows.replayNamesSpec.pre6 enc Try.prog Try.f10 Rows.replayNamesRow.domain false) (Rows.replayNamesSpec.post enc Try.prog Try.f10 false true false false) := by
  refine returnsInHanded_of_change (C := Try.checked) own_knob started (by kernel_rfl) Try.func10
    (ChangeSpec.witness6 (enc := enc) (C := Try.checked) false ⟨#[], #[], []⟩ 8 (by kernel_rfl) (by kernel_rfl) (by kernel_rfl) (by kernel_rfl)) ?_
  intro W base args ds gs before hval0 hW hcnd _
  have hval : ∀ (j : Nat) t v, Try.f10.params[j]? = some t → args[j]? = some v → Value.okWide Try.prog W .any base t v := hval0
  have hW' := hW
  obtain ⟨p, q, hA0, hV, rfl, hfz, hnd⟩ := hW
  have hA : DataW.TrodAll enc Try.prog W 0 (fun _ => true) true Try.f10.params.toList args.toList ds p := hA0
  rw [Try.params10] at hA hval
  obtain ⟨rfl, rfl, rfl⟩ := trodAll_none hA
  obtain ⟨rfl, rfl⟩ := trodVars_none hV
  clear hA0 hval0 hval hA
  refine (replayNames_any W).mono fun e W' ⟨he, hx⟩ => ?_
  subst he
  exact ⟨_, rfl, post_law laid_out (by kernel_rfl) hW' rfl rfl rfl Try.underlying4 hx⟩
theorem replayNames_holds : Rows.ReplayNamesSaid :=
  OpenClaim.holds_of_wide 10 Try.f10 rfl rfl rfl rfl rfl rfl rfl ⟨rfl, rfl, rfl, rfl, rfl⟩ rfl rfl rfl rfl rfl (by kernel_rfl) Try.func10 (by kernel_rfl)
    (of_decide_eq_true (by kernel_rfl)) (by unfold Func.isWrapper; first | (rw [if_pos (by decide +kernel)]; kernel_rfl) | (rw [if_neg (by decide +kernel)]; exact ⟨rfl, rfl⟩))
    (fun os started H enc _ => replayNames_lifted os started H enc)
end Go.Proofs.Ytmkcpnklaijkfaa
