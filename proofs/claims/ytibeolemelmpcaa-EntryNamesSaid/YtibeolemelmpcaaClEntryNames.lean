/-
  EntryNames: the law returns true. No condition.
-/
import Derived.Test.YtibeolemelmpcaaAlive08
import Derived.Test.YtibeolemelmpcaaMake
import Derived.Test.YtibeolemelmpcaaRead
import Derived.Test.YtibeolemelmpcaaRet
import Derived.Test.YtibeolemelmpcaaAt
import Derived.Test.YtibeolemelmpcaaDev
import Derived.Test.YtibeolemelmpcaaOpen
namespace Go.Proofs.Ytibeolemelmpcaa
open Go.ChangeShapes Go.WideShapes Go.ChangeAt Go.RowKit

def manyL (n : Nat) : List (Int × Int) := (List.range n).map fun (i : Nat) => ((128 + (i : Int), 0) : Int × Int)
theorem manyL_length (n : Nat) : (manyL n).length = n := by simp [manyL]
theorem manyL_succ (n : Nat) : manyL (n + 1) = manyL n ++ [(128 + (n : Int), 0)] := by simp [manyL, List.range_succ]
theorem wf_manyL {n : Nat} (h : n ≤ 33) : WfE (manyL n) := by
  intro x hx
  obtain ⟨i, hi, rfl⟩ := List.mem_map.1 hx
  have := List.mem_range.1 hi
  unfold InI InU
  simp only
  refine ⟨⟨?_, ?_⟩, ?_, ?_⟩ <;> omega
def n8s : List Int := [0, 255, 257, 248, 2056, -256]
theorem n8s_bad : ∀ (k : Nat) (x : Int), n8s[k]? = some x → sizeB x = false := by
  intro k x hx
  have hk : k < 6 := by
    have := (List.getElem?_eq_some_iff.1 hx).1
    simpa [n8s] using this
  have key : ∀ k : Fin 6, sizeB (n8s.getD k.val 0) = false := by decide +kernel
  have h := key ⟨k, hk⟩
  simpa only [List.getD, hx, Option.getD_some] using h
def n8b : List (List (Int × Int)) := [[(15, 0)], [(-1, 0)], [(24, 0)], [(95, 0)], [(256, 0)], [(130, 0), (131, 0), (130, 0)]]
theorem n8b_bad : ∀ (k : Nat) (l : List (Int × Int)), n8b[k]? = some l → chkE l 256 = 8 ∧ WfE l := by
  intro k l hl
  have hk : k < 6 := by
    have := (List.getElem?_eq_some_iff.1 hl).1
    simpa [n8b] using this
  have key : ∀ k : Fin 6, chkE (n8b.getD k.val []) 256 = 8 ∧ ∀ x ∈ n8b.getD k.val [], (-9223372036854775808 ≤ x.1 ∧ x.1 ≤ 9223372036854775807) ∧ (0 ≤ x.2 ∧ x.2 ≤ 18446744073709551615) := by decide +kernel
  have h := key ⟨k, hk⟩
  simp only [List.getD, hl, Option.getD_some] at h
  exact h
/-- A slice of slices of entries. -/
def Rws (w : World) (ad : Addr) (L : List (List (Int × Int))) : Prop := ∀ (k : Nat) l, L[k]? = some l → ∃ A c, w.cell? (ad.add k) = some (.slice A l.length c) ∧ Sl w A l.length c (fE l)
theorem Rws.ext {w w' : World} {ad : Addr} {L : List (List (Int × Int))} (h : Rws w ad L) (e : Ext w w') : Rws w' ad L := fun k l hl => by
  obtain ⟨A, c, g, s⟩ := h k l hl
  exact ⟨A, c, e.cell g, s.ext e⟩
theorem n8_m0 : chkE (manyL 33) 256 = 4 := by decide +kernel
theorem n8_m1 : chkE ((manyL 33).take 32) 256 = 0 ∧ ((manyL 33).take 32).length = 32 := by decide +kernel
theorem n8_z : (zerosU 256).length = 256 ∧ ((zerosU 256).take 8).length = 8 := by decide +kernel
theorem n8_r : rdE (zerosU 256) (-1) = 2 ∧ rdE (zerosU 256) 33 = 2 ∧ rdE (zerosU 256) 1 = 50 ∧ rdE (zerosU 256) 0 = 0 ∧ rdE ((zerosU 256).take 8) (-1) = 8 := by decide +kernel
def n8m1 : List Int := ((zerosU 256).set 32 255).set 33 9
def n8m2 : List Int := n8m1.set 34 9223372036854776063
theorem n8_r1 : rdE n8m1 1 = 0 ∧ jnl n8m1 1 = [(255, 9)] ∧ n8m1.length = 256 ∧ rdE n8m2 2 = 50 ∧ n8m2.length = 256 := by decide +kernel
theorem n8_may : sizeB 256 = true ∧ mayB 255 256 = true ∧ mayB 256 256 = false ∧ szE 256 = 0 := by decide +kernel
theorem entryRead_at (m : List Int) (k : Nat) (hk : m.length = k) (n : Int) (er : Int) (he : rdE m n = er) (l : List (Int × Int)) (hl : selL er (jnl m n.toNat) = l) (A : Option Addr) (c : Nat) (w : World) (hA : Sl w A k c (fU m)) (wf : WfU m) :
    Calls Try.prog 27 #[.slice A k c, .int .i64 n] w (RetE w l er) := by
  subst hk he hl
  refine (entryRead_any m n A c w hA wf).mono ?_
  intro e w' h
  exact h.toE (jnl_length _ _)
theorem entryApply_er (m : List Int) (l : List (Int × Int)) (n k : Nat) (hn : m.length = n) (hk : l.length = k) (er : Int) (he : (if sizeB n then chkE l n else 8) = er) (h0 : er ≠ 0) (A : Option Addr) (c : Nat) (B : Option Addr) (d : Nat) (w : World) (hA : Sl w A n c (fU m)) (hB : Sl w B k d (fE l)) (wf : WfE l) :
    Calls Try.prog 34 #[.slice A n c, .slice B k d] w (RetU w [] er) := by
  subst he
  refine (entryApply_at m l n k hn hk A c B d w hA hB wf).mono ?_
  rintro e w' (⟨hz, _⟩ | ⟨_, rfl, hx⟩)
  · exact absurd hz h0
  · exact retU_nil hx
theorem entryWords_er (l : List (Int × Int)) (k : Nat) (hk : l.length = k) (words er : Int) (he : chkE l words = er) (h0 : er ≠ 0) (B : Option Addr) (d : Nat) (w : World) (hB : Sl w B k d (fE l)) (wf : WfE l) :
    Calls Try.prog 29 #[.slice B k d, .int .i64 words] w (RetU w [] er) := by
  subst hk he
  refine (entryWords_any l words B d w hB wf).mono ?_
  rintro e w' (⟨hz, _⟩ | ⟨_, rfl, hx⟩)
  · exact absurd hz h0
  · exact retU_nil hx
theorem entryCheck_er (l : List (Int × Int)) (k : Nat) (hk : l.length = k) (words er : Int) (he : chkE l words = er) (B : Option Addr) (d : Nat) (w : World) (hB : Sl w B k d (fE l)) (wf : WfE l) :
    Calls Try.prog 33 #[.slice B k d, .int .i64 words] w fun e w' => e = .returned (.int .i64 er) ∧ Ext w w' := by
  subst hk he
  exact entryCheck_any l words B d w hB wf
/-- A row of 256 words of the call's own at the head of block g. -/
def OwM (w : World) (g : Nat) (m : List Int) : Prop := w.ownsRow g 23 1 (.slice (some ⟨g, 0, none⟩) 256 256) 256 (fU m)
theorem OwM.ext {w w' : World} {g : Nat} {m : List Int} (h : OwM w g m) (x : Ext w w') : OwM w' g m := own_ext h x
theorem OwM.sl {w : World} {g : Nat} {m : List Int} (h : OwM w g m) : Sl w (some ⟨g, 0, none⟩) 256 256 (fU m) := own_sl h
theorem OwM.set {w : World} {g : Nat} {m : List Int} (h : OwM w g m) (i : Nat) (y : Int) : OwM (w.setCell ⟨g, i, none⟩ (.int .u64 y)) g (m.set i y) := own_set_U h i y
theorem OwM.sl8 {w : World} {g : Nat} {m : List Int} (h : OwM w g m) : Sl w (some ⟨g, 0, none⟩) 8 256 (fU (m.take 8)) := by
  rw [fU_take]
  exact h.sl.pre (by decide)
theorem Sl.e_pre32 {w : World} {A : Option Addr} {c : Nat} (h : Sl w A 33 c (fE (manyL 33))) : Sl w A 32 c (fE ((manyL 33).take 32)) := by
  rw [fE_take]
  exact h.pre (by decide)
theorem Rws.at {w : World} {g : Nat} {L : List (List (Int × Int))} (h : Rws w ⟨g, 0, none⟩ L) {k : Nat} {l : List (Int × Int)} (hl : L[k]? = some l) : ∃ A c, w.cell? ⟨g, k, none⟩ = some (.slice A l.length c) ∧ Sl w A l.length c (fE l) := by
  obtain ⟨A, c, g1, s1⟩ := h k l hl
  simp only [Addr.add_lit, Nat.zero_add] at g1
  exact ⟨A, c, g1, s1⟩
theorem entryRead_er (m : List Int) (k : Nat) (hk : m.length = k) (n : Int) (er : Int) (he : rdE m n = er) (A : Option Addr) (c : Nat) (w : World) (hA : Sl w A k c (fU m)) (wf : WfU m) :
    Calls Try.prog 27 #[.slice A k c, .int .i64 n] w fun e w' => ∃ A j c, e = .returned (.tuple #[.slice A j c, .int .i64 er]) ∧ Ext w w' := by
  refine (entryRead_at m k hk n er he _ rfl A c w hA wf).mono ?_
  rintro e w' ⟨A, c, rfl, -, hx⟩
  exact ⟨A, _, c, rfl, hx⟩
theorem entryRead_is (m : List Int) (k : Nat) (hk : m.length = k) (n : Int) (l : List (Int × Int)) (j : Nat) (hj : l.length = j) (he : rdE m n = 0) (hl : jnl m n.toNat = l) (A : Option Addr) (c : Nat) (w : World) (hA : Sl w A k c (fU m)) (wf : WfU m) :
    Calls Try.prog 27 #[.slice A k c, .int .i64 n] w fun e w' => ∃ A c, e = .returned (.tuple #[.slice A j c, .int .i64 0]) ∧ Sl w' A j c (fE l) ∧ Ext w w' := by
  subst hj
  refine (entryRead_at m k hk n 0 he l (by rw [hl]; rfl) A c w hA wf).mono ?_
  rintro e w' ⟨A, c, rfl, hs, hx⟩
  exact ⟨A, c, rfl, hs, hx⟩
theorem entryApply_no (m : List Int) (l : List (Int × Int)) (n k : Nat) (hn : m.length = n) (hk : l.length = k) (er : Int) (he : (if sizeB n then chkE l n else 8) = er) (h0 : er ≠ 0) (A : Option Addr) (c : Nat) (B : Option Addr) (d : Nat) (w : World) (hA : Sl w A n c (fU m)) (hB : Sl w B k d (fE l)) (wf : WfE l) :
    Calls Try.prog 34 #[.slice A n c, .slice B k d] w fun e w' => ∃ A j c, e = .returned (.tuple #[.slice A j c, .int .i64 er]) ∧ Ext w w' := by
  refine (entryApply_er m l n k hn hk er he h0 A c B d w hA hB wf).mono ?_
  rintro e w' ⟨A, c, rfl, -, hx⟩
  exact ⟨A, _, c, rfl, hx⟩
theorem entryRead_one (hw : WfU n8m1) (A : Option Addr) (c : Nat) (W : World) (ha : Sl W A 256 c (fU n8m1)) :
    Calls Try.prog 27 #[.slice A 256 c, .int .i64 1] W fun e w' => ∃ g c, e = .returned (.tuple #[.slice (some ⟨g, 0, none⟩) 1 c, .int .i64 0]) ∧ Sl w' (some ⟨g, 0, none⟩) 1 c (fE [(255, 9)]) ∧ W.heap.size ≤ g ∧ Ext W w' := by
  obtain ⟨z0, z1, z2, _, _⟩ := n8_r1
  have h := entryRead_any n8m1 1 A c W (by rw [z2]; exact ha) hw
  rw [z2, z0, show (1 : Int).toNat = 1 from rfl, z1] at h
  refine h.mono ?_
  rintro e w' (⟨_, A, c, rfl, hown, hs, hx⟩ | ⟨h0, _⟩)
  · obtain ⟨g, rfl, hg⟩ := own_head hown (by decide)
    exact ⟨g, c, rfl, hs, hg, hx⟩
  · exact absurd rfl h0
theorem n8_w : (∀ x ∈ n8m1, 0 ≤ x ∧ x ≤ 18446744073709551615) ∧ (∀ x ∈ n8m2, 0 ≤ x ∧ x ≤ 18446744073709551615) := by decide +kernel
theorem n8_s8 : sizeB 8 = false ∧ jnl (zerosU 256) 0 = [] := by decide +kernel
set_option maxRecDepth 100000 in
set_option maxHeartbeats 12800000 in
theorem entryNames_any (w : World) :
    Calls Try.prog 10 #[] w fun e w' => e = .returned (.bool true) ∧ Ext w w' := by
  have wz := wf_zeros 256
  have w1' : WfU n8m1 := fun x hx => n8_w.1 x hx
  have w2' : WfU n8m2 := fun x hx => n8_w.2 x hx
  have wt8 : WfU ((zerosU 256).take 8) := fun x hx => wz x (List.mem_of_mem_take hx)
  have wm : WfE (manyL 33) := wf_manyL (by decide)
  have wm2 : WfE ((manyL 33).take 32) := fun x hx => wm x (List.mem_of_mem_take hx)
  have q1 := fun A c B d W (ha : Sl W A 256 c (fU (zerosU 256))) (hb : Sl W B 33 d (fE (manyL 33))) => entryApply_no (zerosU 256) (manyL 33) 256 33 n8_z.1 (manyL_length 33) 4 (by rw [if_pos (show sizeB ((256 : Nat) : Int) = true from n8_may.1)]; exact n8_m0) (by decide) A c B d W ha hb wm
  have q2 := fun A c B d W (ha : Sl W A 8 c (fU ((zerosU 256).take 8))) (hb : Sl W B 33 d (fE (manyL 33))) => entryApply_no ((zerosU 256).take 8) (manyL 33) 8 33 n8_z.2 (manyL_length 33) 8 (by rw [show sizeB ((8 : Nat) : Int) = false from n8_s8.1]; rfl) (by decide) A c B d W ha hb wm
  have q3 := fun A c W (ha : Sl W A 256 c (fU (zerosU 256))) => entryRead_er (zerosU 256) 256 n8_z.1 (-1) 2 n8_r.1 A c W ha wz
  have q4 := fun A c W (ha : Sl W A 256 c (fU (zerosU 256))) => entryRead_er (zerosU 256) 256 n8_z.1 33 2 n8_r.2.1 A c W ha wz
  have q5 := fun A c W (ha : Sl W A 256 c (fU (zerosU 256))) => entryRead_er (zerosU 256) 256 n8_z.1 1 50 n8_r.2.2.1 A c W ha wz
  have q6 := fun A c W (ha : Sl W A 256 c (fU (zerosU 256))) => entryRead_is (zerosU 256) 256 n8_z.1 0 [] 0 rfl n8_r.2.2.2.1 n8_s8.2 A c W ha wz
  have q7 := fun A c W (ha : Sl W A 8 c (fU ((zerosU 256).take 8))) => entryRead_er ((zerosU 256).take 8) 8 n8_z.2 (-1) 8 n8_r.2.2.2.2 A c W ha wt8
  have q8 := entryRead_one w1'
  have q9 := fun A c W (ha : Sl W A 256 c (fU n8m2)) => entryRead_er n8m2 256 n8_r1.2.2.2.2 2 50 n8_r1.2.2.2.1 A c W ha w2'
  have q10 := fun B d W (hb : Sl W B 32 d (fE ((manyL 33).take 32))) => entryCheck_er ((manyL 33).take 32) 32 n8_m1.2 256 0 n8_m1.1 B d W hb wm2
  have q11 : ∀ W, Calls Try.prog 32 #[.int .i64 255, .int .i64 256] W fun e w' => e = .returned (.tuple #[.bool true, .int .i64 0]) ∧ Ext W w' := fun W => by
    refine (entryMay2_any 255 256 W).mono ?_
    rintro e w' ⟨rfl, rfl⟩
    exact ⟨by simp [n8_may.1, n8_may.2.1, n8_may.2.2.2], Ext.refl _⟩
  have q12 : ∀ W, Calls Try.prog 32 #[.int .i64 256, .int .i64 256] W fun e w' => e = .returned (.tuple #[.bool false, .int .i64 0]) ∧ Ext W w' := fun W => by
    refine (entryMay2_any 256 256 W).mono ?_
    rintro e w' ⟨rfl, rfl⟩
    exact ⟨by simp [n8_may.1, n8_may.2.2.1, n8_may.2.2.2], Ext.refl _⟩
  have QQ := Lib.hid (And.intro q1 (And.intro q2 (And.intro q3 (And.intro q4 (And.intro q5 (And.intro q6 (And.intro q7 (And.intro q8 (And.intro q9 (And.intro q10 (And.intro q11 q12)))))))))))
  clear q1 q2 q3 q4 q5 q6 q7 q8 q9 q10 q11 q12 w1' w2' wt8 wm wm2 wz
  go_enter Try.func10, Try.ntmps10
  go_wp2_with fail
  go_loopw [1, 2] (fun v i wr => ∃ k : Nat, k ≤ 33 ∧ i = .int .i64 k ∧ wr.ownsRow w.heap.size 56 2 v k (fE (manyL k)) ∧ Ext w wr) (fun _ i _ => 33 - (intOf i).toNat)
  case atStart => exact ⟨0, by omega, rfl, own_nil _ _ _ _, Ext.refl w⟩
  case round =>
    obtain ⟨k, hk, rfl, hown, hx⟩ := hrel
    by_cases hlt : k < 33
    · have hsz := hx.size
      have Hj := Lib.hid (manyL_succ k)
      go_wp2_with (at_builtin; refine wpList_app EE rfl (.tmp 43) (.tmp 47) rfl rfl (hown.alloc _) rfl (Sl.lit' _ _ _ _ (by simp) (by decide)) rfl (fE_one [(128 + (k : Int), 0)]) (by omega) (by simp; omega) ?_; intro v' w' hown' hbel hat hgr)
      have hx' : Ext w w' := Below.trans (hx.alloc _) hbel
      have hown2 : w'.ownsRow w.heap.size 56 2 v' (k + 1) (fE (manyL (k + 1))) := by
        rw [Hj.out, fE_append]
        exact hown'
      clear hown hown' hbel hat hgr
      go_roundw
      case rel => exact ⟨k + 1, by omega, by go_num, hown2, hx'⟩
      case measure => simp [intOf]; omega
    · obtain rfl : k = 33 := by omega
      obtain ⟨A, c, hv, hA⟩ := Sl.of_own hown
      subst hv
      clear hown
      rw [show ((33 : Nat) : Int) = 33 from rfl]
      go_wp2_with fail
      go_loopw [4] (fun i wr' => ∃ k : Nat, k ≤ 6 ∧ i = .int .i64 k ∧ Sl wr' (some ⟨wr.heap.size, 0, none⟩) 6 6 (fI n8s) ∧ Ext wr wr') (fun i _ => 6 - (intOf i).toNat)
      case atStart => exact ⟨0, by omega, rfl, Sl.lit' _ _ _ _ rfl (by decide), (Ext.refl wr).alloc _⟩
      case round =>
        obtain ⟨k, hk, rfl, hS, hx1⟩ := hrel
        by_cases hlt : k < 6
        · obtain ⟨ad, x, had, hxk, g1⟩ := hS.i_at (k := k) hlt
          injection had with had
          subst had
          have hsb := n8s_bad k x hxk
          have hce : chkE (manyL 33) x = 2 := by simp [chkE, hsb]
          have hse : szE x = 2 := by simp [szE, hsb]
          simp only [Addr.add_lit, Nat.zero_add] at g1
          have HC := Lib.hid hce
          clear hxk hce
          go_wp2_with fail
          refine (entryMay2_any _ _ _).mono ?_
          rintro e w1 ⟨rfl, rfl⟩
          go_wp2_with fail
          refine (entryWords_er (manyL 33) 33 (manyL_length 33) x 2 HC.out (by decide) A c _ (hA.ext hx1) (wf_manyL (by decide))).mono ?_
          rintro e w1 ⟨A1, c1, rfl, hA1, hx2⟩
          have g2 := hx2.cell g1
          go_wp2_with fail
          refine (entryCheck_er (manyL 33) 33 (manyL_length 33) x 2 HC.out A c _ (hA.ext (hx1.trans hx2)) (wf_manyL (by decide))).mono ?_
          rintro e w2 ⟨rfl, hx3⟩
          go_wp2_with fail
          go_roundw
          case rel => exact ⟨k + 1, by omega, by go_num, hS.ext (hx2.trans hx3), hx1.trans (hx2.trans hx3)⟩
          case measure => simp [intOf]; omega
        · obtain rfl : k = 6 := by omega
          rw [show ((6 : Nat) : Int) = 6 from rfl]
          have hAr := hA.ext hx1
          have hX1 := hx.trans hx1
          clear hS hA hx hx1
          go_wp2_with (at_make; refine wpList_zeros rfl _ _ rfl 256 (by decide) _ _ _ _ rfl rfl rfl rfl ?_; intro w1 hown hx2 hz2)
          obtain ⟨wo, hwo⟩ : ∃ wo : World, wo = wr := ⟨_, rfl⟩
          subst hwo
          have hx2b : Ext wo w1 := Ext.trans (((((((Ext.refl wo).alloc _).alloc _).alloc _).alloc _).alloc _).alloc _) ((Ext.refl _).alloc _) |>.trans hx2
          have hRw : Rws w1 ⟨wo.heap.size + 1 + 1 + 1 + 1 + 1 + 1, 0, none⟩ n8b := by
            refine Rws.ext ?_ hx2
            intro k l hl
            have hk : k < 6 := by
              have := (List.getElem?_eq_some_iff.1 hl).1
              simpa [n8b] using this
            rcases (by omega : k = 0 ∨ k = 1 ∨ k = 2 ∨ k = 3 ∨ k = 4 ∨ k = 5) with rfl | rfl | rfl | rfl | rfl | rfl
            · injection hl with hl
              subst hl
              exact ⟨some ⟨wo.heap.size, 0, none⟩, 1, by simp [go_sem], ((((((Sl.lit' _ _ _ _ rfl (by decide)).alloc _).alloc _).alloc _).alloc _).alloc _).alloc _⟩
            · injection hl with hl
              subst hl
              exact ⟨some ⟨wo.heap.size + 1, 0, none⟩, 1, by simp [go_sem], (((((Sl.lit' _ _ _ _ (by simp) (by decide)).alloc _).alloc _).alloc _).alloc _).alloc _⟩
            · injection hl with hl
              subst hl
              exact ⟨some ⟨wo.heap.size + 1 + 1, 0, none⟩, 1, by simp [go_sem], ((((Sl.lit' _ _ _ _ (by simp) (by decide)).alloc _).alloc _).alloc _).alloc _⟩
            · injection hl with hl
              subst hl
              exact ⟨some ⟨wo.heap.size + 1 + 1 + 1, 0, none⟩, 1, by simp [go_sem], (((Sl.lit' _ _ _ _ (by simp) (by decide)).alloc _).alloc _).alloc _⟩
            · injection hl with hl
              subst hl
              exact ⟨some ⟨wo.heap.size + 1 + 1 + 1 + 1, 0, none⟩, 1, by simp [go_sem], ((Sl.lit' _ _ _ _ (by simp) (by decide)).alloc _).alloc _⟩
            · injection hl with hl
              subst hl
              exact ⟨some ⟨wo.heap.size + 1 + 1 + 1 + 1 + 1, 0, none⟩, 3, by simp [go_sem], (Sl.lit' _ _ _ _ (by simp) (by decide)).alloc _⟩
          obtain ⟨gZ, hgZ, hM⟩ : ∃ b, b = wo.heap.size + 1 + 1 + 1 + 1 + 1 + 1 + 1 ∧ OwM w1 b (zerosU 256) := ⟨_, by simp, hown⟩
          have hlo : wo.heap.size ≤ gZ := by omega
          rw [← hgZ]
          clear hgZ hown hz2
          obtain ⟨gR, hgR⟩ : ∃ b, wo.heap.size + 1 + 1 + 1 + 1 + 1 + 1 = b := ⟨_, rfl⟩
          rw [hgR] at hRw ⊢
          clear hgR
          have HR := Lib.hid hRw
          have HX := Lib.hid (And.intro hM (And.intro hx2b (And.intro hAr (And.intro hX1 hlo))))
          clear hM hx2b hAr hX1 hRw hlo hx2
          go_loopw [11] (fun i wr' => ∃ k : Nat, k ≤ 6 ∧ i = .int .i64 k ∧ Ext w1 wr') (fun i _ => 6 - (intOf i).toNat)
          case atStart => exact ⟨0, by omega, rfl, Ext.refl w1⟩
          case round =>
            obtain ⟨k, hk, rfl, hx⟩ := hrel
            by_cases hlt : k < 6
            · obtain ⟨l, hl⟩ : ∃ l, n8b[k]? = some l := ⟨_, List.getElem?_eq_getElem hlt⟩
              obtain ⟨hce, wf⟩ := n8b_bad k l hl
              have b1 := fun B d W (hb : Sl W B l.length d (fE l)) => entryWords_er l _ rfl 256 8 hce (by decide) B d W hb wf
              have b2 := fun A c B d W (ha : Sl W A 256 c (fU (zerosU 256))) (hb : Sl W B l.length d (fE l)) => entryApply_no (zerosU 256) l 256 _ n8_z.1 rfl 8 (by rw [if_pos (show sizeB ((256 : Nat) : Int) = true from n8_may.1)]; exact hce) (by decide) A c B d W ha hb wf
              have b3 := fun B d W (hb : Sl W B l.length d (fE l)) => entryCheck_er l _ rfl 256 8 hce B d W hb wf
              have HC := Lib.hid (And.intro b1 (And.intro b2 b3))
              have HL := Lib.hid hl
              have hM := HX.out.1.ext hx
              have i1 : (0 : Int) ≤ k := by omega
              have i2 : (k : Int) < 6 := by omega
              clear b1 b2 b3 hce wf hl
              obtain ⟨A1, c1, g1, s1⟩ := (HR.out.ext hx).at HL.out
              go_wp2_with fail
              refine (HC.out.1 _ _ wr s1).mono ?_
              rintro e W101 ⟨A2, c2, rfl, -, hxx⟩
              replace hM := hM.ext hxx
              replace hx := hx.trans hxx
              clear hxx
              clear g1 s1
              obtain ⟨A3, c3, g1, s1⟩ := (HR.out.ext hx).at HL.out
              go_wp2_with fail
              refine (HC.out.2.1 _ _ _ _ W101 hM.sl s1).mono ?_
              rintro e W102 ⟨A4, j4, c4, rfl, hxx⟩
              replace hM := hM.ext hxx
              replace hx := hx.trans hxx
              clear hxx
              clear g1 s1
              obtain ⟨A5, c5, g1, s1⟩ := (HR.out.ext hx).at HL.out
              go_wp2_with fail
              refine (HC.out.2.2 _ _ W102 s1).mono ?_
              rintro e W103 ⟨rfl, hxx⟩
              replace hM := hM.ext hxx
              replace hx := hx.trans hxx
              clear hxx
              clear g1 s1
              go_wp2_with fail
              go_roundw
              case rel => exact ⟨k + 1, by omega, by go_num, hx⟩
              case measure => simp [intOf]; omega
            · obtain rfl : k = 6 := by omega
              rw [show ((6 : Nat) : Int) = 6 from rfl]
              have hM := HX.out.1.ext hx
              have hX := HX.out.2.1.trans hx
              have HA := Lib.hid (And.intro HX.out.2.2.1 (And.intro HX.out.2.2.2.1 HX.out.2.2.2.2))
              clear hx HX HR
              go_wp2_with fail
              refine (QQ.out.1 _ _ _ _ wr hM.sl (HA.out.1.ext hX)).mono ?_
              rintro e W101 ⟨A11, j11, c11, rfl, hxx⟩
              replace hM := hM.ext hxx
              replace hX := hX.trans hxx
              clear hxx
              go_wp2_with fail
              refine (QQ.out.2.1 _ _ _ _ W101 hM.sl8 (HA.out.1.ext hX)).mono ?_
              rintro e W102 ⟨A12, j12, c12, rfl, hxx⟩
              replace hM := hM.ext hxx
              replace hX := hX.trans hxx
              clear hxx
              go_wp2_with fail
              refine (QQ.out.2.2.1 _ _ W102 hM.sl).mono ?_
              rintro e W103 ⟨A13, j13, c13, rfl, hxx⟩
              replace hM := hM.ext hxx
              replace hX := hX.trans hxx
              clear hxx
              go_wp2_with fail
              refine (QQ.out.2.2.2.1 _ _ W103 hM.sl).mono ?_
              rintro e W104 ⟨A14, j14, c14, rfl, hxx⟩
              replace hM := hM.ext hxx
              replace hX := hX.trans hxx
              clear hxx
              go_wp2_with fail
              refine (QQ.out.2.2.2.2.1 _ _ W104 hM.sl).mono ?_
              rintro e W105 ⟨A15, j15, c15, rfl, hxx⟩
              replace hM := hM.ext hxx
              replace hX := hX.trans hxx
              clear hxx
              go_wp2_with fail
              refine (QQ.out.2.2.2.2.2.1 _ _ W105 hM.sl).mono ?_
              rintro e W106 ⟨AN, cN, rfl, -, hxx⟩
              replace hM := hM.ext hxx
              replace hX := hX.trans hxx
              clear hxx
              go_wp2_with fail
              refine (QQ.out.2.2.2.2.2.2.1 _ _ W106 hM.sl8).mono ?_
              rintro e W107 ⟨A16, j16, c16, rfl, hxx⟩
              replace hM := hM.ext hxx
              replace hX := hX.trans hxx
              clear hxx
              obtain ⟨y0, -, c0, f0⟩ := own_at_U hM (i := 32) (by rw [n8_z.1]; decide)
              obtain ⟨y1, -, d0, e0⟩ := own_at_U hM (i := 33) (by rw [n8_z.1]; decide)
              have H4 := Lib.hid (And.intro ((hM.set 32 255).set 33 9) ((hX.setCell (p := ⟨gZ, 32, none⟩) HA.out.2.2 (.int .u64 255)).setCell (p := ⟨gZ, 33, none⟩) HA.out.2.2 (.int .u64 9)))
              clear hM hX
              go_upto_region 31 with fail
              obtain ⟨W4, hW4⟩ : ∃ W, W = (W107.setCell ⟨gZ, 32, none⟩ (.int .u64 255)).setCell ⟨gZ, 33, none⟩ (.int .u64 9) := ⟨_, rfl⟩
              obtain ⟨hM, hX⟩ := H4.out
              rw [← hW4] at hM hX ⊢
              replace hM : OwM W4 gZ n8m1 := hM
              clear hW4 H4 c0 f0 d0 e0
              obtain ⟨y9, -, c9, f9⟩ := own_at_U hM (i := 34) (by rw [n8_r1.2.2.1]; decide)
              have HZL := Lib.hid (block_lt_of_cell c9)
              clear c9 f9
              go_wp2_with fail
              refine (QQ.out.2.2.2.2.2.2.2.1 _ _ W4 hM.sl).mono ?_
              rintro e W101 ⟨gJ, cJ, rfl, hJ, hgJ, hxx⟩
              replace hM := hM.ext hxx
              replace hX := hX.trans hxx
              clear hxx
              obtain ⟨y2, -, c0, f0⟩ := own_at_U hM (i := 34) (by rw [n8_r1.2.2.1]; decide)
              have H4 := Lib.hid (And.intro (hM.set 34 9223372036854776063) (And.intro (hJ.setCell (p := ⟨gZ, 34, none⟩) (by rintro ad e; injection e with e; subst e; exact Nat.ne_of_gt (Nat.lt_of_lt_of_le HZL.out hgJ)) (.int .u64 9223372036854776063)) (hX.setCell (p := ⟨gZ, 34, none⟩) HA.out.2.2 (.int .u64 9223372036854776063))))
              clear hM hX hJ hgJ
              go_upto_region 33 with fail
              obtain ⟨W5, hW5⟩ : ∃ W, W = W101.setCell ⟨gZ, 34, none⟩ (.int .u64 9223372036854776063) := ⟨_, rfl⟩
              obtain ⟨hM, hJ, hX⟩ := H4.out
              rw [← hW5] at hM hJ hX ⊢
              replace hM : OwM W5 gZ n8m2 := hM
              clear hW5 H4 c0 f0
              go_wp2_with fail
              refine (QQ.out.2.2.2.2.2.2.2.2.1 _ _ W5 hM.sl).mono ?_
              rintro e W101 ⟨A99, j99, c99, rfl, hxx⟩
              replace hM := hM.ext hxx
              replace hJ := hJ.ext hxx
              replace hX := hX.trans hxx
              clear hxx
              have hA32 := (HA.out.1.ext hX).e_pre32
              have hc32 := hA32.le
              have hc33 : (32 : Int) ≤ c := by omega
              have hc34 := hA32.max
              unfold maxLen at hc34
              go_wp2_with fail
              refine (QQ.out.2.2.2.2.2.2.2.2.2.1 _ _ W101 hA32).mono ?_
              rintro e W102 ⟨rfl, hxx⟩
              replace hM := hM.ext hxx
              replace hJ := hJ.ext hxx
              replace hX := hX.trans hxx
              clear hxx
              go_wp2_with fail
              refine (QQ.out.2.2.2.2.2.2.2.2.2.2.1 W102).mono ?_
              rintro e W103 ⟨rfl, hxx⟩
              replace hM := hM.ext hxx
              replace hJ := hJ.ext hxx
              replace hX := hX.trans hxx
              clear hxx
              go_wp2_with fail
              refine (QQ.out.2.2.2.2.2.2.2.2.2.2.2 W103).mono ?_
              rintro e W104 ⟨rfl, hxx⟩
              replace hM := hM.ext hxx
              replace hJ := hJ.ext hxx
              replace hX := hX.trans hxx
              clear hxx
              go_wp2_with fail
              refine (same7_at_yes [(255, 9)] [(255, 9)] rfl 1 1 rfl rfl _ _ _ _ _ (hJ.alloc _) (Sl.lit' _ _ _ _ rfl (by decide))).mono ?_
              rintro e w8 ⟨rfl, hd8⟩
              go_wp2_with fail
              refine (alive08_any _).mono ?_
              rintro e w9 ⟨rfl, hx9⟩
              go_wp2_with fail
              go_ret
              exact ⟨rfl, HA.out.2.1.trans (Ext.trans (hX.alloc _) (hd8.ext.trans hx9))⟩
set_option maxRecDepth 100000 in
theorem entryNames_lifted (os : Os) (started : os.Started) (H : Type) (enc : TypeId × Value → H) :
    ReturnsInHanded {} Try.checked os 10 .any (Rows.entryNamesSpec.pre6 enc Try.prog Try.f10 Rows.entryNamesRow.domain false) (Rows.entryNamesSpec.post enc Try.prog Try.f10 false true false false) := by
  refine returnsInHanded_of_change (C := Try.checked) own_knob started (by kernel_rfl) Try.func10
    (ChangeSpec.witness6 (enc := enc) (C := Try.checked) false ⟨#[], #[], []⟩ 8 (by kernel_rfl) (by kernel_rfl) (by kernel_rfl) (by kernel_rfl)) ?_
  intro W base args ds gs before hval0 hW hcnd _
  have hval : ∀ (j : Nat) t v, Try.f10.params[j]? = some t → args[j]? = some v → Value.okWide Try.prog W .any base t v := hval0
  have hW' := hW
  obtain ⟨p, q, hA0, hV, rfl, hfz, hnd⟩ := hW
  have hA : DataW.TrodAll enc Try.prog W 0 (fun _ => true) true Try.f10.params.toList args.toList ds p := hA0
  rw [Try.params10] at hA hval
  obtain ⟨rfl, rfl, rfl⟩ := trodAll_none hA
  obtain ⟨rfl, rfl⟩ := trodVars_none hV
  clear hA0 hval0 hval hA
  refine (entryNames_any W).mono fun e W' ⟨he, hx⟩ => ?_
  subst he
  exact ⟨_, rfl, post_law laid_out (by kernel_rfl) hW' rfl rfl rfl Try.underlying4 hx⟩
theorem entryNames_holds : Rows.EntryNamesSaid :=
  OpenClaim.holds_of_wide 10 Try.f10 rfl rfl rfl rfl rfl rfl rfl ⟨rfl, rfl, rfl, rfl, rfl⟩ rfl rfl rfl rfl rfl (by kernel_rfl) Try.func10 (by kernel_rfl)
    (of_decide_eq_true (by kernel_rfl)) (by unfold Func.isWrapper; first | (rw [if_pos (by decide +kernel)]; kernel_rfl) | (rw [if_neg (by decide +kernel)]; exact ⟨rfl, rfl⟩))
    (fun os started H enc _ => entryNames_lifted os started H enc)
end Go.Proofs.Ytibeolemelmpcaa
