/-
  The examples of chapter 3.
-/
import Derived.Test.YtmmcbleoglgamaaDV
import Derived.Test.YtmmcbleoglgamaaMake
namespace Go.Proofs.Ytmmcbleoglgamaa
open Go.RowKit
def al3_0 : Dev4 := newV (zerosU 256)
def al3_1 : Dev4 := stepD al3_0 (.st 9 5)
def al3_2 : Dev4 := stepD al3_1 (.fl 15)
def al3_3 : Dev4 := stepD al3_2 .fe
def dv4 (D : Dev4) : Bool := devB D.1 D.2.1 D.2.2.1 D.2.2.2
theorem al3 : imgE 256 = 0 ∧ (dv4 al3_0 = true ∧ al3_0.1.length = 256) ∧ (dv4 al3_1 = true ∧ al3_1.1.length = 256) ∧ (dv4 al3_2 = true ∧ al3_2.1.length = 256) ∧ ldV al3_1.1 al3_1.2.1 9 = 5 ∧ al3_1.1[9]? = some 0 ∧ (al3_3.1.length = 256 ∧ al3_3.1[9]? = some 5 ∧ al3_3.2.1.length = 0) := by decide +kernel
set_option maxRecDepth 100000 in
set_option maxHeartbeats 3200000 in
theorem alive03_any (w : World) : Calls Try.prog 43 #[] w fun e w' => e = .returned (.bool true) ∧ Ext w w' := by
  obtain ⟨f0, ⟨v0, n0⟩, ⟨v1, n1⟩, ⟨v2, n2⟩, f5, f9, n3, f3, z3⟩ := al3
  have h0 := fun A c W (ha : Sl W A (zerosU 256).length c (fU (zerosU 256))) => dNew_any (zerosU 256) A c W ha
  rw [show newV (zerosU 256) = al3_0 from rfl, zerosU_length, show imgE ((256 : Nat) : Int) = 0 from f0] at h0
  obtain ⟨⟨m0, q0, l0, b0⟩, e0⟩ : ∃ D, al3_0 = D := ⟨_, rfl⟩
  obtain ⟨⟨m1, q1, l1, b1⟩, e1⟩ : ∃ D, al3_1 = D := ⟨_, rfl⟩
  obtain ⟨⟨m2, q2, l2, b2⟩, e2⟩ : ∃ D, al3_2 = D := ⟨_, rfl⟩
  obtain ⟨⟨m3, q3, l3, b3⟩, e3⟩ : ∃ D, al3_3 = D := ⟨_, rfl⟩
  have s1 : stepD (m0, q0, l0, b0) (.st 9 5) = (m1, q1, l1, b1) := by rw [← e0, ← e1]; rfl
  have s2 : stepD (m1, q1, l1, b1) (.fl 15) = (m2, q2, l2, b2) := by rw [← e1, ← e2]; rfl
  have s3 : stepD (m2, q2, l2, b2) .fe = (m3, q3, l3, b3) := by rw [← e2, ← e3]; rfl
  rw [e0] at v0 n0 h0
  rw [e1] at v1 n1 f5 f9
  rw [e2] at v2 n2
  rw [e3] at n3 f3 z3
  simp only [dv4] at v0 v1 v2 n0 n1 n2 n3 f3 f5 f9 z3
  have h1 := fun A c B d W (ha : Sl W A m0.length c (fU m0)) (hb : Sl W B q0.length d (fD q0)) => dStore_ok (left := l0) (down := b0) (a := 9) 5 v0 (by decide) (by rw [n0]; decide) A c B d W ha hb
  have h2 := fun A c B d W (ha : Sl W A m1.length c (fU m1)) (hb : Sl W B q1.length d (fD q1)) => dLoad_ok (left := l1) (down := b1) (a := 9) v1 (by decide) (by rw [n1]; decide) A c B d W ha hb
  have h3 := fun A c B d W (ha : Sl W A m1.length c (fU m1)) (hb : Sl W B q1.length d (fD q1)) => dFlush_ok (left := l1) (down := b1) (a := 15) v1 (by decide) (by rw [n1]; decide) A c B d W ha hb
  have h4 := fun A c B d W (ha : Sl W A m2.length c (fU m2)) (hb : Sl W B q2.length d (fD q2)) => dFence_ok (left := l2) (down := b2) v2 A c B d W ha hb
  rw [s1] at h1
  rw [f5] at h2
  rw [s2] at h3
  rw [s3] at h4
  have HH := Lib.hid (And.intro h0 (And.intro h1 (And.intro h2 (And.intro h3 h4))))
  have HF := Lib.hid (And.intro n1 (And.intro f9 (And.intro n3 (And.intro f3 z3))))
  have k1 : ((m1.length : Int) == 256) = true := by rw [n1]; rfl
  have k3 : ((m3.length : Int) == 256) = true := by rw [n3]; rfl
  have kz : ((q3.length : Int) == 0) = true := by rw [z3]; rfl
  have i1 : (9 : Int) < m1.length := by omega
  have i3 : (9 : Int) < m3.length := by omega
  have j1 : 9 < m1.length := by omega
  have j3 : 9 < m3.length := by omega
  clear h0 h1 h2 h3 h4 s1 s2 s3 e0 e1 e2 e3 v0 v1 v2 n0 n1 n2 n3 f0 f3 f5 f9 z3
  go_enter Try.func43, Try.ntmps43
  go_wp2_with (at_make; refine wpList_zeros rfl _ _ rfl 256 (by decide) _ _ _ _ rfl rfl rfl rfl ?_; intro w1 hown hX hz1)
  have hA := own_sl4 hown
  clear hown hz1
  go_wp2_with fail
  refine (HH.out.1 _ _ w1 hA).mono ?_
  rintro e W101 ⟨AD, cD, BD, dD, rfl, sD, tD, hxx⟩
  go_upto_region 2 with fail
  have hD := DV.new W101 m0 q0 l0 b0 AD cD BD dD 25 sD tD
  have loD := Nat.le_trans hX.size hxx.size
  replace hxx := Ext.trans hxx ((Ext.refl W101).alloc (Obj.cells #[.slice AD m0.length cD, .slice BD q0.length dD, .int .i64 l0, .bool b0] 25))
  obtain ⟨W102, hW⟩ : ∃ W, W = W101.alloc (Obj.cells #[.slice AD m0.length cD, .slice BD q0.length dD, .int .i64 l0, .bool b0] 25) := ⟨_, rfl⟩
  obtain ⟨gD, hg⟩ : ∃ g, W101.heap.size = g := ⟨_, rfl⟩
  rw [← hW] at hD hxx ⊢
  rw [hg] at hD loD  ⊢
  clear hW hg sD tD
  replace hX := hX.trans hxx
  clear hxx
  obtain ⟨AD, cD, BD, dD, bD, sD, tD⟩ := hD
  obtain ⟨b0, b1, b2, b3, bf, bl⟩ := bD
  go_wp2_with fail
  refine (HH.out.2.1 AD cD BD dD W102 sD tD).mono ?_
  rintro e W103 ⟨A9, c9, B9, d9, rfl, s9, t9, hxx⟩
  have hD := DV.mk (Box4.mk b0 b1 b2 b3 bf bl) sD tD
  clear b0 b1 b2 b3 bf bl
  replace hD := hD.ext hxx
  replace hX := hX.trans hxx
  have h9 := hD
  obtain ⟨A8, c8, B8, d8, b9, s8, t8⟩ := h9
  obtain ⟨b0, b1, b2, b3, bf, bl⟩ := b9
  go_upto_region 3 with fail
  clear b0 b1 b2 b3 bf bl s8 t8 hxx
  have h9 := hD.set s9 t9 (l1) (b1)
  replace hX := hX.setB loD (.slice A9 m1.length c9) (.slice B9 q1.length d9) (.int .i64 l1) (.bool b1)
  obtain ⟨W104, hW⟩ : ∃ W, W = setB W103 gD (.slice A9 m1.length c9) (.slice B9 q1.length d9) (.int .i64 l1) (.bool b1) := ⟨_, rfl⟩
  rw [show ((((W103.setCell ⟨gD, 0, none⟩ (.slice A9 m1.length c9)).setCell ⟨gD, 1, none⟩ (.slice B9 q1.length d9)).setCell ⟨gD, 2, none⟩ (.int .i64 l1)).setCell ⟨gD, 3, none⟩ (.bool b1)) = setB W103 gD (.slice A9 m1.length c9) (.slice B9 q1.length d9) (.int .i64 l1) (.bool b1) from rfl, ← hW]
  rw [← hW] at h9 hX 
  replace hD := h9
  clear h9 hW s9 t9
  obtain ⟨AD, cD, BD, dD, bD, sD, tD⟩ := hD
  obtain ⟨b0, b1, b2, b3, bf, bl⟩ := bD
  go_wp2_with fail
  refine (HH.out.2.2.1 AD cD BD dD W104 sD tD).mono ?_
  rintro e W105 ⟨rfl, hxx⟩
  have hD := DV.mk (Box4.mk b0 b1 b2 b3 bf bl) sD tD
  clear b0 b1 b2 b3 bf bl
  replace hD := hD.ext hxx
  replace hX := hX.trans hxx
  clear hxx
  obtain ⟨AD, cD, BD, dD, bD, sD, tD⟩ := hD
  obtain ⟨b0, b1, b2, b3, bf, bl⟩ := bD
  go_wp2_with fail
  refine (HH.out.2.2.2.1 AD cD BD dD W105 sD tD).mono ?_
  rintro e W106 ⟨AZ, cZ, BZ, dZ, rfl, sZ, tZ, hxx⟩
  have hD := DV.mk (Box4.mk b0 b1 b2 b3 bf bl) sD tD
  clear b0 b1 b2 b3 bf bl
  go_upto_region 5 with fail
  have hZ := DV.new W106 m2 q2 l2 b2 AZ cZ BZ dZ 25 sZ tZ
  have neDZ : gD ≠ W106.heap.size := Nat.ne_of_lt (Nat.lt_of_lt_of_le hD.lt hxx.size)
  have loZ := Nat.le_trans hX.size hxx.size
  replace hxx := Ext.trans hxx ((Ext.refl W106).alloc (Obj.cells #[.slice AZ m2.length cZ, .slice BZ q2.length dZ, .int .i64 l2, .bool b2] 25))
  obtain ⟨W107, hW⟩ : ∃ W, W = W106.alloc (Obj.cells #[.slice AZ m2.length cZ, .slice BZ q2.length dZ, .int .i64 l2, .bool b2] 25) := ⟨_, rfl⟩
  obtain ⟨gZ, hg⟩ : ∃ g, W106.heap.size = g := ⟨_, rfl⟩
  rw [← hW] at hZ hxx ⊢
  rw [hg] at hZ loZ neDZ ⊢
  clear hW hg sZ tZ
  replace hD := hD.ext hxx
  replace hX := hX.trans hxx
  clear hxx
  obtain ⟨AZ, cZ, BZ, dZ, bZ, sZ, tZ⟩ := hZ
  obtain ⟨b0, b1, b2, b3, bf, bl⟩ := bZ
  go_wp2_with fail
  refine (HH.out.2.2.2.2 AZ cZ BZ dZ W107 sZ tZ).mono ?_
  rintro e W108 ⟨A9, c9, B9, d9, rfl, s9, t9, hxx⟩
  have hZ := DV.mk (Box4.mk b0 b1 b2 b3 bf bl) sZ tZ
  clear b0 b1 b2 b3 bf bl
  replace hD := hD.ext hxx
  replace hZ := hZ.ext hxx
  replace hX := hX.trans hxx
  have h9 := hZ
  obtain ⟨A8, c8, B8, d8, b9, s8, t8⟩ := h9
  obtain ⟨b0, b1, b2, b3, bf, bl⟩ := b9
  go_upto_region 6 with fail
  clear b0 b1 b2 b3 bf bl s8 t8 hxx
  have h9 := hZ.set s9 t9 (l3) (b3)
  replace hD := hD.far hZ (by first | exact neDZ | exact Ne.symm neZD) (.slice A9 m3.length c9) (.slice B9 q3.length d9) (.int .i64 l3) (.bool b3)
  replace hX := hX.setB loZ (.slice A9 m3.length c9) (.slice B9 q3.length d9) (.int .i64 l3) (.bool b3)
  obtain ⟨W109, hW⟩ : ∃ W, W = setB W108 gZ (.slice A9 m3.length c9) (.slice B9 q3.length d9) (.int .i64 l3) (.bool b3) := ⟨_, rfl⟩
  rw [show ((((W108.setCell ⟨gZ, 0, none⟩ (.slice A9 m3.length c9)).setCell ⟨gZ, 1, none⟩ (.slice B9 q3.length d9)).setCell ⟨gZ, 2, none⟩ (.int .i64 l3)).setCell ⟨gZ, 3, none⟩ (.bool b3)) = setB W108 gZ (.slice A9 m3.length c9) (.slice B9 q3.length d9) (.int .i64 l3) (.bool b3) from rfl, ← hW]
  rw [← hW] at h9 hX hD
  replace hZ := h9
  clear h9 hW s9 t9
  obtain ⟨AD, cD, BD, dD, bD, sD, tD⟩ := hD
  obtain ⟨b0, b1, b2, b3, bf, bl⟩ := bD
  obtain ⟨AZ, cZ, BZ, dZ, bZ, sZ, tZ⟩ := hZ
  obtain ⟨o0, o1, o2, o3, of, ol⟩ := bZ
  obtain ⟨ad, y, rfl, hy, g1⟩ := sD.u_at j1
  obtain ⟨ad2, y2, rfl, hy2, g3⟩ := sZ.u_at j3
  rw [HF.out.2.1] at hy
  rw [HF.out.2.2.2.1] at hy2
  injection hy with hy
  injection hy2 with hy2
  subst hy hy2
  rw [add_lit_ ad 8] at g1
  rw [add_lit_ ad2 8] at g3
  go_wp2_with fail
  go_ret
  exact ⟨rfl, hX⟩
end Go.Proofs.Ytmmcbleoglgamaa
