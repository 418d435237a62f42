/-
  CacheImage, for every device, every address and every word: the law returns true. No condition.
-/
import Derived.Test.YtmmcbleoglgamaaAlive03
import Derived.Test.YtmmcbleoglgamaaImgP
import Derived.Test.YtmmcbleoglgamaaOpen
import Derived.Deep.RegionHeld3
namespace Go.Proofs.Ytmmcbleoglgamaa
open Go.ChangeShapes Go.WideShapes Go.ChangeAt Go.RowKit
theorem Sl.blk {w : World} {A : Option Addr} {n c : Nat} {xs : List Value} (h : Sl w A n c xs) (hx : 0 < xs.length) : ∀ ad, A = some ad → ad.block < w.heap.size := by
  rintro ad rfl
  obtain ⟨ad', e, hc⟩ := h.cells (by intro h0; rw [h0] at hx; simp at hx)
  injection e with e
  subst e
  have := block_lt_of_cell (hc 0 _ (List.getElem?_eq_getElem hx))
  rwa [block_of_add] at this
theorem same2x (x y : List Int) (h : x = y) (A B : Option Addr) (c d : Nat) (w : World) (hA : Sl w A x.length c (fU x)) (hB : Sl w B y.length d (fU y)) :
    Calls Try.prog 21 #[.slice A x.length c, .slice B y.length d] w fun e w' => e = .returned (.bool true) ∧ Ext w w' := by
  refine (same2_yes x y h A B c d w hA hB).mono ?_
  rintro e w1 ⟨rfl, hdn⟩
  exact ⟨rfl, hdn.ext⟩
set_option maxRecDepth 100000 in
set_option maxHeartbeats 12800000 in
theorem cacheImage_main (m : List Int) (q : List Dw) (a v : Int) (A : Option Addr) (c : Nat) (B : Option Addr) (d : Nat) (w : World) (hA : Sl w A m.length c (fU m)) (hB : Sl w B q.length d (fD q)) (hg' : (decide (2100 < m.length) || decide (2100 < q.length)) = false) (hd : devB m q (-1) false = true) (h40 : (q.length : Int) ≤ 40) (a0 : 0 ≤ a) (a1 : a < m.length) :
    Calls Try.prog 14 #[.agg #[.slice A m.length c, .slice B q.length d, .int .i64 (-1), .bool false], .int .i64 a, .int .u64 v] w fun e w' => e = .returned (.bool true) ∧ Ext w w' := by
  have h0 := devE_yes hd
  have H0 := Box4.new w (.slice A m.length c) (.slice B q.length d) (.int .i64 (-1)) (.bool false) 25
  have hasc := (devB_bd hd).2.2.2.2
  have hm31 := hA.max
  have hmle := hA.le
  unfold maxLen at hm31
  have h1 := fun A c B d W (ha : Sl W A m.length c (fU m)) (hb : Sl W B q.length d (fD q)) => dStore_ok (a := a) v hd a0 a1 A c B d W ha hb
  have h2 := fun A c B d W (ha : Sl W A m.length c (fU m)) (hb : Sl W B q.length d (fD q)) => dFlush_ok (a := a) hd a0 a1 A c B d W ha hb
  have h3 := fun A c B d W (ha : Sl W A m.length c (fU m)) (hb : Sl W B q.length d (fD q)) => dFence_ok hd A c B d W ha hb
  have h4 := fun A c B d W (ha : Sl W A m.length c (fU m)) (hb : Sl W B q.length d (fD q)) => dView_ok hd A c B d W ha hb
  rw [show stepD (m, q, -1, false) (.st a v) = (m, insD a v q, -1, false) from by simp [stepD, effD, spL]] at h1
  rw [show stepD (m, q, -1, false) (.fl a) = (m, fluD a q, -1, false) from by simp [stepD, effD, spL]] at h2
  rw [show stepD (m, q, -1, false) .fe = (fenM m q, fenD q, -1, false) from by simp [stepD, effD, spL]] at h3
  obtain ⟨F, hF⟩ : ∃ F, fenM m q = F := ⟨_, rfl⟩
  have hFl : F.length = m.length := by rw [← hF]; exact fenM_length q m
  have hf1 : ∀ (i : Nat) (x : Dw), i < m.length → q[cntLt i q]? = some x → x.1 = i → F[i]? = some (if x.2.2 then x.2.1 else m.getD i 0) := fun i x hi hx he => by
    rw [← hF]; exact fen_hit hasc hx he hi
  have hf2 : ∀ (i : Nat), i < m.length → fndD i q = false → F[i]? = some (m.getD i 0) := fun i hi hn => by
    rw [← hF]; exact fen_miss hasc hn hi
  have hf3 : ∀ i : Nat, cntLt ((i + 1 : Nat) : Int) q = cntLt i q + (if fndD i q then 1 else 0) := fun i => by
    rw [Int.natCast_succ]; exact cntLt_succ hasc
  have hf4 : cntLt 0 q = 0 := cntLt_zero (by decide) hasc
  have h5 : ∀ (k : Nat) (x : Dw), q[k]? = some x → ∀ A c B d W, Sl W A m.length c (fU m) → Sl W B (fluN (q.take k) q).length d (fD (fluN (q.take k) q)) → Calls Try.prog 39 #[.agg #[.slice A m.length c, .slice B (fluN (q.take k) q).length d, .int .i64 (-1), .bool false], .int .i64 x.1] W (RetV W (m, fluN (q.take (k + 1)) q, -1, false) 0) := fun k x hx A c B d W ha hb => by
    have hr := ascB_mem hasc x (List.mem_of_getElem? hx)
    have hd2 : devB m (fluN (q.take k) q) (-1) false = true := devB_mk (devB_bd hd).1 (by decide) (by decide) (by simp) (fluN_asc _ hasc)
    have := dFlush_ok (a := x.1) hd2 (by omega) hr.2 A c B d W ha hb
    rwa [show stepD (m, fluN (q.take k) q, -1, false) (.fl x.1) = (m, fluN (q.take (k + 1)) q, -1, false) from by simp [stepD, effD, spL, fluN_succ hx]] at this
  have h6 : ∀ A c B d W, Sl W A m.length c (fU m) → Sl W B (fluN q q).length d (fD (fluN q q)) → Calls Try.prog 41 #[.agg #[.slice A m.length c, .slice B (fluN q q).length d, .int .i64 (-1), .bool false]] W (RetV W (wrd m q, [], -1, false) 0) := fun A c B d W ha hb => by
    have hd2 : devB m (fluN q q) (-1) false = true := devB_mk (devB_bd hd).1 (by decide) (by decide) (by simp) (fluN_asc _ hasc)
    have := dFence_ok hd2 A c B d W ha hb
    rwa [show stepD (m, fluN q q, -1, false) .fe = (wrd m q, [], -1, false) from by simp [stepD, effD, spL, fluN_fen, fluN_img hasc rfl]] at this
  obtain ⟨e0, he0⟩ : ∃ e : List Dw, [] = e := ⟨_, rfl⟩
  have kz : ((e0.length : Int) == 0) = true := by rw [← he0]; rfl
  rw [he0] at h6
  obtain ⟨q1, hq1⟩ : ∃ x, insD a v q = x := ⟨_, rfl⟩
  obtain ⟨q2, hq2⟩ : ∃ x, fluD a q = x := ⟨_, rfl⟩
  obtain ⟨q3, hq3⟩ : ∃ x, fenD q = x := ⟨_, rfl⟩
  obtain ⟨V, hV⟩ : ∃ x, wrd m q = x := ⟨_, rfl⟩
  rw [hq1] at h1
  rw [hq2] at h2
  rw [hF, hq3] at h3
  rw [hV] at h4 h6
  have kF : ((F.length : Int) != m.length) = false := by rw [hFl]; simp
  have HH := Lib.hid (And.intro h1 (And.intro h2 (And.intro h3 (And.intro h4 (And.intro h5 h6)))))
  have HF := Lib.hid (And.intro hFl (And.intro hf1 (And.intro hf2 (And.intro hf3 hf4))))
  have Hs : ∀ A B c d W, Sl W A m.length c (fU m) → Sl W B m.length d (fU m) → Calls Try.prog 21 #[.slice A m.length c, .slice B m.length d] W fun e w' => e = .returned (.bool true) ∧ Ext W w' := fun A B c d W => same2x m m rfl A B c d W
  have HS := Lib.hid Hs
  clear h1 h2 h3 h4 h5 h6 hf1 hf2 hf3 hf4 hFl hF hq1 hq2 hq3 hV he0 hasc Hs
  have hD := DV.new w m q (-1) false A c B d 25 hA hB
  go_enter Try.func14, Try.ntmps14
  go_wp2_with fail
  refine (dGreat_any _ _ _ _ _ _ _ _ _).mono ?_
  rintro e w1 ⟨rfl, hx1⟩
  rw [hg']
  obtain ⟨b0, b1, b2, b3, bf, bl⟩ := H0.ext (w' := w1) (by repeat (first | assumption | exact Ext.refl _ | refine Ext.drewN ?_ _ | refine Ext.drew ?_ | refine Ext.alloc ?_ _ | refine Ext.trans ?_ (by assumption)))
  go_wp2_with fail
  refine (dRefCk_any m q (-1) false A c B d _ (hB.ext (by repeat (first | assumption | exact Ext.refl _ | refine Ext.drewN ?_ _ | refine Ext.drew ?_ | refine Ext.alloc ?_ _ | refine Ext.trans ?_ (by assumption))))).mono ?_
  rintro e w2 ⟨rfl, hx2⟩
  rw [h0]
  replace hD := hD.ext (hx1.trans hx2)
  have hX : Ext w w2 := Ext.trans ((Ext.refl w).alloc _) (hx1.trans hx2)
  clear b0 b1 b2 b3 bf bl hx1 hx2 H0
  obtain ⟨gD, hgD⟩ : ∃ g, w.heap.size = g := ⟨_, rfl⟩
  have loD : w.heap.size ≤ gD := Nat.le_of_eq hgD
  have HgD := Lib.hid hgD
  rw [hgD] at hD ⊢
  clear hgD
  obtain ⟨AD, cD, BD, dD, bD, sD, tD⟩ := hD
  obtain ⟨b0, b1, b2, b3, bf, bl⟩ := bD
  go_wp2_with fail
  refine (HH.out.1 AD cD BD dD w2 sD tD).mono ?_
  rintro e W101 ⟨AS, cS, BS, dS, rfl, sS, tS, hxx⟩
  have hD := DV.mk (Box4.mk b0 b1 b2 b3 bf bl) sD tD
  clear b0 b1 b2 b3 bf bl
  go_upto_region 4 with fail
  have hS := DV.new W101 m q1 ((-1)) false AS cS BS dS 25 sS tS
  have neDS : gD ≠ W101.heap.size := Nat.ne_of_lt (Nat.lt_of_lt_of_le hD.lt hxx.size)
  have loS := Nat.le_trans hX.size hxx.size
  replace hxx := Ext.trans hxx ((Ext.refl W101).alloc (Obj.cells #[.slice AS m.length cS, .slice BS q1.length dS, .int .i64 (-1), .bool false] 25))
  obtain ⟨W102, hW⟩ : ∃ W, W = W101.alloc (Obj.cells #[.slice AS m.length cS, .slice BS q1.length dS, .int .i64 (-1), .bool false] 25) := ⟨_, rfl⟩
  obtain ⟨gS, hg⟩ : ∃ g, W101.heap.size = g := ⟨_, rfl⟩
  rw [← hW] at hS hxx ⊢
  rw [hg] at hS loS neDS ⊢
  clear hW hg sS tS
  replace hD := hD.ext hxx
  replace hX := hX.trans hxx
  clear hxx
  obtain ⟨AD, cD, BD, dD, bD, sD, tD⟩ := hD
  obtain ⟨b0, b1, b2, b3, bf, bl⟩ := bD
  go_wp2_with fail
  refine (HH.out.2.1 AD cD BD dD W102 sD tD).mono ?_
  rintro e W103 ⟨AY, cY, BY, dY, rfl, sY, tY, hxx⟩
  have hD := DV.mk (Box4.mk b0 b1 b2 b3 bf bl) sD tD
  clear b0 b1 b2 b3 bf bl
  go_upto_region 5 with fail
  have hY := DV.new W103 m q2 ((-1)) false AY cY BY dY 25 sY tY
  have neDY : gD ≠ W103.heap.size := Nat.ne_of_lt (Nat.lt_of_lt_of_le hD.lt hxx.size)
  have neSY : gS ≠ W103.heap.size := Nat.ne_of_lt (Nat.lt_of_lt_of_le hS.lt hxx.size)
  have loY := Nat.le_trans hX.size hxx.size
  replace hxx := Ext.trans hxx ((Ext.refl W103).alloc (Obj.cells #[.slice AY m.length cY, .slice BY q2.length dY, .int .i64 (-1), .bool false] 25))
  obtain ⟨W104, hW⟩ : ∃ W, W = W103.alloc (Obj.cells #[.slice AY m.length cY, .slice BY q2.length dY, .int .i64 (-1), .bool false] 25) := ⟨_, rfl⟩
  obtain ⟨gY, hg⟩ : ∃ g, W103.heap.size = g := ⟨_, rfl⟩
  rw [← hW] at hY hxx ⊢
  rw [hg] at hY loY neDY neSY ⊢
  clear hW hg sY tY
  replace hD := hD.ext hxx
  replace hS := hS.ext hxx
  replace hX := hX.trans hxx
  clear hxx
  obtain ⟨AD, cD, BD, dD, bD, sD, tD⟩ := hD
  obtain ⟨b0, b1, b2, b3, bf, bl⟩ := bD
  go_wp2_with fail
  refine (HH.out.2.2.1 AD cD BD dD W104 sD tD).mono ?_
  rintro e W105 ⟨AZ, cZ, BZ, dZ, rfl, sZ, tZ, hxx⟩
  have hD := DV.mk (Box4.mk b0 b1 b2 b3 bf bl) sD tD
  clear b0 b1 b2 b3 bf bl
  go_upto_region 6 with fail
  have hZ := DV.new W105 F q3 ((-1)) false AZ cZ BZ dZ 25 sZ tZ
  have neDZ : gD ≠ W105.heap.size := Nat.ne_of_lt (Nat.lt_of_lt_of_le hD.lt hxx.size)
  have neSZ : gS ≠ W105.heap.size := Nat.ne_of_lt (Nat.lt_of_lt_of_le hS.lt hxx.size)
  have neYZ : gY ≠ W105.heap.size := Nat.ne_of_lt (Nat.lt_of_lt_of_le hY.lt hxx.size)
  have loZ := Nat.le_trans hX.size hxx.size
  replace hxx := Ext.trans hxx ((Ext.refl W105).alloc (Obj.cells #[.slice AZ F.length cZ, .slice BZ q3.length dZ, .int .i64 (-1), .bool false] 25))
  obtain ⟨W106, hW⟩ : ∃ W, W = W105.alloc (Obj.cells #[.slice AZ F.length cZ, .slice BZ q3.length dZ, .int .i64 (-1), .bool false] 25) := ⟨_, rfl⟩
  obtain ⟨gZ, hg⟩ : ∃ g, W105.heap.size = g := ⟨_, rfl⟩
  rw [← hW] at hZ hxx ⊢
  rw [hg] at hZ loZ neDZ neSZ neYZ ⊢
  clear hW hg sZ tZ
  replace hD := hD.ext hxx
  replace hS := hS.ext hxx
  replace hY := hY.ext hxx
  replace hX := hX.trans hxx
  clear hxx
  obtain ⟨AS, cS, BS, dS, bS, sS, tS⟩ := hS
  obtain ⟨b0, b1, b2, b3, bf, bl⟩ := bS
  obtain ⟨AD, cD, BD, dD, bD, sD, tD⟩ := hD
  obtain ⟨o0, o1, o2, o3, of, ol⟩ := bD
  go_wp2_with fail
  refine (HS.out AS AD cS cD W106 sS sD).mono ?_
  rintro e W107 ⟨rfl, hxx⟩
  have hS := DV.mk (Box4.mk b0 b1 b2 b3 bf bl) sS tS
  clear b0 b1 b2 b3 bf bl
  have hD := DV.mk (Box4.mk o0 o1 o2 o3 of ol) sD tD
  clear o0 o1 o2 o3 of ol
  replace hD := hD.ext hxx
  replace hS := hS.ext hxx
  replace hY := hY.ext hxx
  replace hZ := hZ.ext hxx
  replace hX := hX.trans hxx
  clear hxx
  obtain ⟨AY, cY, BY, dY, bY, sY, tY⟩ := hY
  obtain ⟨b0, b1, b2, b3, bf, bl⟩ := bY
  obtain ⟨AD, cD, BD, dD, bD, sD, tD⟩ := hD
  obtain ⟨o0, o1, o2, o3, of, ol⟩ := bD
  go_wp2_with fail
  refine (HS.out AY AD cY cD W107 sY sD).mono ?_
  rintro e W108 ⟨rfl, hxx⟩
  have hY := DV.mk (Box4.mk b0 b1 b2 b3 bf bl) sY tY
  clear b0 b1 b2 b3 bf bl
  have hD := DV.mk (Box4.mk o0 o1 o2 o3 of ol) sD tD
  clear o0 o1 o2 o3 of ol
  replace hD := hD.ext hxx
  replace hY := hY.ext hxx
  replace hZ := hZ.ext hxx
  replace hX := hX.trans hxx
  clear hxx
  clear hS hY
  have HR := Lib.hid (And.intro hD (And.intro hZ hX))
  obtain ⟨AD, cD, BD, dD, bD, sD, tD⟩ := hD
  obtain ⟨b0, b1, b2, b3, bf, bl⟩ := bD
  obtain ⟨AZ, cZ, BZ, dZ, bZ, sZ, tZ⟩ := hZ
  obtain ⟨o0, o1, o2, o3, of, ol⟩ := bZ
  clear hX sD tD sZ tZ
  go_wp2_with fail
  clear b0 b1 b2 b3 bf bl o0 o1 o2 o3 of ol
  go_loopw [13, 14] (fun k i wr => ∃ j : Nat, j ≤ m.length ∧ k = .int .i64 (cntLt j q) ∧ i = .int .i64 j ∧ DV wr gD m q (-1) false ∧ DV wr gZ F q3 (-1) false ∧ Ext w wr) (fun _ i _ => m.length - (intOf i).toNat)
  case atStart => exact ⟨0, Nat.zero_le _, by rw [show ((0 : Nat) : Int) = 0 from rfl, HF.out.2.2.2.2]; rfl, rfl, HR.out⟩
  case round =>
    clear HR
    obtain ⟨i, hi, rfl, rfl, hD, hZ, hX⟩ := hrel
    by_cases hlt : i < m.length
    · have HR := Lib.hid (And.intro hD (And.intro hZ hX))
      obtain ⟨AD, cD, BD, dD, ⟨b0, b1, b2, b3, bf, bl⟩, sD, tD⟩ := hD
      obtain ⟨AZ, cZ, BZ, dZ, ⟨o0, o1, o2, o3, of, ol⟩, sZ, tZ⟩ := hZ
      have hc40 := cntLt_le i q
      have hnx := HF.out.2.2.2.1 i
      obtain ⟨ad, x, rfl, hx, g0⟩ := sD.u_at hlt
      obtain ⟨ae, y, rfl, hy, e0⟩ := sZ.u_at (k := i) (by rw [HF.out.1]; exact hlt)
      have hgx : m.getD i 0 = x := by simp [List.getD, hx]
      have i1 : (0 : Int) ≤ i := by omega
      have i2 : (i : Int) < m.length := by omega
      have i3 : (i : Int) < F.length := by rw [HF.out.1]; omega
      by_cases hk : cntLt i q < q.length
      · obtain ⟨af, ⟨x1, x2, x3⟩, rfl, hat, d0, d1, d2⟩ := tD.d_at hk
        by_cases he : x1 = i
        · have hyv := HF.out.2.1 i _ hlt hat he
          rw [hy, hgx] at hyv
          have hfd : fndD i q = true := by
            cases hfd : fndD i q with
            | true => rfl
            | false => exact absurd he (fnd_not hfd hat)
          rw [hfd, if_pos rfl] at hnx
          obtain ⟨k, hkk⟩ : ∃ k, cntLt i q = k := ⟨_, rfl⟩
          rw [hkk] at hnx hk hc40 d0 d1 d2 ⊢
          have k1 : (0 : Int) ≤ k := by omega
          have k2 : (k : Int) < q.length := by omega
          have HN := Lib.hid hnx
          subst he
          cases x3 with
          | true =>
            obtain rfl : y = x2 := by simpa using hyv
            clear hnx hyv hfd hat hkk hx hy hgx sD tD sZ tZ hX
            go_wp2_with fail
            go_roundw
            case rel => exact ⟨i + 1, by omega, by rw [HN.out]; go_num, by go_num, HR.out⟩
            case measure => simp [intOf]; omega
          | false =>
            obtain rfl : y = x := by simpa using hyv
            clear hnx hyv hfd hat hkk hx hy hgx sD tD sZ tZ hX
            go_wp2_with fail
            go_roundw
            case rel => exact ⟨i + 1, by omega, by rw [HN.out]; go_num, by go_num, HR.out⟩
            case measure => simp [intOf]; omega
        · have hfd : fndD i q = false := by
            cases hfd : fndD i q with
            | false => rfl
            | true =>
              obtain ⟨u, hu1, hu2⟩ := fnd_at hfd
              rw [hat] at hu1
              injection hu1 with hu1
              subst hu1
              exact absurd hu2 he
          have hyv := HF.out.2.2.1 i hlt hfd
          rw [hy, hgx] at hyv
          obtain rfl : y = x := by simpa using hyv
          rw [hfd] at hnx
          obtain ⟨k, hkk⟩ : ∃ k, cntLt i q = k := ⟨_, rfl⟩
          rw [hkk] at hnx hk hc40 d0 d1 d2 ⊢
          have k1 : (0 : Int) ≤ k := by omega
          have k2 : (k : Int) < q.length := by omega
          have HN := Lib.hid hnx
          have hne : (x1 == (i : Int)) = false := by simpa using he
          clear hnx hyv hfd hat hkk hx hy hgx sD tD sZ tZ hX he
          go_wp2_with fail
          go_roundw
          case rel => exact ⟨i + 1, by omega, by rw [HN.out]; rfl, by go_num, HR.out⟩
          case measure => simp [intOf]; omega
      · have hfd : fndD i q = false := by
          cases hfd : fndD i q with
          | false => rfl
          | true =>
            obtain ⟨u, hu1, hu2⟩ := fnd_at hfd
            exact absurd (List.getElem?_eq_some_iff.1 hu1).1 hk
        have hyv := HF.out.2.2.1 i hlt hfd
        rw [hy, hgx] at hyv
        obtain rfl : y = x := by simpa using hyv
        rw [hfd] at hnx
        obtain ⟨k, hkk⟩ : ∃ k, cntLt i q = k := ⟨_, rfl⟩
        rw [hkk] at hnx hk hc40 ⊢
        have k2 : ¬ (k : Int) < q.length := by omega
        have HN := Lib.hid hnx
        clear hnx hyv hfd hkk hx hy hgx sD tD sZ tZ hX
        go_wp2_with fail
        go_roundw
        case rel => exact ⟨i + 1, by omega, by rw [HN.out]; rfl, by go_num, HR.out⟩
        case measure => simp [intOf]; omega
    · obtain rfl : i = m.length := by omega
      have HR := Lib.hid hZ
      clear hZ HR
      have HgZ := Lib.hid hD
      obtain ⟨AD, cD, BD, dD, ⟨b0, b1, b2, b3, bf, bl⟩, sD, tD⟩ := hD
      go_upto_region 19 with fail
      clear b0 b1 b2 b3 bf bl sD tD
      have hD := HgZ.out
      clear HgZ
      obtain ⟨AD, cD, BD, dD, bD, sD, tD⟩ := hD
      obtain ⟨b0, b1, b2, b3, bf, bl⟩ := bD
      go_upto_region 20 with fail
      have hL := DV.new wr m q ((-1)) false AD cD BD dD 25 sD tD
      have hD := DV.mk (Box4.mk b0 b1 b2 b3 bf bl) sD tD
      clear b0 b1 b2 b3 bf bl
      have neDL : gD ≠ wr.heap.size := Nat.ne_of_lt hD.lt
      have loL := hX.size
      have hxx := (Ext.refl wr).alloc (Obj.cells #[.slice AD m.length cD, .slice BD q.length dD, .int .i64 (-1), .bool false] 25)
      obtain ⟨W101, hW⟩ : ∃ W, W = wr.alloc (Obj.cells #[.slice AD m.length cD, .slice BD q.length dD, .int .i64 (-1), .bool false] 25) := ⟨_, rfl⟩
      obtain ⟨gL, hg⟩ : ∃ g, wr.heap.size = g := ⟨_, rfl⟩
      rw [← hW] at hL hxx ⊢
      rw [hg] at hL loL neDL ⊢
      clear hW hg sD tD
      replace hD := hD.ext hxx
      replace hX := hX.trans hxx
      clear hxx
      have HR := Lib.hid (And.intro hD (And.intro hL hX))
      obtain ⟨AD, cD, BD, dD, ⟨b0, b1, b2, b3, bf, bl⟩, sD, tD⟩ := hD
      clear hL hX
      go_wp2_with fail
      clear b0 b1 b2 b3 bf bl sD tD
      go_loopw [17] (fun i wr => ∃ k : Nat, k ≤ q.length ∧ i = .int .i64 k ∧ DV wr gD m q (-1) false ∧ DV wr gL m (fluN (q.take k) q) (-1) false ∧ Ext w wr) (fun i _ => q.length - (intOf i).toNat)
      case atStart => exact ⟨0, Nat.zero_le _, rfl, HR.out⟩
      case round =>
        clear HR
        obtain ⟨k, hk, rfl, hD, hL, hX⟩ := hrel
        by_cases hlt : k < q.length
        · obtain ⟨s, hs⟩ : ∃ s, fluN (q.take k) q = s := ⟨_, rfl⟩
          rw [hs] at hL
          have HD := Lib.hid hD
          obtain ⟨AD, cD, BD, dD, ⟨b0, b1, b2, b3, bf, bl⟩, sD, tD⟩ := hD
          have hblk := tD.blk (by rw [fD_length]; omega)
          obtain ⟨af, ⟨x1, x2, x3⟩, rfl, hat, d0, d1, d2⟩ := tD.d_at hlt
          have hc := HH.out.2.2.2.2.1 k _ hat
          obtain ⟨s2, hs2⟩ : ∃ s, fluN (q.take (k + 1)) q = s := ⟨_, rfl⟩
          rw [hs, hs2] at hc
          have HC := Lib.hid hc
          have HS2 := Lib.hid hs2
          have k1 : (0 : Int) ≤ k := by omega
          have k2 : (k : Int) < q.length := by omega
          have t1 := tD.le
          have t2 := tD.max
          unfold maxLen at t2
          have hb0 := hblk _ rfl
          have hb1 : (af.add (k * 3)).block < wr.heap.size := by rw [block_of_add]; exact hb0
          have hb2 : (af.add (k * 3)).block ≠ wr.heap.size := Nat.ne_of_lt hb1
          have hb3 := Ne.symm hb2
          have hb4 : gD ≠ wr.heap.size := Nat.ne_of_lt bl
          have hb5 := Ne.symm hb4
          clear hc hs2 hs hat sD tD hblk d1 d2
          have hD := HD.out
          clear HD
          go_upto_region 23 with fail
          have H9D := Lib.hid hD
          have H9L := Lib.hid hL
          have H9a := Lib.hid hX
          obtain ⟨AL, cL, BL, dL, bL, sL, tL⟩ := hL
          obtain ⟨o0, o1, o2, o3, of, ol⟩ := bL
          have n91 : gL ≠ wr.heap.size := Nat.ne_of_lt ol
          have n92 : wr.heap.size ≠ gL := Ne.symm n91
          clear hD hX
          have H9S := Lib.hid (And.intro o0 (And.intro o1 (And.intro o2 (And.intro o3 (And.intro b1 d0)))))
          go_region_held3 (fun w' => w'.cell? ⟨gL, 0, none⟩ = some (.slice AL m.length cL) ∧ w'.cell? ⟨gL, 1, none⟩ = some (.slice BL s.length dL) ∧ w'.cell? ⟨gL, 2, none⟩ = some (.int .i64 (-1)) ∧ w'.cell? ⟨gL, 3, none⟩ = some (.bool false) ∧ w'.cell? (⟨gD, 1, none⟩) = some (.slice (some af) q.length dD) ∧ w'.cell? (af.add (k * 3)) = some (.int .i64 x1)) (go_keep) ((go_at_call 39; refine (HC.out AL cL BL dL _ (sL.ext (by repeat (first | assumption | exact Ext.refl _ | refine Ext.drewN ?_ _ | refine Ext.drew ?_ | refine Ext.alloc ?_ _ | refine Ext.trans ?_ (by assumption)))) (tL.ext (by repeat (first | assumption | exact Ext.refl _ | refine Ext.drewN ?_ _ | refine Ext.drew ?_ | refine Ext.alloc ?_ _ | refine Ext.trans ?_ (by assumption))))).mono ?_; rintro e wn ⟨AN, cN, BN, dN, rfl, sN, tN, hxx⟩; have hxw : Ext wr wn := (by repeat (first | assumption | exact Ext.refl _ | refine Ext.drewN ?_ _ | refine Ext.drew ?_ | refine Ext.alloc ?_ _ | refine Ext.trans ?_ (by assumption))); have y0 := hxw.cell H9S.out.1; have y1 := hxw.cell H9S.out.2.1; have y2 := hxw.cell H9S.out.2.2.1; have y3 := hxw.cell H9S.out.2.2.2.1; have y4 := hxw.cell H9S.out.2.2.2.2.1; have y5 := hxw.cell H9S.out.2.2.2.2.2; clear hxw; (first | (refine (have hz : Box4 wn wr.heap.size (.slice none 0 0) (.slice none 0 0) (.int .i64 0) (.bool false) := ?_; ?_); exact Box4.ext (Box4.new wr _ _ _ _ _) (Ext.trans (Ext.drew (Ext.refl _)) hxx); obtain ⟨z0, z1, z2, z3, zf, zl⟩ := hz; have zf0 := zf 0; have zf1 := zf 1; have zf2 := zf 2; have zf3 := zf 3) | skip)))
          all_goals
            first
              | (refine (have hz : DV (wn.alloc (Obj.cells #[.slice AN m.length cN, .slice BN s2.length dN, .int .i64 (-1), .bool false] 25)) wn.heap.size m s2 ((-1)) false ∧ Ext wr (wn.alloc (Obj.cells #[.slice AN m.length cN, .slice BN s2.length dN, .int .i64 (-1), .bool false] 25)) ∧ wr.heap.size ≤ wn.heap.size := ?_; ?_)
                 · exact ⟨DV.new wn m s2 ((-1)) false AN cN BN dN 25 sN tN, (((Ext.refl _).drew).trans hxx).alloc _, (((Ext.refl _).drew).trans hxx).size⟩
                 have HU := Lib.hid hz
                 clear hz o0 o1 o2 o3 of ol sL tL hxx sN tN n91 n92 H9S y0 y1 y2 y3 y4 y5
                 go_upto_region 24 with fail
                 obtain ⟨W101, hW5⟩ : ∃ W, W = wn.alloc (Obj.cells #[.slice AN m.length cN, .slice BN s2.length dN, .int .i64 (-1), .bool false] 25) := ⟨_, rfl⟩
                 obtain ⟨gN, hgU⟩ : ∃ g, wn.heap.size = g := ⟨_, rfl⟩
                 obtain ⟨hN, hxU, lU⟩ := HU.out
                 rw [← hW5] at hN hxU ⊢
                 rw [hgU] at hN lU ⊢
                 clear hW5 hgU HU)
              | (refine (have hz : DV (setB wn wr.heap.size (.slice AN m.length cN) (.slice BN s2.length dN) (.int .i64 (-1)) (.bool false)) wr.heap.size m s2 ((-1)) false ∧ Ext wr (setB wn wr.heap.size (.slice AN m.length cN) (.slice BN s2.length dN) (.int .i64 (-1)) (.bool false)) ∧ wr.heap.size ≤ wr.heap.size := ?_; ?_)
                 · exact ⟨(DV.mk (q := []) (m := []) (Box4.mk z0 z1 z2 z3 zf zl) (Sl.nil_ _) (Sl.nil_ _)).set sN tN ((-1)) (false), Ext.setB (Ext.trans (Ext.drew ((Ext.refl _).alloc _)) hxx) (Nat.le_refl _) _ _ _ _, Nat.le_refl _⟩
                 have HU := Lib.hid hz
                 clear hz o0 o1 o2 o3 of ol sL tL sN tN hxx n91 n92 H9S y0 y1 y2 y3 y4 y5
                 go_upto_region 24 with fail
                 clear z0 z1 z2 z3 zf zl zf0 zf1 zf2 zf3
                 obtain ⟨W101, hW5⟩ : ∃ W, W = setB wn wr.heap.size (.slice AN m.length cN) (.slice BN s2.length dN) (.int .i64 (-1)) (.bool false) := ⟨_, rfl⟩
                 obtain ⟨gN, hgU⟩ : ∃ g, wr.heap.size = g := ⟨_, rfl⟩
                 rw [show ((((wn.setCell ⟨wr.heap.size, 0, none⟩ (.slice AN m.length cN)).setCell ⟨wr.heap.size, 1, none⟩ (.slice BN s2.length dN)).setCell ⟨wr.heap.size, 2, none⟩ (.int .i64 (-1))).setCell ⟨wr.heap.size, 3, none⟩ (.bool false)) = setB wn wr.heap.size (.slice AN m.length cN) (.slice BN s2.length dN) (.int .i64 (-1)) (.bool false) from rfl, ← hW5]
                 obtain ⟨hN, hxU, -⟩ := HU.out
                 rw [← hW5] at hN hxU
                 have lU := Nat.le_of_eq hgU
                 rw [hgU] at hN ⊢
                 clear hW5 hgU HU)
            have hD := H9D.out.ext hxU
            have neDN : gD ≠ gN := by have := H9D.out.lt; omega
            have hL := H9L.out.ext hxU
            have neLN : gL ≠ gN := by have := H9L.out.lt; omega
            have loN := Nat.le_trans H9a.out.size lU
            have hX := H9a.out.trans hxU
            clear hxU lU H9a H9D H9L
            clear b0 b1 b2 b3 bf bl d0 hb0 hb1 hb2 hb3 hb4 hb5
            have h9 := hL
            have h7 := hN
            obtain ⟨A8, c8, B8, d8, b9, s8, t8⟩ := h9
            obtain ⟨b0, b1, b2, b3, bf, bl⟩ := b9
            obtain ⟨A9, c9, B9, d9, b7, s9, t9⟩ := h7
            obtain ⟨o0, o1, o2, o3, of, ol⟩ := b7
            go_upto_region 22 with fail
            clear b0 b1 b2 b3 bf bl s8 t8 o0 o1 o2 o3 of ol
            have h9 := hL.set s9 t9 ((-1)) (false)
            replace hD := hD.far hL (by first | exact neDL | exact Ne.symm neLD) (.slice A9 m.length c9) (.slice B9 s2.length d9) (.int .i64 (-1)) (.bool false)
            replace hN := hN.far hL (by first | exact neNL | exact Ne.symm neLN) (.slice A9 m.length c9) (.slice B9 s2.length d9) (.int .i64 (-1)) (.bool false)
            replace hX := hX.setB loL (.slice A9 m.length c9) (.slice B9 s2.length d9) (.int .i64 (-1)) (.bool false)
            obtain ⟨W102, hW⟩ : ∃ W, W = setB W101 gL (.slice A9 m.length c9) (.slice B9 s2.length d9) (.int .i64 (-1)) (.bool false) := ⟨_, rfl⟩
            rw [show ((((W101.setCell ⟨gL, 0, none⟩ (.slice A9 m.length c9)).setCell ⟨gL, 1, none⟩ (.slice B9 s2.length d9)).setCell ⟨gL, 2, none⟩ (.int .i64 (-1))).setCell ⟨gL, 3, none⟩ (.bool false)) = setB W101 gL (.slice A9 m.length c9) (.slice B9 s2.length d9) (.int .i64 (-1)) (.bool false) from rfl, ← hW]
            rw [← hW] at h9 hX hD hN
            replace hL := h9
            clear h9 hW s9 t9
            go_wp2_with fail
            go_roundw
            case rel => exact ⟨k + 1, by omega, by go_num, hD, by rw [HS2.out]; exact hL, hX⟩
            case measure => simp [intOf]; omega
        · obtain rfl : k = q.length := by omega
          rw [List.take_length] at hL
          obtain ⟨s, hs⟩ : ∃ s, fluN q q = s := ⟨_, rfl⟩
          have hf := HH.out.2.2.2.2.2
          rw [hs] at hL hf
          have HFe := Lib.hid hf
          clear hf hs
          have HgZ := Lib.hid hD
          obtain ⟨AD, cD, BD, dD, ⟨b0, b1, b2, b3, bf, bl⟩, sD, tD⟩ := hD
          go_upto_region 27 with fail
          clear b0 b1 b2 b3 bf bl sD tD
          have hD := HgZ.out
          clear HgZ
          obtain ⟨AL, cL, BL, dL, bL, sL, tL⟩ := hL
          obtain ⟨b0, b1, b2, b3, bf, bl⟩ := bL
          go_wp2_with fail
          refine (HFe.out AL cL BL dL wr sL tL).mono ?_
          rintro e W101 ⟨AT, cT, BT, dT, rfl, sT, tT, hxx⟩
          have hL := DV.mk (Box4.mk b0 b1 b2 b3 bf bl) sL tL
          clear b0 b1 b2 b3 bf bl
          go_upto_region 28 with fail
          have hT := DV.new W101 V e0 ((-1)) false AT cT BT dT 25 sT tT
          have neDT : gD ≠ W101.heap.size := Nat.ne_of_lt (Nat.lt_of_lt_of_le hD.lt hxx.size)
          have neLT : gL ≠ W101.heap.size := Nat.ne_of_lt (Nat.lt_of_lt_of_le hL.lt hxx.size)
          have loT := Nat.le_trans hX.size hxx.size
          replace hxx := Ext.trans hxx ((Ext.refl W101).alloc (Obj.cells #[.slice AT V.length cT, .slice BT e0.length dT, .int .i64 (-1), .bool false] 25))
          obtain ⟨W102, hW⟩ : ∃ W, W = W101.alloc (Obj.cells #[.slice AT V.length cT, .slice BT e0.length dT, .int .i64 (-1), .bool false] 25) := ⟨_, rfl⟩
          obtain ⟨gT, hg⟩ : ∃ g, W101.heap.size = g := ⟨_, rfl⟩
          rw [← hW] at hT hxx ⊢
          rw [hg] at hT loT neDT neLT ⊢
          clear hW hg sT tT
          replace hD := hD.ext hxx
          replace hL := hL.ext hxx
          replace hX := hX.trans hxx
          clear hxx
          obtain ⟨AD, cD, BD, dD, bD, sD, tD⟩ := hD
          obtain ⟨b0, b1, b2, b3, bf, bl⟩ := bD
          go_wp2_with fail
          refine (HH.out.2.2.2.1 AD cD BD dD W102 sD tD).mono ?_
          rintro e W103 ⟨AV, cV, rfl, -, hV1, hxx⟩
          have hD := DV.mk (Box4.mk b0 b1 b2 b3 bf bl) sD tD
          clear b0 b1 b2 b3 bf bl
          replace hD := hD.ext hxx
          replace hL := hL.ext hxx
          replace hT := hT.ext hxx
          replace hX := hX.trans hxx
          clear hxx
          obtain ⟨AT, cT, BT, dT, bT, sT, tT⟩ := hT
          obtain ⟨b0, b1, b2, b3, bf, bl⟩ := bT
          go_wp2_with fail
          refine (same2x V V rfl AT AV cT cV _ sT hV1).mono ?_
          rintro e w8 ⟨rfl, hx8⟩
          go_wp2_with fail
          refine (alive03_any _).mono ?_
          rintro e w9 ⟨rfl, hx9⟩
          go_wp2_with fail
          go_ret
          exact ⟨rfl, hX.trans (hx8.trans hx9)⟩
set_option maxRecDepth 100000 in
set_option maxHeartbeats 6400000 in
theorem cacheImage_any (m : List Int) (q : List Dw) (left : Int) (down : Bool) (a v : Int) (A : Option Addr) (c : Nat) (B : Option Addr) (d : Nat) (w : World) (hA : Sl w A m.length c (fU m)) (hB : Sl w B q.length d (fD q)) :
    Calls Try.prog 14 #[.agg #[.slice A m.length c, .slice B q.length d, .int .i64 left, .bool down], .int .i64 a, .int .u64 v] w fun e w' => e = .returned (.bool true) ∧ Ext w w' := by
  by_cases hg : (decide (2100 < m.length) || decide (2100 < q.length)) = true
  · go_enter Try.func14, Try.ntmps14
    go_wp2_with fail
    refine (dGreat_any _ _ _ _ _ _ _ _ _).mono ?_
    rintro e w1 ⟨rfl, hx1⟩
    rw [hg]
    go_wp2_with fail
    refine (alive03_any _).mono ?_
    rintro e w2 ⟨rfl, hx2⟩
    go_wp2_with fail
    go_ret
    exact ⟨rfl, (by repeat (first | assumption | exact Ext.refl _ | refine Ext.drewN ?_ _ | refine Ext.drew ?_ | refine Ext.alloc ?_ _ | refine Ext.trans ?_ (by assumption)))⟩
  have hg' : (decide (2100 < m.length) || decide (2100 < q.length)) = false := by simpa using hg
  clear hg
  have H0 := Box4.new w (.slice A m.length c) (.slice B q.length d) (.int .i64 left) (.bool down) 25
  by_cases hd : devB m q left down = true
  rotate_left
  · have h0 := devE_no (by simpa using hd)
    go_enter Try.func14, Try.ntmps14
    go_wp2_with fail
    refine (dGreat_any _ _ _ _ _ _ _ _ _).mono ?_
    rintro e w1 ⟨rfl, hx1⟩
    rw [hg']
    obtain ⟨b0, b1, b2, b3, bf, bl⟩ := H0.ext (w' := w1) (by repeat (first | assumption | exact Ext.refl _ | refine Ext.drewN ?_ _ | refine Ext.drew ?_ | refine Ext.alloc ?_ _ | refine Ext.trans ?_ (by assumption)))
    go_wp2_with fail
    refine (dRefCk_any m q left down A c B d _ (hB.ext (by repeat (first | assumption | exact Ext.refl _ | refine Ext.drewN ?_ _ | refine Ext.drew ?_ | refine Ext.alloc ?_ _ | refine Ext.trans ?_ (by assumption))))).mono ?_
    rintro e w2 ⟨rfl, hx2⟩
    rw [h0]
    go_wp2_with fail
    refine (alive03_any _).mono ?_
    rintro e w3 ⟨rfl, hx3⟩
    go_wp2_with fail
    go_ret
    exact ⟨rfl, (by repeat (first | assumption | exact Ext.refl _ | refine Ext.drewN ?_ _ | refine Ext.drew ?_ | refine Ext.alloc ?_ _ | refine Ext.trans ?_ (by assumption)))⟩
  have h0 := devE_yes hd
  by_cases hr : left = -1
  rotate_left
  · have hn : (left != -1) = true := by simpa using hr
    clear hr
    go_enter Try.func14, Try.ntmps14
    go_wp2_with fail
    refine (dGreat_any _ _ _ _ _ _ _ _ _).mono ?_
    rintro e w1 ⟨rfl, hx1⟩
    rw [hg']
    obtain ⟨b0, b1, b2, b3, bf, bl⟩ := H0.ext (w' := w1) (by repeat (first | assumption | exact Ext.refl _ | refine Ext.drewN ?_ _ | refine Ext.drew ?_ | refine Ext.alloc ?_ _ | refine Ext.trans ?_ (by assumption)))
    go_wp2_with fail
    refine (dRefCk_any m q left down A c B d _ (hB.ext (by repeat (first | assumption | exact Ext.refl _ | refine Ext.drewN ?_ _ | refine Ext.drew ?_ | refine Ext.alloc ?_ _ | refine Ext.trans ?_ (by assumption))))).mono ?_
    rintro e w2 ⟨rfl, hx2⟩
    rw [h0]
    clear b0 b1 b2 b3 bf bl
    obtain ⟨b0, b1, b2, b3, bf, bl⟩ := H0.ext (w' := w2) (by repeat (first | assumption | exact Ext.refl _ | refine Ext.drewN ?_ _ | refine Ext.drew ?_ | refine Ext.alloc ?_ _ | refine Ext.trans ?_ (by assumption)))
    go_wp2_with fail
    refine (alive03_any _).mono ?_
    rintro e w3 ⟨rfl, hx3⟩
    go_wp2_with fail
    go_ret
    exact ⟨rfl, (by repeat (first | assumption | exact Ext.refl _ | refine Ext.drewN ?_ _ | refine Ext.drew ?_ | refine Ext.alloc ?_ _ | refine Ext.trans ?_ (by assumption)))⟩
  have HL := Lib.hid hr
  clear hr
  have hlb : (left != -1) = false := by simp; exact HL.out
  by_cases hr : (q.length : Int) ≤ 40
  rotate_left
  · have hn : (40 : Int) < q.length := by omega
    clear hr
    go_enter Try.func14, Try.ntmps14
    go_wp2_with fail
    refine (dGreat_any _ _ _ _ _ _ _ _ _).mono ?_
    rintro e w1 ⟨rfl, hx1⟩
    rw [hg']
    obtain ⟨b0, b1, b2, b3, bf, bl⟩ := H0.ext (w' := w1) (by repeat (first | assumption | exact Ext.refl _ | refine Ext.drewN ?_ _ | refine Ext.drew ?_ | refine Ext.alloc ?_ _ | refine Ext.trans ?_ (by assumption)))
    go_wp2_with fail
    refine (dRefCk_any m q left down A c B d _ (hB.ext (by repeat (first | assumption | exact Ext.refl _ | refine Ext.drewN ?_ _ | refine Ext.drew ?_ | refine Ext.alloc ?_ _ | refine Ext.trans ?_ (by assumption))))).mono ?_
    rintro e w2 ⟨rfl, hx2⟩
    rw [h0]
    clear b0 b1 b2 b3 bf bl
    obtain ⟨b0, b1, b2, b3, bf, bl⟩ := H0.ext (w' := w2) (by repeat (first | assumption | exact Ext.refl _ | refine Ext.drewN ?_ _ | refine Ext.drew ?_ | refine Ext.alloc ?_ _ | refine Ext.trans ?_ (by assumption)))
    go_wp2_with fail
    refine (alive03_any _).mono ?_
    rintro e w3 ⟨rfl, hx3⟩
    go_wp2_with fail
    go_ret
    exact ⟨rfl, (by repeat (first | assumption | exact Ext.refl _ | refine Ext.drewN ?_ _ | refine Ext.drew ?_ | refine Ext.alloc ?_ _ | refine Ext.trans ?_ (by assumption)))⟩
  have hr5 := hr
  clear hr
  by_cases hr : 0 ≤ a
  rotate_left
  · have hn : a < 0 := by omega
    clear hr
    go_enter Try.func14, Try.ntmps14
    go_wp2_with fail
    refine (dGreat_any _ _ _ _ _ _ _ _ _).mono ?_
    rintro e w1 ⟨rfl, hx1⟩
    rw [hg']
    obtain ⟨b0, b1, b2, b3, bf, bl⟩ := H0.ext (w' := w1) (by repeat (first | assumption | exact Ext.refl _ | refine Ext.drewN ?_ _ | refine Ext.drew ?_ | refine Ext.alloc ?_ _ | refine Ext.trans ?_ (by assumption)))
    go_wp2_with fail
    refine (dRefCk_any m q left down A c B d _ (hB.ext (by repeat (first | assumption | exact Ext.refl _ | refine Ext.drewN ?_ _ | refine Ext.drew ?_ | refine Ext.alloc ?_ _ | refine Ext.trans ?_ (by assumption))))).mono ?_
    rintro e w2 ⟨rfl, hx2⟩
    rw [h0]
    clear b0 b1 b2 b3 bf bl
    obtain ⟨b0, b1, b2, b3, bf, bl⟩ := H0.ext (w' := w2) (by repeat (first | assumption | exact Ext.refl _ | refine Ext.drewN ?_ _ | refine Ext.drew ?_ | refine Ext.alloc ?_ _ | refine Ext.trans ?_ (by assumption)))
    go_wp2_with fail
    refine (alive03_any _).mono ?_
    rintro e w3 ⟨rfl, hx3⟩
    go_wp2_with fail
    go_ret
    exact ⟨rfl, (by repeat (first | assumption | exact Ext.refl _ | refine Ext.drewN ?_ _ | refine Ext.drew ?_ | refine Ext.alloc ?_ _ | refine Ext.trans ?_ (by assumption)))⟩
  have hr6 := hr
  clear hr
  by_cases hr : a < m.length
  rotate_left
  · have hn : (m.length : Int) ≤ a := by omega
    clear hr
    go_enter Try.func14, Try.ntmps14
    go_wp2_with fail
    refine (dGreat_any _ _ _ _ _ _ _ _ _).mono ?_
    rintro e w1 ⟨rfl, hx1⟩
    rw [hg']
    obtain ⟨b0, b1, b2, b3, bf, bl⟩ := H0.ext (w' := w1) (by repeat (first | assumption | exact Ext.refl _ | refine Ext.drewN ?_ _ | refine Ext.drew ?_ | refine Ext.alloc ?_ _ | refine Ext.trans ?_ (by assumption)))
    go_wp2_with fail
    refine (dRefCk_any m q left down A c B d _ (hB.ext (by repeat (first | assumption | exact Ext.refl _ | refine Ext.drewN ?_ _ | refine Ext.drew ?_ | refine Ext.alloc ?_ _ | refine Ext.trans ?_ (by assumption))))).mono ?_
    rintro e w2 ⟨rfl, hx2⟩
    rw [h0]
    clear b0 b1 b2 b3 bf bl
    obtain ⟨b0, b1, b2, b3, bf, bl⟩ := H0.ext (w' := w2) (by repeat (first | assumption | exact Ext.refl _ | refine Ext.drewN ?_ _ | refine Ext.drew ?_ | refine Ext.alloc ?_ _ | refine Ext.trans ?_ (by assumption)))
    go_wp2_with fail
    refine (alive03_any _).mono ?_
    rintro e w3 ⟨rfl, hx3⟩
    go_wp2_with fail
    go_ret
    exact ⟨rfl, (by repeat (first | assumption | exact Ext.refl _ | refine Ext.drewN ?_ _ | refine Ext.drew ?_ | refine Ext.alloc ?_ _ | refine Ext.trans ?_ (by assumption)))⟩
  have hr7 := hr
  clear hr
  clear H0 h0 hlb
  obtain rfl : left = -1 := HL.out
  have hdn := (devB_bd hd).2.2.2.1
  obtain rfl : down = false := by cases down with | false => rfl | true => exact absurd (hdn rfl) (by decide)
  exact cacheImage_main m q a v A c B d w hA hB hg' hd (by assumption) (by assumption) (by assumption)
set_option maxRecDepth 100000 in
theorem cacheImage_lifted (os : Os) (started : os.Started) (H : Type) (enc : TypeId × Value → H) :
    ReturnsInHanded {} Try.checked os 14 .any (Rows.cacheImageSpec.pre6 enc Try.prog Try.f14 Rows.cacheImageRow.domain false) (Rows.cacheImageSpec.post enc Try.prog Try.f14 false true false false) := by
  refine returnsInHanded_of_change (C := Try.checked) own_knob started (by kernel_rfl) Try.func14
    (ChangeSpec.witness6 (enc := enc) (C := Try.checked) false ⟨#[], #[.agg #[.slice none 0 0, .slice none 0 0, .int .i64 0, .bool false], .int .i64 0, .int .u64 0], []⟩ 8 (by kernel_rfl) (by kernel_rfl) (by kernel_rfl) (by kernel_rfl)) ?_
  intro W base args ds gs before hval0 hW hcnd _
  have hval : ∀ (j : Nat) t v, Try.f14.params[j]? = some t → args[j]? = some v → Value.okWide Try.prog W .any base t v := hval0
  have hW' := hW
  obtain ⟨p, q, hA0, hV, rfl, hfz, hnd⟩ := hW
  have hA : DataW.TrodAll enc Try.prog W 0 (fun _ => true) true Try.f14.params.toList args.toList ds p := hA0
  rw [Try.params14] at hA hval
  obtain ⟨v0, vs0, d0, ds0, p0, q0, hargs, rfl, rfl, h0, r0⟩ := trodAll_cons hA
  obtain ⟨v1, vs1, d1, ds1, p1, q1, rfl, rfl, rfl, h1, r1⟩ := trodAll_cons r0
  obtain ⟨v2, vs2, d2, ds2, p2, q2, rfl, rfl, rfl, h2, r2⟩ := trodAll_cons r1
  obtain ⟨rfl, rfl, rfl⟩ := trodAll_nil r2
  obtain rfl : args = #[v0, v1, v2] := by cases args; simp_all
  obtain ⟨rfl, rfl⟩ := trodVars_none hV
  obtain ⟨A0, c0, m0, B0, k0, ds0, left0, down0, rfl, hS0, wA0, hB0, wB0, wl0⟩ := op_V (hval 0 25 v0 rfl rfl) h0
  obtain ⟨x1, rfl, wx1⟩ := op_i (hval 1 3 v1 rfl rfl) h1
  obtain ⟨x2, rfl, wx2⟩ := op_u (hval 2 26 v2 rfl rfl) h2
  clear hA0 hval0 hval hA
  refine (cacheImage_any m0 ds0 left0 down0 x1 x2 A0 c0 B0 k0 W hS0 hB0).mono fun e W' ⟨he, hx⟩ => ?_
  subst he
  exact ⟨_, rfl, post_law laid_out (by kernel_rfl) hW' rfl rfl rfl Try.underlying4 hx⟩
theorem cacheImage_holds : Rows.CacheImageSaid :=
  OpenClaim.holds_of_wide 14 Try.f14 rfl rfl rfl rfl rfl rfl rfl ⟨rfl, rfl, rfl, rfl, rfl⟩ rfl rfl rfl rfl rfl (by kernel_rfl) Try.func14 (by kernel_rfl)
    (of_decide_eq_true (by kernel_rfl)) (by unfold Func.isWrapper; first | (rw [if_pos (by decide +kernel)]; kernel_rfl) | (rw [if_neg (by decide +kernel)]; exact ⟨rfl, rfl⟩))
    (fun os started H enc _ => cacheImage_lifted os started H enc)
end Go.Proofs.Ytmmcbleoglgamaa
