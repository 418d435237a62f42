/-
  CrashMasks, for every device, two masks and a number: the law returns true. No condition.
-/
import Derived.Test.YtmmcbleoglgamaaAlive04
import Derived.Test.YtmmcbleoglgamaaCrMask
import Derived.Test.YtmmcbleoglgamaaOpen
namespace Go.Proofs.Ytmmcbleoglgamaa
open Go.ChangeShapes Go.WideShapes Go.ChangeAt Go.RowKit

set_option maxRecDepth 100000 in
set_option maxHeartbeats 6400000 in
theorem crashMasks_any (m : List Int) (q : List Dw) (left : Int) (down : Bool) (ma mb n : Int) (A : Option Addr) (c : Nat) (B : Option Addr) (d : Nat) (w : World) (hA : Sl w A m.length c (fU m)) (hB : Sl w B q.length d (fD q)) (hma : InU ma) (hmb : InU mb) :
    Calls Try.prog 6 #[.agg #[.slice A m.length c, .slice B q.length d, .int .i64 left, .bool down], .int .u64 ma, .int .u64 mb, .int .i64 n] w fun e w' => e = .returned (.bool true) ∧ Ext w w' := by
  by_cases hg : (decide (2100 < m.length) || decide (2100 < q.length)) = true
  · go_enter Try.func6, Try.ntmps6
    go_wp2_with fail
    refine (dGreat_any _ _ _ _ _ _ _ _ _).mono ?_
    rintro e w1 ⟨rfl, hx1⟩
    rw [hg]
    go_wp2_with fail
    refine (alive04_any _).mono ?_
    rintro e w2 ⟨rfl, hx2⟩
    go_wp2_with fail
    go_ret
    exact ⟨rfl, (by repeat (first | assumption | exact Ext.refl _ | refine Ext.drewN ?_ _ | refine Ext.drew ?_ | refine Ext.alloc ?_ _ | refine Ext.trans ?_ (by assumption)))⟩
  have hg' : (decide (2100 < m.length) || decide (2100 < q.length)) = false := by simpa using hg
  have hlen : m.length ≤ 2100 ∧ q.length ≤ 2100 := by simp at hg; omega
  clear hg
  have H0 := Box4.new w (.slice A m.length c) (.slice B q.length d) (.int .i64 left) (.bool down) 25
  by_cases hdn : devB m q left down = true ∧ ¬ n < -1 ∧ ¬ 1000 < n
  case neg =>
    have hd : ∃ e, devE m q left down = e ∧ ((e != 0) = true ∨ (e = 0 ∧ n < -1) ∨ (e = 0 ∧ ¬ n < -1 ∧ 1000 < n)) := by
      refine ⟨_, rfl, ?_⟩
      cases hd : devB m q left down with
      | false => rw [devE_no hd]; exact .inl (by decide)
      | true =>
        rw [devE_yes hd]
        by_cases h1 : n < -1
        · exact .inr (.inl ⟨rfl, h1⟩)
        · by_cases h2 : 1000 < n
          · exact .inr (.inr ⟨rfl, h1, h2⟩)
          · exact absurd ⟨hd, h1, h2⟩ hdn
    obtain ⟨er, h0, hd⟩ := hd
    have HH := Lib.hid (And.intro h0 hg')
    clear hdn h0 hg'
    go_enter Try.func6, Try.ntmps6
    go_wp2_with fail
    refine (dGreat_any _ _ _ _ _ _ _ _ _).mono ?_
    rintro e w1 ⟨rfl, hx1⟩
    rw [HH.out.2]
    obtain ⟨b0, b1, b2, b3, bf, bl⟩ := H0.ext (w' := w1) (by repeat (first | assumption | exact Ext.refl _ | refine Ext.drewN ?_ _ | refine Ext.drew ?_ | refine Ext.alloc ?_ _ | refine Ext.trans ?_ (by assumption)))
    go_wp2_with fail
    refine (dRefCk_any m q left down A c B d _ (hB.ext (by repeat (first | assumption | exact Ext.refl _ | refine Ext.drewN ?_ _ | refine Ext.drew ?_ | refine Ext.alloc ?_ _ | refine Ext.trans ?_ (by assumption))))).mono ?_
    rintro e w2 ⟨rfl, hx2⟩
    rw [HH.out.1]
    rcases hd with hd | ⟨rfl, hd⟩ | ⟨rfl, hd1, hd⟩
    all_goals
      go_wp2_with fail
      refine (alive04_any _).mono ?_
      rintro e w3 ⟨rfl, hx3⟩
      go_wp2_with fail
      go_ret
      exact ⟨rfl, (by repeat (first | assumption | exact Ext.refl _ | refine Ext.drewN ?_ _ | refine Ext.drew ?_ | refine Ext.alloc ?_ _ | refine Ext.trans ?_ (by assumption)))⟩
  case pos =>
    obtain ⟨hd, hn1, hn2⟩ := hdn
    have h0 := devE_yes hd
    obtain ⟨k1, k2, k3, k4, hasc⟩ := devB_bd hd
    have hd2 : devB m q n false = true := devB_mk k1 (by omega) (by omega) (by simp) hasc
    obtain ⟨hmc, hor⟩ := or_fact hma hmb
    obtain ⟨mc, ec⟩ : ∃ y, bits BinOp.or IntKind.u64 ma mb = y := ⟨_, rfl⟩
    rw [ec] at hmc hor
    obtain ⟨M, e3⟩ : ∃ y, crM ma 0 m q = y := ⟨_, rfl⟩
    obtain ⟨K1, ek1⟩ : ∃ y, keptN ma q.length = y := ⟨_, rfl⟩
    obtain ⟨K2, ek2⟩ : ∃ y, keptN mb q.length = y := ⟨_, rfl⟩
    obtain ⟨K3, ek3⟩ : ∃ y, keptN mc q.length = y := ⟨_, rfl⟩
    have hch := fun (mask : Int) (hm : InU mask) A c B d W (hb : Sl W B q.length d (fD q)) => dChosen_any m q left down mask A c B d W hb hm
    have hcl : ∀ mask, choL m q left down mask = keptN mask q.length := fun mask => by simp [choL, h0]
    simp only [hcl, h0] at hch
    have h1 := hch ma hma
    have h2 := hch mb hmb
    have h3 := hch mc hmc
    rw [ek1] at h1
    rw [ek2] at h2
    rw [ek3] at h3
    have ea : armE m q left down n = 0 := by
      have : ¬ (n < -1 ∨ 1000000 < n) := by omega
      simp [armE, h0, this]
    have ev : armV m q left down n = (m, q, n, false) := by simp [armV, ea]
    have h4 := fun A c B d W (ha : Sl W A m.length c (fU m)) (hb : Sl W B q.length d (fD q)) => dArm_any m q left down n A c B d W ha hb
    rw [ea, ev] at h4
    have h5 := fun A c B d W (ha : Sl W A m.length c (fU m)) (hb : Sl W B q.length d (fD q)) => dCrash_any m q left down ma A c B d W ha hb hma
    have h6 := fun A c B d W (ha : Sl W A m.length c (fU m)) (hb : Sl W B q.length d (fD q)) => dCrash_any m q n false ma A c B d W ha hb hma
    rw [crashV_ok hd, e3, h0] at h5
    rw [crashV_ok hd2, e3, devE_yes hd2] at h6
    have l1 : ∀ (i : Nat) (x : Int), K1[i]? = some x → ∃ j : Nat, x = (j : Int) ∧ j < 2101 := by
      rw [← ek1]
      intro i x hx
      obtain ⟨j, h, h', -⟩ := keptN_at hx
      exact ⟨j, h, by omega⟩
    have l2 : ∀ (i : Nat) (x : Int), K2[i]? = some x → ∃ j : Nat, x = (j : Int) ∧ j < 2101 := by
      rw [← ek2]
      intro i x hx
      obtain ⟨j, h, h', -⟩ := keptN_at hx
      exact ⟨j, h, by omega⟩
    have l3 : ∀ j : Nat, ((j : Int) ∈ K1 ∨ (j : Int) ∈ K2) ↔ (j < q.length ∧ kpB mc j = true) := by
      intro j
      rw [← ek1, ← ek2, kept_mem, kept_mem, hor, Bool.or_eq_true]
      constructor
      · rintro (⟨a, b⟩ | ⟨a, b⟩)
        · exact ⟨a, .inl b⟩
        · exact ⟨a, .inr b⟩
      · rintro ⟨a, b | b⟩
        · exact .inl ⟨a, b⟩
        · exact .inr ⟨a, b⟩
    have hKl : K1.length ≤ 2100 ∧ K2.length ≤ 2100 ∧ K3.length ≤ 2100 := by
      have a1 := keptN_length ma q.length
      have a2 := keptN_length mb q.length
      have a3 := keptN_length mc q.length
      rw [ek1] at a1; rw [ek2] at a2; rw [ek3] at a3
      omega
    have HH := Lib.hid (And.intro h1 (And.intro h2 (And.intro h3 (And.intro h4 (And.intro h5 (And.intro h6 (And.intro l1 (And.intro l2 (And.intro l3 (And.intro ek3 (And.intro ec (And.intro hg' h0))))))))))))
    clear h1 h2 h3 h4 h5 h6 l1 l2 l3 ek1 ek2 ek3 ec hg' h0 hd hd2 k1 k2 k3 k4 hasc hch hcl ea ev e3 hor hmc
    go_enter Try.func6, Try.ntmps6
    go_wp2_with fail
    refine (dGreat_any _ _ _ _ _ _ _ _ _).mono ?_
    rintro e w1 ⟨rfl, hx1⟩
    rw [HH.out.2.2.2.2.2.2.2.2.2.2.2.1]
    obtain ⟨b0, b1, b2, b3, bf, bl⟩ := H0.ext (w' := w1) (by repeat (first | assumption | exact Ext.refl _ | refine Ext.drewN ?_ _ | refine Ext.drew ?_ | refine Ext.alloc ?_ _ | refine Ext.trans ?_ (by assumption)))
    go_wp2_with fail
    refine (dRefCk_any m q left down A c B d _ (hB.ext (by repeat (first | assumption | exact Ext.refl _ | refine Ext.drewN ?_ _ | refine Ext.drew ?_ | refine Ext.alloc ?_ _ | refine Ext.trans ?_ (by assumption))))).mono ?_
    rintro e w2 ⟨rfl, hx2⟩
    rw [HH.out.2.2.2.2.2.2.2.2.2.2.2.2]
    clear b0 b1 b2 b3 bf bl
    obtain ⟨b0, b1, b2, b3, bf, bl⟩ := H0.ext (w' := w2) (by repeat (first | assumption | exact Ext.refl _ | refine Ext.drewN ?_ _ | refine Ext.drew ?_ | refine Ext.alloc ?_ _ | refine Ext.trans ?_ (by assumption)))
    go_wp2_with fail
    refine (HH.out.1 A c B d _ (hB.ext (by repeat (first | assumption | exact Ext.refl _ | refine Ext.drewN ?_ _ | refine Ext.drew ?_ | refine Ext.alloc ?_ _ | refine Ext.trans ?_ (by assumption))))).mono ?_
    rintro e w3 ⟨A3, c3, rfl, hA3, hx3⟩
    clear b0 b1 b2 b3 bf bl
    obtain ⟨b0, b1, b2, b3, bf, bl⟩ := H0.ext (w' := w3) (by repeat (first | assumption | exact Ext.refl _ | refine Ext.drewN ?_ _ | refine Ext.drew ?_ | refine Ext.alloc ?_ _ | refine Ext.trans ?_ (by assumption)))
    go_wp2_with fail
    refine (HH.out.2.1 A c B d _ (hB.ext (by repeat (first | assumption | exact Ext.refl _ | refine Ext.drewN ?_ _ | refine Ext.drew ?_ | refine Ext.alloc ?_ _ | refine Ext.trans ?_ (by assumption))))).mono ?_
    rintro e w4 ⟨A4, c4, rfl, hA4, hx4⟩
    clear b0 b1 b2 b3 bf bl
    obtain ⟨b0, b1, b2, b3, bf, bl⟩ := H0.ext (w' := w4) (by repeat (first | assumption | exact Ext.refl _ | refine Ext.drewN ?_ _ | refine Ext.drew ?_ | refine Ext.alloc ?_ _ | refine Ext.trans ?_ (by assumption)))
    go_wp2_with fail
    rw [HH.out.2.2.2.2.2.2.2.2.2.2.1]
    refine (HH.out.2.2.1 A c B d _ (hB.ext (by repeat (first | assumption | exact Ext.refl _ | refine Ext.drewN ?_ _ | refine Ext.drew ?_ | refine Ext.alloc ?_ _ | refine Ext.trans ?_ (by assumption))))).mono ?_
    rintro e w5 ⟨A5, c5, rfl, hA5, hx5⟩
    clear b0 b1 b2 b3 bf bl
    have hB5 := H0.ext (w' := w5) (by repeat (first | assumption | exact Ext.refl _ | refine Ext.drewN ?_ _ | refine Ext.drew ?_ | refine Ext.alloc ?_ _ | refine Ext.trans ?_ (by assumption)))
    have s1 : Sl w5 A3 K1.length c3 (fI K1) := hA3.ext (by repeat (first | assumption | exact Ext.refl _ | refine Ext.drewN ?_ _ | refine Ext.drew ?_ | refine Ext.alloc ?_ _ | refine Ext.trans ?_ (by assumption)))
    have s2 : Sl w5 A4 K2.length c4 (fI K2) := hA4.ext (by repeat (first | assumption | exact Ext.refl _ | refine Ext.drewN ?_ _ | refine Ext.drew ?_ | refine Ext.alloc ?_ _ | refine Ext.trans ?_ (by assumption)))
    have s3 : Sl w5 A5 K3.length c5 (fI K3) := hA5
    have hX5 : Ext w w5 := (by repeat (first | assumption | exact Ext.refl _ | refine Ext.drewN ?_ _ | refine Ext.drew ?_ | refine Ext.alloc ?_ _ | refine Ext.trans ?_ (by assumption)))
    have HS := Lib.hid (And.intro s1 (And.intro s2 (And.intro s3 (And.intro (Arr.new w5) (And.intro hB5 (And.intro (hA.ext hX5) (hB.ext hX5)))))))
    clear s1 s2 s3 hB5 hA3 hA4 hA5 hx1 hx2 hx3 hx4 hx5 H0 hA hB
    go_wp2_with fail
    go_loopw [16] (fun i wr => ∃ k : Nat, k ≤ K1.length ∧ i = .int .i64 k ∧ Ext w5 wr ∧ ∃ f, Arr wr w5.heap.size f ∧ ∀ j : Nat, f j = true ↔ (j : Int) ∈ K1.take k) (fun i _ => K1.length - (intOf i).toNat)
    case atStart => exact ⟨0, Nat.zero_le _, rfl, (Ext.refl w5).alloc _, _, HS.out.2.2.2.1, by simp⟩
    case round =>
      obtain ⟨k, hk, rfl, hxr, f, har, hf⟩ := hrel
      have HF := Lib.hid (And.intro hf (And.intro har hxr))
      clear hf har hxr
      by_cases hlt : k < K1.length
      · obtain ⟨ad, x, rfl, hx, g0⟩ := (HS.out.1.ext HF.out.2.2).i_at (k := k) hlt
        obtain ⟨j, rfl, hj⟩ := HH.out.2.2.2.2.2.2.1 k x hx
        have HX := Lib.hid hx
        clear hx
        have g1 := HF.out.2.1.1 j hj
        have g2 := HF.out.2.1.2.1 j
        go_wp2_with fail
        go_roundw
        case rel =>
          refine ⟨k + 1, by omega, by go_num, HF.out.2.2.setCell (Nat.le_refl _) _, _, HF.out.2.1.set hj, fun i => ?_⟩
          rw [List.take_add_one, HX.out, Option.toList_some, List.mem_append, Bool.or_eq_true, HF.out.1 i]
          have e1 : i = j ↔ (i : Int) = (j : Int) := by omega
          simp [e1]
        case measure => simp [intOf]; omega
      · obtain rfl : k = K1.length := by omega
        go_wp2_with fail
        go_loopw [17] (fun i wr => ∃ k : Nat, k ≤ K2.length ∧ i = .int .i64 k ∧ Ext w5 wr ∧ ∃ f, Arr wr w5.heap.size f ∧ ∀ j : Nat, f j = true ↔ (j : Int) ∈ K1 ∨ (j : Int) ∈ K2.take k) (fun i _ => K2.length - (intOf i).toNat)
        case atStart => exact ⟨0, Nat.zero_le _, rfl, HF.out.2.2, f, HF.out.2.1, by simpa using HF.out.1⟩
        clear HF hk
        case round =>
          obtain ⟨k, hk, rfl, hxr, f, har, hf⟩ := hrel
          have HF := Lib.hid (And.intro hf (And.intro har hxr))
          clear hf har hxr
          by_cases hlt : k < K2.length
          · obtain ⟨ad, x, rfl, hx, g0⟩ := (HS.out.2.1.ext HF.out.2.2).i_at (k := k) hlt
            obtain ⟨j, rfl, hj⟩ := HH.out.2.2.2.2.2.2.2.1 k x hx
            have HX := Lib.hid hx
            clear hx
            have g1 := HF.out.2.1.1 j hj
            have g2 := HF.out.2.1.2.1 j
            go_wp2_with fail
            go_roundw
            case rel =>
              refine ⟨k + 1, by omega, by go_num, HF.out.2.2.setCell (Nat.le_refl _) _, _, HF.out.2.1.set hj, fun i => ?_⟩
              rw [List.take_add_one, HX.out, Option.toList_some, List.mem_append, Bool.or_eq_true, HF.out.1 i, or_assoc]
              have e1 : i = j ↔ (i : Int) = (j : Int) := by omega
              simp [e1]
            case measure => simp [intOf]; omega
          · obtain rfl : k = K2.length := by omega
            have hf3 : ∀ j : Nat, f j = true ↔ (j < q.length ∧ kpB mc j = true) := fun j => by
              have := HF.out.1 j
              rw [List.take_length] at this
              rw [this]
              exact HH.out.2.2.2.2.2.2.2.2.1 j
            have HG := Lib.hid (And.intro hf3 HF.out.2)
            clear hf3 HF hk
            obtain ⟨w7, hw7⟩ : ∃ w7, w7 = wr := ⟨_, rfl⟩
            rw [← hw7] at HG ⊢
            clear hw7
            go_wp2_with fail
            go_loopw [18, 19] (fun v i wr => ∃ k t : Nat, k ≤ 2101 ∧ i = .int .i64 k ∧ v = .int .i64 t ∧ cntF mc q.length k = t ∧ wr = w7) (fun _ i _ => 2101 - (intOf i).toNat)
            case atStart => exact ⟨0, 0, by omega, rfl, rfl, by simp [cntF, keptN], rfl⟩
            case round =>
              obtain ⟨k, t, hk, rfl, rfl, ht, rfl⟩ := hrel
              by_cases hlt : k < 2101
              · have g1 := HG.out.2.1.1 k hlt
                cases hfk : f k with
                | true =>
                  obtain ⟨c1, c2⟩ := cntF_yes ((HG.out.1 k).1 hfk)
                  rw [ht, HH.out.2.2.2.2.2.2.2.2.2.1] at c1
                  rw [ht] at c2
                  have htl : t < K3.length := (List.getElem?_eq_some_iff.1 c1).1
                  obtain ⟨ad, x, rfl, hx, g0⟩ := (HS.out.2.2.1.ext HG.out.2.2).i_at (k := t) htl
                  rw [c1] at hx
                  injection hx with hx
                  subst hx
                  rw [hfk] at g1
                  have HP := Lib.hid (And.intro c2 (And.intro c1 (And.intro ht hfk)))
                  clear c1 c2 ht hfk
                  go_wp2_with fail
                  go_roundw
                  case rel => exact ⟨k + 1, t + 1, by omega, by go_num, by go_num, HP.out.1, trivial⟩
                  case measure => simp [intOf]; omega
                | false =>
                  have c2 := cntF_no (fun h => by have := (HG.out.1 k).2 h; rw [hfk] at this; cases this)
                  rw [ht] at c2
                  rw [hfk] at g1
                  have HP := Lib.hid (And.intro c2 (And.intro ht hfk))
                  clear c2 ht hfk
                  go_wp2_with fail
                  go_roundw
                  case rel => exact ⟨k + 1, t, by omega, by go_num, rfl, HP.out.1, trivial⟩
                  case measure => simp [intOf]; omega
              · obtain rfl : k = 2101 := by omega
                have htK : t = K3.length := by
                  rw [← ht, cntF, show min 2101 q.length = q.length from by omega, HH.out.2.2.2.2.2.2.2.2.2.1]
                subst htK
                clear ht
                obtain ⟨b0, b1, b2, b3, bf, bl⟩ := HS.out.2.2.2.2.1.ext HG.out.2.2
                go_wp2_with fail
                refine (HH.out.2.2.2.1 A c B d _ (HS.out.2.2.2.2.2.1.ext HG.out.2.2) (HS.out.2.2.2.2.2.2.ext HG.out.2.2)).mono ?_
                rintro e w8 ⟨A8, c8, B8, d8, rfl, hA8, hB8, hx8⟩
                have H8 := Box4.new w8 (.slice A8 m.length c8) (.slice B8 q.length d8) (.int .i64 n) (.bool false) 25
                clear b0 b1 b2 b3 bf bl
                obtain ⟨b0, b1, b2, b3, bf, bl⟩ := H8.ext (Ext.refl _)
                go_wp2_with fail
                refine (HH.out.2.2.2.2.2.1 A8 c8 B8 d8 _ (hA8.ext (by repeat (first | assumption | exact Ext.refl _ | refine Ext.drewN ?_ _ | refine Ext.drew ?_ | refine Ext.alloc ?_ _ | refine Ext.trans ?_ (by assumption)))) (hB8.ext (by repeat (first | assumption | exact Ext.refl _ | refine Ext.drewN ?_ _ | refine Ext.drew ?_ | refine Ext.alloc ?_ _ | refine Ext.trans ?_ (by assumption))))).mono ?_
                rintro e w9 ⟨A9, c9, B9, d9, rfl, hA9, hB9, hx9⟩
                have H9 := Box4.new w9 (.slice A9 M.length c9) (.slice B9 0 d9) (.int .i64 (-1)) (.bool false) 25
                clear b0 b1 b2 b3 bf bl
                have hxx := HG.out.2.2
                obtain ⟨b0, b1, b2, b3, bf, bl⟩ := HS.out.2.2.2.2.1.ext (w' := w9) (by repeat (first | assumption | exact Ext.refl _ | refine Ext.drewN ?_ _ | refine Ext.drew ?_ | refine Ext.alloc ?_ _ | refine Ext.trans ?_ (by assumption)))
                go_wp2_with fail
                refine (HH.out.2.2.2.2.1 A c B d _ (HS.out.2.2.2.2.2.1.ext (by repeat (first | assumption | exact Ext.refl _ | refine Ext.drewN ?_ _ | refine Ext.drew ?_ | refine Ext.alloc ?_ _ | refine Ext.trans ?_ (by assumption)))) (HS.out.2.2.2.2.2.2.ext (by repeat (first | assumption | exact Ext.refl _ | refine Ext.drewN ?_ _ | refine Ext.drew ?_ | refine Ext.alloc ?_ _ | refine Ext.trans ?_ (by assumption))))).mono ?_
                rintro e w10 ⟨A10, c10, B10, d10, rfl, hA10, hB10, hx10⟩
                have H10 := Box4.new w10 (.slice A10 M.length c10) (.slice B10 0 d10) (.int .i64 (-1)) (.bool false) 25
                clear b0 b1 b2 b3 bf bl
                obtain ⟨b0, b1, b2, b3, bf, bl⟩ := H10.ext (Ext.refl _)
                obtain ⟨o0, o1, o2, o3, of, ol⟩ := (H9.ext hx10).alloc (Obj.cells #[.slice A10 M.length c10, .slice B10 0 d10, .int .i64 (-1), .bool false] 25)
                go_wp2_with fail
                refine (dSame_yes M [] (-1) false A9 c9 B9 d9 A10 c10 B10 d10 _ (hA9.ext (by repeat (first | assumption | exact Ext.refl _ | refine Ext.drewN ?_ _ | refine Ext.drew ?_ | refine Ext.alloc ?_ _ | refine Ext.trans ?_ (by assumption)))) (hB9.ext (by repeat (first | assumption | exact Ext.refl _ | refine Ext.drewN ?_ _ | refine Ext.drew ?_ | refine Ext.alloc ?_ _ | refine Ext.trans ?_ (by assumption)))) (hA10.ext (by repeat (first | assumption | exact Ext.refl _ | refine Ext.drewN ?_ _ | refine Ext.drew ?_ | refine Ext.alloc ?_ _ | refine Ext.trans ?_ (by assumption)))) (hB10.ext (by repeat (first | assumption | exact Ext.refl _ | refine Ext.drewN ?_ _ | refine Ext.drew ?_ | refine Ext.alloc ?_ _ | refine Ext.trans ?_ (by assumption))))).mono ?_
                rintro e w11 ⟨rfl, hx11⟩
                clear b0 b1 b2 b3 bf bl o0 o1 o2 o3 of ol
                go_wp2_with fail
                refine (alive04_any _).mono ?_
                rintro e w12 ⟨rfl, hx12⟩
                go_wp2_with fail
                go_ret
                exact ⟨rfl, (by repeat (first | assumption | exact Ext.refl _ | refine Ext.drewN ?_ _ | refine Ext.drew ?_ | refine Ext.alloc ?_ _ | refine Ext.trans ?_ (by assumption)))⟩
set_option maxRecDepth 100000 in
theorem crashMasks_lifted (os : Os) (started : os.Started) (H : Type) (enc : TypeId × Value → H) :
    ReturnsInHanded {} Try.checked os 6 .any (Rows.crashMasksSpec.pre6 enc Try.prog Try.f6 Rows.crashMasksRow.domain false) (Rows.crashMasksSpec.post enc Try.prog Try.f6 false true false false) := by
  refine returnsInHanded_of_change (C := Try.checked) own_knob started (by kernel_rfl) Try.func6
    (ChangeSpec.witness6 (enc := enc) (C := Try.checked) false ⟨#[], #[.agg #[.slice none 0 0, .slice none 0 0, .int .i64 0, .bool false], .int .u64 0, .int .u64 0, .int .i64 0], []⟩ 8 (by kernel_rfl) (by kernel_rfl) (by kernel_rfl) (by kernel_rfl)) ?_
  intro W base args ds gs before hval0 hW hcnd _
  have hval : ∀ (j : Nat) t v, Try.f6.params[j]? = some t → args[j]? = some v → Value.okWide Try.prog W .any base t v := hval0
  have hW' := hW
  obtain ⟨p, q, hA0, hV, rfl, hfz, hnd⟩ := hW
  have hA : DataW.TrodAll enc Try.prog W 0 (fun _ => true) true Try.f6.params.toList args.toList ds p := hA0
  rw [Try.params6] at hA hval
  obtain ⟨v0, vs0, d0, ds0, p0, q0, hargs, rfl, rfl, h0, r0⟩ := trodAll_cons hA
  obtain ⟨v1, vs1, d1, ds1, p1, q1, rfl, rfl, rfl, h1, r1⟩ := trodAll_cons r0
  obtain ⟨v2, vs2, d2, ds2, p2, q2, rfl, rfl, rfl, h2, r2⟩ := trodAll_cons r1
  obtain ⟨v3, vs3, d3, ds3, p3, q3, rfl, rfl, rfl, h3, r3⟩ := trodAll_cons r2
  obtain ⟨rfl, rfl, rfl⟩ := trodAll_nil r3
  obtain rfl : args = #[v0, v1, v2, v3] := by cases args; simp_all
  obtain ⟨rfl, rfl⟩ := trodVars_none hV
  obtain ⟨A0, c0, m0, B0, k0, ds0, left0, down0, rfl, hS0, wA0, hB0, wB0, wl0⟩ := op_V (hval 0 25 v0 rfl rfl) h0
  obtain ⟨x1, rfl, wx1⟩ := op_u (hval 1 26 v1 rfl rfl) h1
  obtain ⟨x2, rfl, wx2⟩ := op_u (hval 2 26 v2 rfl rfl) h2
  obtain ⟨x3, rfl, wx3⟩ := op_i (hval 3 3 v3 rfl rfl) h3
  clear hA0 hval0 hval hA
  refine (crashMasks_any m0 ds0 left0 down0 x1 x2 x3 A0 c0 B0 k0 W hS0 hB0 wx1 wx2).mono fun e W' ⟨he, hx⟩ => ?_
  subst he
  exact ⟨_, rfl, post_law laid_out (by kernel_rfl) hW' rfl rfl rfl Try.underlying4 hx⟩
theorem crashMasks_holds : Rows.CrashMasksSaid :=
  OpenClaim.holds_of_wide 6 Try.f6 rfl rfl rfl rfl rfl rfl rfl ⟨rfl, rfl, rfl, rfl, rfl⟩ rfl rfl rfl rfl rfl (by kernel_rfl) Try.func6 (by kernel_rfl)
    (of_decide_eq_true (by kernel_rfl)) (by unfold Func.isWrapper; first | (rw [if_pos (by decide +kernel)]; kernel_rfl) | (rw [if_neg (by decide +kernel)]; exact ⟨rfl, rfl⟩))
    (fun os started H enc _ => crashMasks_lifted os started H enc)
end Go.Proofs.Ytmmcbleoglgamaa
