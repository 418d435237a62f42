/-
  CrashWords, for every device and mask: the law returns true. No condition.
-/
import Derived.Test.YtmmcbleoglgamaaAlive04
import Derived.Test.YtmmcbleoglgamaaCrWord
import Derived.Test.YtmmcbleoglgamaaOpen
namespace Go.Proofs.Ytmmcbleoglgamaa
open Go.ChangeShapes Go.WideShapes Go.ChangeAt Go.RowKit

set_option maxRecDepth 100000 in
set_option maxHeartbeats 6400000 in
theorem crashWords_any (m : List Int) (q : List Dw) (left : Int) (down : Bool) (mask : Int) (A : Option Addr) (c : Nat) (B : Option Addr) (d : Nat) (w : World) (hA : Sl w A m.length c (fU m)) (hB : Sl w B q.length d (fD q)) (hm : InU mask) :
    Calls Try.prog 7 #[.agg #[.slice A m.length c, .slice B q.length d, .int .i64 left, .bool down], .int .u64 mask] w fun e w' => e = .returned (.bool true) ∧ Ext w w' := by
  by_cases hg : (decide (2100 < m.length) || decide (2100 < q.length)) = true
  · go_enter Try.func7, Try.ntmps7
    go_wp2_with fail
    refine (dGreat_any _ _ _ _ _ _ _ _ _).mono ?_
    rintro e w1 ⟨rfl, hx1⟩
    rw [hg]
    go_wp2_with fail
    refine (alive04_any _).mono ?_
    rintro e w2 ⟨rfl, hx2⟩
    go_wp2_with fail
    go_ret
    exact ⟨rfl, (by repeat (first | assumption | exact Ext.refl _ | refine Ext.drewN ?_ _ | refine Ext.drew ?_ | refine Ext.alloc ?_ _ | refine Ext.trans ?_ (by assumption)))⟩
  have hg' : (decide (2100 < m.length) || decide (2100 < q.length)) = false := by simpa using hg
  have hlen : m.length ≤ 2100 ∧ q.length ≤ 2100 := by simp at hg; omega
  clear hg
  have H0 := Box4.new w (.slice A m.length c) (.slice B q.length d) (.int .i64 left) (.bool down) 25
  cases hd : devB m q left down with
  | false =>
    have h0 := devE_no hd
    go_enter Try.func7, Try.ntmps7
    go_wp2_with fail
    refine (dGreat_any _ _ _ _ _ _ _ _ _).mono ?_
    rintro e w1 ⟨rfl, hx1⟩
    rw [hg']
    obtain ⟨b0, b1, b2, b3, bf, bl⟩ := H0.ext (w' := w1) (by repeat (first | assumption | exact Ext.refl _ | refine Ext.drewN ?_ _ | refine Ext.drew ?_ | refine Ext.alloc ?_ _ | refine Ext.trans ?_ (by assumption)))
    go_wp2_with fail
    refine (dRefCk_any m q left down A c B d _ (hB.ext (by repeat (first | assumption | exact Ext.refl _ | refine Ext.drewN ?_ _ | refine Ext.drew ?_ | refine Ext.alloc ?_ _ | refine Ext.trans ?_ (by assumption))))).mono ?_
    rintro e w2 ⟨rfl, hx2⟩
    rw [h0]
    go_wp2_with fail
    refine (alive04_any _).mono ?_
    rintro e w3 ⟨rfl, hx3⟩
    go_wp2_with fail
    go_ret
    exact ⟨rfl, (by repeat (first | assumption | exact Ext.refl _ | refine Ext.drewN ?_ _ | refine Ext.drew ?_ | refine Ext.alloc ?_ _ | refine Ext.trans ?_ (by assumption)))⟩
  | true =>
    have h0 := devE_yes hd
    obtain ⟨-, -, -, -, hasc⟩ := devB_bd hd
    obtain ⟨M, e3⟩ : ∃ y, crM mask 0 m q = y := ⟨_, rfl⟩
    obtain ⟨V, ev⟩ : ∃ y, wrd m q = y := ⟨_, rfl⟩
    obtain ⟨K, ek⟩ : ∃ y, keptN mask q.length = y := ⟨_, rfl⟩
    have h1 := fun A c B d W (ha : Sl W A m.length c (fU m)) (hb : Sl W B q.length d (fD q)) => dCrash_any m q left down mask A c B d W ha hb hm
    have h2 := fun A c B d W (ha : Sl W A m.length c (fU m)) (hb : Sl W B q.length d (fD q)) => dView_any m q left down A c B d W ha hb
    have h3 := fun A c B d W (hb : Sl W B q.length d (fD q)) => dChosen_any m q left down mask A c B d W hb hm
    have h4 : viewL m q left down = V := by rw [← ev]; simp [viewL, h0]
    have h5 : choL m q left down mask = K := by rw [← ek]; simp [choL, h0]
    rw [crashV_ok hd, e3, h0] at h1
    rw [h4, h0] at h2
    rw [h5, h0] at h3
    have k1 : M.length = m.length := by rw [← e3, crM_length]
    have k2 : V.length = m.length := by rw [← ev, wrd_length]
    have k3 : ∀ j : Nat, M[j]? = m[j]? ∨ M[j]? = V[j]? := by rw [← e3, ← ev]; exact fun j => crM_or hasc rfl j
    have k4 : ∀ k x, q[k]? = some x → ∃ j : Nat, x.1 = (j : Int) ∧ j < m.length ∧ M[j]? = if kpB mask k then V[j]? else m[j]? := by
      intro k x hx
      have hmem := ascB_mem hasc x (List.mem_of_getElem? hx)
      refine ⟨x.1.toNat, by omega, by omega, ?_⟩
      have hh := crM_hit (mask := mask) (i := 0) (by omega) hasc rfl hx
      rw [e3, Nat.zero_add] at hh
      rw [hh, ← ev, wrd_at (by omega) hasc rfl x (List.mem_of_getElem? hx)]
    have HH := Lib.hid (And.intro h1 (And.intro h2 (And.intro h3 (And.intro hg' (And.intro h0 (And.intro k1 (And.intro k2 (And.intro k3 (And.intro k4 ek)))))))))
    clear h1 h2 h3 h4 h5 e3 ev ek hg' h0 hd k1 k2 k3 k4 hasc
    go_enter Try.func7, Try.ntmps7
    go_wp2_with fail
    refine (dGreat_any _ _ _ _ _ _ _ _ _).mono ?_
    rintro e w1 ⟨rfl, hx1⟩
    rw [HH.out.2.2.2.1]
    obtain ⟨b0, b1, b2, b3, bf, bl⟩ := H0.ext (w' := w1) (by repeat (first | assumption | exact Ext.refl _ | refine Ext.drewN ?_ _ | refine Ext.drew ?_ | refine Ext.alloc ?_ _ | refine Ext.trans ?_ (by assumption)))
    go_wp2_with fail
    refine (dRefCk_any m q left down A c B d _ (hB.ext (by repeat (first | assumption | exact Ext.refl _ | refine Ext.drewN ?_ _ | refine Ext.drew ?_ | refine Ext.alloc ?_ _ | refine Ext.trans ?_ (by assumption))))).mono ?_
    rintro e w2 ⟨rfl, hx2⟩
    rw [HH.out.2.2.2.2.1]
    clear b0 b1 b2 b3 bf bl
    obtain ⟨b0, b1, b2, b3, bf, bl⟩ := H0.ext (w' := w2) (by repeat (first | assumption | exact Ext.refl _ | refine Ext.drewN ?_ _ | refine Ext.drew ?_ | refine Ext.alloc ?_ _ | refine Ext.trans ?_ (by assumption)))
    go_wp2_with fail
    refine (HH.out.1 A c B d w2 (hA.ext (by repeat (first | assumption | exact Ext.refl _ | refine Ext.drewN ?_ _ | refine Ext.drew ?_ | refine Ext.alloc ?_ _ | refine Ext.trans ?_ (by assumption)))) (hB.ext (by repeat (first | assumption | exact Ext.refl _ | refine Ext.drewN ?_ _ | refine Ext.drew ?_ | refine Ext.alloc ?_ _ | refine Ext.trans ?_ (by assumption))))).mono ?_
    rintro e w3 ⟨A1, c1, B1, d1, rfl, hA1, hB1, hx3⟩
    simp only [HH.out.2.2.2.2.2.1, List.length_nil] at hA1 hB1 ⊢
    have H1 := Box4.new w3 (.slice A1 m.length c1) (.slice B1 0 d1) (.int .i64 (-1)) (.bool false) 25
    clear b0 b1 b2 b3 bf bl
    obtain ⟨b0, b1, b2, b3, bf, bl⟩ := H0.ext (w' := w3) (by repeat (first | assumption | exact Ext.refl _ | refine Ext.drewN ?_ _ | refine Ext.drew ?_ | refine Ext.alloc ?_ _ | refine Ext.trans ?_ (by assumption)))
    go_wp2_with fail
    refine (HH.out.2.1 A c B d _ (hA.ext (by repeat (first | assumption | exact Ext.refl _ | refine Ext.drewN ?_ _ | refine Ext.drew ?_ | refine Ext.alloc ?_ _ | refine Ext.trans ?_ (by assumption)))) (hB.ext (by repeat (first | assumption | exact Ext.refl _ | refine Ext.drewN ?_ _ | refine Ext.drew ?_ | refine Ext.alloc ?_ _ | refine Ext.trans ?_ (by assumption))))).mono ?_
    rintro e w4 ⟨A4, c4, rfl, hown4, hA4, hx4⟩
    simp only [HH.out.2.2.2.2.2.2.1] at hA4 ⊢
    clear b0 b1 b2 b3 bf bl hown4
    obtain ⟨b0, b1, b2, b3, bf, bl⟩ := H0.ext (w' := w4) (by repeat (first | assumption | exact Ext.refl _ | refine Ext.drewN ?_ _ | refine Ext.drew ?_ | refine Ext.alloc ?_ _ | refine Ext.trans ?_ (by assumption)))
    go_wp2_with fail
    refine (HH.out.2.2.1 A c B d _ (hB.ext (by repeat (first | assumption | exact Ext.refl _ | refine Ext.drewN ?_ _ | refine Ext.drew ?_ | refine Ext.alloc ?_ _ | refine Ext.trans ?_ (by assumption))))).mono ?_
    rintro e w5 ⟨A5, c5, rfl, hA5, hx5⟩
    clear b0 b1 b2 b3 bf bl
    obtain ⟨b0, b1, b2, b3, bf, bl⟩ := H0.ext (w' := w5) (by repeat (first | assumption | exact Ext.refl _ | refine Ext.drewN ?_ _ | refine Ext.drew ?_ | refine Ext.alloc ?_ _ | refine Ext.trans ?_ (by assumption)))
    obtain ⟨o0, o1, o2, o3, of, ol⟩ := H1.ext (w' := w5) (by repeat (first | assumption | exact Ext.refl _ | refine Ext.drewN ?_ _ | refine Ext.drew ?_ | refine Ext.alloc ?_ _ | refine Ext.trans ?_ (by assumption)))
    have hAm : Sl w5 A m.length c (fU m) := hA.ext (by repeat (first | assumption | exact Ext.refl _ | refine Ext.drewN ?_ _ | refine Ext.drew ?_ | refine Ext.alloc ?_ _ | refine Ext.trans ?_ (by assumption)))
    have hBq : Sl w5 B q.length d (fD q) := hB.ext (by repeat (first | assumption | exact Ext.refl _ | refine Ext.drewN ?_ _ | refine Ext.drew ?_ | refine Ext.alloc ?_ _ | refine Ext.trans ?_ (by assumption)))
    have hAM : Sl w5 A1 m.length c1 (fU M) := hA1.ext (by repeat (first | assumption | exact Ext.refl _ | refine Ext.drewN ?_ _ | refine Ext.drew ?_ | refine Ext.alloc ?_ _ | refine Ext.trans ?_ (by assumption)))
    have hAV : Sl w5 A4 m.length c4 (fU V) := hA4.ext (by repeat (first | assumption | exact Ext.refl _ | refine Ext.drewN ?_ _ | refine Ext.drew ?_ | refine Ext.alloc ?_ _ | refine Ext.trans ?_ (by assumption)))
    have hX5 : Ext w w5 := (by repeat (first | assumption | exact Ext.refl _ | refine Ext.drewN ?_ _ | refine Ext.drew ?_ | refine Ext.alloc ?_ _ | refine Ext.trans ?_ (by assumption)))
    clear hA hB hA1 hA4 hB1 hx1 hx2 hx3 hx4 hx5 H0 H1
    have hnn : ((m.length : Int) != (m.length : Int)) = false := by simp
    go_wp2_with fail
    go_loopw [11] (fun i wr => ∃ k : Nat, k ≤ m.length ∧ i = .int .i64 k ∧ Drew w5 wr) (fun i _ => m.length - (intOf i).toNat)
    case atStart => exact ⟨0, Nat.zero_le _, rfl, by first | exact Drew.refl _ | exact drew_N _ _⟩
    case round =>
      obtain ⟨k, hk, rfl, n, rfl⟩ := hrel
      by_cases hlt : k < m.length
      · have hMk := HH.out.2.2.2.2.2.1
        have hVk := HH.out.2.2.2.2.2.2.1
        obtain ⟨a0, x, rfl, hx, g0⟩ := hAm.u_at (k := k) hlt
        obtain ⟨a1, y, rfl, hy, g1⟩ := hAM.u_at (k := k) (by omega)
        obtain ⟨a4, z, rfl, hz, g4⟩ := hAV.u_at (k := k) (by omega)
        have hor := HH.out.2.2.2.2.2.2.2.1 k
        rw [hx, hy, hz] at hor
        simp only [Option.some.injEq] at hor
        clear hMk hVk hx hy hz hAm hBq hAM hAV hA5
        by_cases hxy : y = x
        · clear hor
          subst hxy
          have hbb : (y != y) = false := by simp
          go_wp2
          go_quiet (fail)
          go_wp2
          go_roundw
          case rel => exact ⟨k + 1, by omega, by go_num, drew_N w5 _⟩
          case measure => simp [intOf]; omega
        · have hyz : y = z := by rcases hor with h | h; exact absurd h hxy; exact h
          clear hor
          subst hyz
          have hbb : (y != x) = true := by simpa using hxy
          have hcc : (y != y) = false := by simp
          go_wp2
          go_quiet (fail)
          go_wp2
          go_roundw
          case rel => exact ⟨k + 1, by omega, by go_num, drew_N w5 _⟩
          case measure => simp [intOf]; omega
      · have HS := Lib.hid (And.intro hAm (And.intro hAM (And.intro hAV (And.intro hBq hA5))))
        clear hAm hAM hAV hBq hA5
        go_wp2_with fail
        go_loopw [12, 13] (fun v i wr => ∃ k t : Nat, k ≤ q.length ∧ i = .int .i64 k ∧ v = .int .i64 t ∧ (keptN mask k).length = t ∧ Drew w5 wr) (fun _ i _ => q.length - (intOf i).toNat)
        case atStart => exact ⟨0, 0, Nat.zero_le _, rfl, rfl, rfl, by first | exact Drew.refl _ | exact drew_N _ _⟩
        case round =>
          obtain ⟨k2, t, hk2, rfl, rfl, ht, n2, rfl⟩ := hrel
          by_cases hlt2 : k2 < q.length
          · obtain ⟨ab, x, rfl, hx, gb, -, -⟩ := HS.out.2.2.2.1.d_at' (k := k2) hlt2
            obtain ⟨j, hj, hjl, hMj⟩ := HH.out.2.2.2.2.2.2.2.2.1 k2 x hx
            rw [hj] at gb
            clear hj hx
            have hMk := HH.out.2.2.2.2.2.1
            have hVk := HH.out.2.2.2.2.2.2.1
            obtain ⟨a0, x0, rfl, hx0, g0⟩ := HS.out.1.u_at (k := j) hjl
            obtain ⟨a1, y, rfl, hy, g1⟩ := HS.out.2.1.u_at (k := j) (by omega)
            obtain ⟨a4, z, rfl, hz, g4⟩ := HS.out.2.2.1.u_at (k := j) (by omega)
            rw [hx0, hy, hz] at hMj
            clear hx0 hy hz hMk hVk
            have hle : t ≤ 2100 := by
              have := keptN_length mask k2
              omega
            cases hb : kpB mask k2 with
            | true =>
              have hyes := keptN_yes hlt2 hb
              rw [ht, HH.out.2.2.2.2.2.2.2.2.2] at hyes
              have hsu : (keptN mask (k2 + 1)).length = t + 1 := by rw [keptN_succ, hb, if_pos rfl, List.length_append, ht]; rfl
              rw [hb, if_pos rfl] at hMj
              injection hMj with hMj
              subst hMj
              have htl : t < K.length := (List.getElem?_eq_some_iff.1 hyes).1
              obtain ⟨a5, y5, rfl, hy5, g5⟩ := HS.out.2.2.2.2.i_at (k := t) htl
              rw [hyes] at hy5
              injection hy5 with hy5
              subst hy5
              have HP := Lib.hid (And.intro hsu (And.intro hb (And.intro ht hyes)))
              clear hsu hb ht hyes
              have hbb : (y != y) = false := by simp
              go_wp2_with fail
              go_quiet (fail)
              go_wp2_with fail
              go_roundw
              case rel => exact ⟨k2 + 1, t + 1, by omega, by go_num, by go_num, HP.out.1, drew_N w5 _⟩
              case measure => simp [intOf]; omega
            | false =>
              have hsu : (keptN mask (k2 + 1)).length = t := by rw [keptN_succ, hb, if_neg (by decide), List.append_nil, ht]
              rw [hb, if_neg (by decide)] at hMj
              injection hMj with hMj
              subst hMj
              have hbb : (y != y) = false := by simp
              by_cases htl : t < K.length
              · obtain ⟨a5, y5, rfl, hy5, g5⟩ := HS.out.2.2.2.2.i_at (k := t) htl
                have hne : y5 ≠ (k2 : Int) := keptN_no hlt2 hb (by rw [ht, HH.out.2.2.2.2.2.2.2.2.2]; exact hy5)
                have hnb : (y5 == (k2 : Int)) = false := by simpa using hne
                have HP := Lib.hid (And.intro hsu (And.intro hb (And.intro ht (And.intro hy5 hne))))
                clear hsu hb ht hy5 hne
                go_wp2_with fail
                go_quiet (fail)
                go_wp2_with fail
                go_roundw
                case rel => exact ⟨k2 + 1, t, by omega, by go_num, rfl, HP.out.1, drew_N w5 _⟩
                case measure => simp [intOf]; omega
              · have HP := Lib.hid (And.intro hsu (And.intro hb ht))
                clear hsu hb ht
                go_wp2_with fail
                go_quiet (fail)
                go_wp2_with fail
                go_roundw
                case rel => exact ⟨k2 + 1, t, by omega, by go_num, rfl, HP.out.1, drew_N w5 _⟩
                case measure => simp [intOf]; omega
          · obtain rfl : k2 = q.length := by omega
            rw [HH.out.2.2.2.2.2.2.2.2.2] at ht
            subst ht
            go_wp2_with fail
            refine (alive04_any _).mono ?_
            rintro e w6 ⟨rfl, hx6⟩
            go_wp2_with fail
            go_ret
            exact ⟨rfl, (by repeat (first | assumption | exact Ext.refl _ | refine Ext.drewN ?_ _ | refine Ext.drew ?_ | refine Ext.alloc ?_ _ | refine Ext.trans ?_ (by assumption)))⟩
set_option maxRecDepth 100000 in
theorem crashWords_lifted (os : Os) (started : os.Started) (H : Type) (enc : TypeId × Value → H) :
    ReturnsInHanded {} Try.checked os 7 .any (Rows.crashWordsSpec.pre6 enc Try.prog Try.f7 Rows.crashWordsRow.domain false) (Rows.crashWordsSpec.post enc Try.prog Try.f7 false true false false) := by
  refine returnsInHanded_of_change (C := Try.checked) own_knob started (by kernel_rfl) Try.func7
    (ChangeSpec.witness6 (enc := enc) (C := Try.checked) false ⟨#[], #[.agg #[.slice none 0 0, .slice none 0 0, .int .i64 0, .bool false], .int .u64 0], []⟩ 8 (by kernel_rfl) (by kernel_rfl) (by kernel_rfl) (by kernel_rfl)) ?_
  intro W base args ds gs before hval0 hW hcnd _
  have hval : ∀ (j : Nat) t v, Try.f7.params[j]? = some t → args[j]? = some v → Value.okWide Try.prog W .any base t v := hval0
  have hW' := hW
  obtain ⟨p, q, hA0, hV, rfl, hfz, hnd⟩ := hW
  have hA : DataW.TrodAll enc Try.prog W 0 (fun _ => true) true Try.f7.params.toList args.toList ds p := hA0
  rw [Try.params7] at hA hval
  obtain ⟨v0, vs0, d0, ds0, p0, q0, hargs, rfl, rfl, h0, r0⟩ := trodAll_cons hA
  obtain ⟨v1, vs1, d1, ds1, p1, q1, rfl, rfl, rfl, h1, r1⟩ := trodAll_cons r0
  obtain ⟨rfl, rfl, rfl⟩ := trodAll_nil r1
  obtain rfl : args = #[v0, v1] := by cases args; simp_all
  obtain ⟨rfl, rfl⟩ := trodVars_none hV
  obtain ⟨A0, c0, m0, B0, k0, ds0, left0, down0, rfl, hS0, wA0, hB0, wB0, wl0⟩ := op_V (hval 0 25 v0 rfl rfl) h0
  obtain ⟨x1, rfl, wx1⟩ := op_u (hval 1 26 v1 rfl rfl) h1
  clear hA0 hval0 hval hA
  refine (crashWords_any m0 ds0 left0 down0 x1 A0 c0 B0 k0 W hS0 hB0 wx1).mono fun e W' ⟨he, hx⟩ => ?_
  subst he
  exact ⟨_, rfl, post_law laid_out (by kernel_rfl) hW' rfl rfl rfl Try.underlying4 hx⟩
theorem crashWords_holds : Rows.CrashWordsSaid :=
  OpenClaim.holds_of_wide 7 Try.f7 rfl rfl rfl rfl rfl rfl rfl ⟨rfl, rfl, rfl, rfl, rfl⟩ rfl rfl rfl rfl rfl (by kernel_rfl) Try.func7 (by kernel_rfl)
    (of_decide_eq_true (by kernel_rfl)) (by unfold Func.isWrapper; first | (rw [if_pos (by decide +kernel)]; kernel_rfl) | (rw [if_neg (by decide +kernel)]; exact ⟨rfl, rfl⟩))
    (fun os started H enc _ => crashWords_lifted os started H enc)
end Go.Proofs.Ytmmcbleoglgamaa
