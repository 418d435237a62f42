/-
  TopJournal, for every number of types, all phases, addresses, words, numbers and masks: the law returns true. No condition.
-/
import Derived.Test.YtmkcpnklaijkfaaTopK
import Derived.Test.YtmkcpnklaijkfaaTopW
import Derived.Test.YtmkcpnklaijkfaaGA
namespace Go.Proofs.Ytmkcpnklaijkfaa
open Go.ChangeShapes Go.WideShapes Go.ChangeAt Go.RowKit
set_option maxRecDepth 100000 in
theorem topJournal_yes (ty pa pb pc qa qb qc at_ v left mask sp by_ : Int) (w : World) (hv : InU v) (hmk : InU mask) (hby : InU by_)
    (t0 : 0 ≤ ty) (t1 : ty ≤ 8) (hp : phB pa pb pc = true) (hq : phB qa qb qc = true) (pb1 : pb ≤ 256) (qb1 : qb ≤ 256) (a0 : 128 ≤ at_) (a1 : at_ ≤ 255) (l0 : 0 ≤ left) (l1 : left ≤ 200) (s0 : 0 ≤ sp) (s1 : sp ≤ 15) :
    Calls Try.prog 3 #[.int .i64 ty, .agg #[.int .i64 pa, .int .i64 pb, .int .i64 pc], .agg #[.int .i64 qa, .int .i64 qb, .int .i64 qc], .int .i64 at_, .int .u64 v, .int .i64 left, .int .u64 mask, .int .i64 sp, .int .u64 by_] w fun e w' => e = .returned (.bool true) ∧ Ext w w' := by
  have hs := sup_ok t0 t1
  have hk := tpL_chk (a := qa) (b := qb) (c := qc) (v := v) a0 a1
  have wf := tpL_wf hq a0 a1 hv
  have wm : WfU (tpM ty pa pb pc) := setP_wf (tpS_wf hs) hp
  have hm := tpM_len ty pa pb pc
  have hspn : sp.toNat < 16 := by omega
  have hx := tpF_len (qa := qa) (qb := qb) (qc := qc) (at_ := at_) (v := v) (sp := sp.toNat) (by_ := by_) hm
  have wx : WfU (tpF (tpM ty pa pb pc) (tpL qa qb qc at_ v) sp.toNat by_) := tpF_wf wm hq a0 a1 hv hby
  have hj := tpF_has (qa := qa) (qb := qb) (qc := qc) (v := v) (by_ := by_) hm hspn a0 a1
  have d1 := td_dev (left := left) (mask := mask) hx hk wx wf l0 l1
  obtain ⟨r1, r2, r3, -⟩ := rep_crash left.toNat mask (by rw [hx]; exact hk) (by rw [tpL_len]; omega) wf hj
  rw [Int.toNat_of_nonneg l0] at r1 r2 r3
  have htw := tw_heals (x := tpF (tpM ty pa pb pc) (tpL qa qb qc at_ v) sp.toNat by_) (ty := ty) (sp := sp.toNat) hx hs hspn
    (fun h8 j hj => by rw [tpF_out hm hspn (by omega) (by omega)]; exact tpM_0 hj)
    (fun h8 j hj => by rw [tpF_out hm hspn (by omega) (by omega)]; exact tpM_8 hj)
  have hlast := tp_last (ty := ty) hs hspn hq qb1 a0 a1 r1 r2 r3
  obtain ⟨x6, -, -, -, -⟩ := heal_replay r1 r2 r3 (by rw [hx]; exact hk) (by rw [hx]; omega) ty
  rw [hx] at r1
  have k9 := fun A c W hA => tc_dev (left := left) hx (tpL_len qa qb qc at_ v) hk hj wx l0 l1 A c W hA
  have k7 := fun A c W hA => tc_cread hx (tpL_len qa qb qc at_ v) hk hj wx A c W hA
  have k8 := fun A c W hA => tc_eread hx (tpL_len qa qb qc at_ v) hk hj wx A c W hA
  have k13 := fun A c W hA => tc_sread hx A c W hA
  obtain ⟨X, hX⟩ : ∃ X, X = tpF (tpM ty pa pb pc) (tpL qa qb qc at_ v) sp.toNat by_ := ⟨_, rfl⟩
  rw [← hX] at d1 r1 r2 r3 htw hlast x6 k7 k8 k9 k13 hx
  obtain ⟨⟨m1, q1, l2, n1⟩, eD⟩ : ∃ D, runD (X, [], left, false) (repOps (tpL qa qb qc at_ v)) = D := ⟨_, rfl⟩
  rw [eD] at d1 r1 r2 r3 hlast x6 k9
  simp only at d1 r1 r2 r3 hlast x6
  have k10 := fun A c B d W (ha : Sl W A m1.length c (fU m1)) (hb : Sl W B q1.length d (fD q1)) => dCrash_ok' (mask := mask) d1.1 hmk A c B d W ha hb
  have wz := d1.2
  obtain ⟨z, hz⟩ : ∃ z, crM mask 0 m1 q1 = z := ⟨_, rfl⟩
  rw [hz] at r1 r2 r3 hlast x6 k10 wz
  have hr0 := rt_congr x6 (k := 0) (by omega)
  have hb0 := rtB_congr (r1.trans hx.symm) x6 (k := 0) (by omega)
  have hb8 := rtB_congr (r1.trans hx.symm) x6 (k := 8) (by omega)
  have hr8 := rt_congr x6 (k := 8) (by omega)
  have heE : twE z = twE X := by unfold twE; rw [hb0, hb8]
  have heF : ∀ i, i < 8 → twF z i = twF X i := fun i hi => by unfold twF; rw [hb0, hb8, hr0.2 i hi, hr8.2 i hi]
  have hez : twE z = 0 := heE.trans htw.1
  have k11 := fun A c W hA => tc_view r1 hez A c W hA
  have hyl := twC_len r1
  have wy := twC_wf wz hez
  have k12 := fun A c W hA => tc_image hyl wy A c W hA
  obtain ⟨c1, c2, c3, c4, c5, c6, c7, c8⟩ := hlast
  have k16 := fun A c B d W hA hB => tc_after (mask := mask) hm (tpL_len qa qb qc at_ v) hk wm wf hmk (tpM_far (by decide) (by decide)) c6 A c B d W hA hB
  refine topJournal_walk ty pa pb pc qa qb qc at_ v left mask sp by_ (supW 256 ty) (tpS ty) (tpM ty pa pb pc) (jwords (tpL qa qb qc at_ v)) X m1 z (twC z 2) (imgL (twC z 2)) (chX (tpM ty pa pb pc) (tpL qa qb qc at_ v)) (phL qa qb qc) (tpL qa qb qc at_ v) q1 [] l2 n1 (imgL (twC z 2)).length (crE (twC z 2)) (fnS X 0 2) (fnS X 0 3) (rtS X 0) w
    t0 t1 pb1 qb1 a0 a1 l0 l1 s0 s1 (by rw [phE, hp, if_pos rfl]) (by rw [phE, hq, if_pos rfl]) rfl rfl hm jw_len hX rfl
    (fun W => tc_write hs W) (fun A k W hA => tc_set hp A k W hA) (fun W => phWrite_ok qa qb qc W hq) (fun B d W hB => tc_check a0 a1 B d W hB) (fun B d W hB => tc_journal hq a0 a1 hv B d W hB) (fun A c W hA => tc_twin hm A c W hA)
    k7 k8 k9 k10 k11 k12 k13 k16 c6 ?_
  rcases htw.2 with ⟨h8, hr, hn⟩ | ⟨hc, hf2, hf3⟩
  · refine .inl ⟨by omega, hr, ?_⟩
    rw [Bool.and_eq_false_iff, beq_eq_false_iff_ne, beq_eq_false_iff_ne]
    by_cases h : fnS X 0 2 = 256
    · exact .inr fun h' => hn ⟨h, h'⟩
    · exact .inl h
  · have hy : twC z 2 = hl2 z ty := twC2 ((heF 2 (by omega)).trans hf2) ((heF 3 (by omega)).trans hf3)
    rw [hy] at wy ⊢
    refine .inr ⟨by rcases hc with h | h | h; exact .inl (by omega); exact .inr (.inl h); exact .inr (.inr h), c2, c1, c2, c5, fun A c W hA => tc_tread c2 c3 A c W hA, fun A c W hA => tc_pread c2 (imgL_wf wy) c4 A c W hA, c7, c8⟩
theorem topJournal_any (ty pa pb pc qa qb qc at_ v left mask sp by_ : Int) (w : World) (hv : InU v) (hmk : InU mask) (hby : InU by_) :
    Calls Try.prog 3 #[.int .i64 ty, .agg #[.int .i64 pa, .int .i64 pb, .int .i64 pc], .agg #[.int .i64 qa, .int .i64 qb, .int .i64 qc], .int .i64 at_, .int .u64 v, .int .i64 left, .int .u64 mask, .int .i64 sp, .int .u64 by_] w fun e w' => e = .returned (.bool true) ∧ Ext w w' := by
  by_cases h : 0 ≤ ty ∧ ty ≤ 8 ∧ phB pa pb pc = true ∧ phB qa qb qc = true ∧ pb ≤ 256 ∧ qb ≤ 256 ∧ 128 ≤ at_ ∧ at_ ≤ 255 ∧ 0 ≤ left ∧ left ≤ 200 ∧ 0 ≤ sp ∧ sp ≤ 15
  · obtain ⟨t0, t1, hp, hq, b1, b2, a0, a1, l0, l1, s0, s1⟩ := h
    exact topJournal_yes ty pa pb pc qa qb qc at_ v left mask sp by_ w hv hmk hby t0 t1 hp hq b1 b2 a0 a1 l0 l1 s0 s1
  · exact topJournal_no ty pa pb pc qa qb qc at_ v left mask sp by_ w h
set_option maxRecDepth 100000 in
theorem topJournal_lifted (os : Os) (started : os.Started) (H : Type) (enc : TypeId × Value → H) :
    ReturnsInHanded {} Try.checked os 3 .any (Rows.topJournalSpec.pre6 enc Try.prog Try.f3 Rows.topJournalRow.domain false) (Rows.topJournalSpec.post enc Try.prog Try.f3 false true false false) := by
  refine returnsInHanded_of_change (C := Try.checked) own_knob started (by kernel_rfl) Try.func3
    (ChangeSpec.witness6 (enc := enc) (C := Try.checked) false ⟨#[], #[.int .i64 0, .agg #[.int .i64 0, .int .i64 0, .int .i64 0], .agg #[.int .i64 0, .int .i64 0, .int .i64 0], .int .i64 0, .int .u64 0, .int .i64 0, .int .u64 0, .int .i64 0, .int .u64 0], []⟩ 8 (by kernel_rfl) (by kernel_rfl) (by kernel_rfl) (by kernel_rfl)) ?_
  intro W base args ds gs before hval0 hW hcnd _
  have hval : ∀ (j : Nat) t v, Try.f3.params[j]? = some t → args[j]? = some v → Value.okWide Try.prog W .any base t v := hval0
  have hW' := hW
  obtain ⟨p, q, hA0, hV, rfl, hfz, hnd⟩ := hW
  have hA : DataW.TrodAll enc Try.prog W 0 (fun _ => true) true Try.f3.params.toList args.toList ds p := hA0
  rw [Try.params3] at hA hval
  obtain ⟨v0, vs0, d0, ds0, p0, q0, hargs, rfl, rfl, h0, r0⟩ := trodAll_cons hA
  obtain ⟨v1, vs1, d1, ds1, p1, q1, rfl, rfl, rfl, h1, r1⟩ := trodAll_cons r0
  obtain ⟨v2, vs2, d2, ds2, p2, q2, rfl, rfl, rfl, h2, r2⟩ := trodAll_cons r1
  obtain ⟨v3, vs3, d3, ds3, p3, q3, rfl, rfl, rfl, h3, r3⟩ := trodAll_cons r2
  obtain ⟨v4, vs4, d4, ds4, p4, q4, rfl, rfl, rfl, h4, r4⟩ := trodAll_cons r3
  obtain ⟨v5, vs5, d5, ds5, p5, q5, rfl, rfl, rfl, h5, r5⟩ := trodAll_cons r4
  obtain ⟨v6, vs6, d6, ds6, p6, q6, rfl, rfl, rfl, h6, r6⟩ := trodAll_cons r5
  obtain ⟨v7, vs7, d7, ds7, p7, q7, rfl, rfl, rfl, h7, r7⟩ := trodAll_cons r6
  obtain ⟨v8, vs8, d8, ds8, p8, q8, rfl, rfl, rfl, h8, r8⟩ := trodAll_cons r7
  obtain ⟨rfl, rfl, rfl⟩ := trodAll_nil r8
  obtain rfl : args = #[v0, v1, v2, v3, v4, v5, v6, v7, v8] := by cases args; simp_all
  obtain ⟨rfl, rfl⟩ := trodVars_none hV
  obtain ⟨x0, rfl, wx0⟩ := op_i (hval 0 3 v0 rfl rfl) h0
  obtain ⟨a1, b1, c1, rfl, ha1, hb1, hc1⟩ := op_P (hval 1 23 v1 rfl rfl) h1
  obtain ⟨a2, b2, c2, rfl, ha2, hb2, hc2⟩ := op_P (hval 2 23 v2 rfl rfl) h2
  obtain ⟨x3, rfl, wx3⟩ := op_i (hval 3 3 v3 rfl rfl) h3
  obtain ⟨x4, rfl, wx4⟩ := op_u (hval 4 24 v4 rfl rfl) h4
  obtain ⟨x5, rfl, wx5⟩ := op_i (hval 5 3 v5 rfl rfl) h5
  obtain ⟨x6, rfl, wx6⟩ := op_u (hval 6 24 v6 rfl rfl) h6
  obtain ⟨x7, rfl, wx7⟩ := op_i (hval 7 3 v7 rfl rfl) h7
  obtain ⟨x8, rfl, wx8⟩ := op_u (hval 8 24 v8 rfl rfl) h8
  clear hA0 hval0 hval hA
  refine (topJournal_any x0 a1 b1 c1 a2 b2 c2 x3 x4 x5 x6 x7 x8 W wx4 wx6 wx8).mono fun e W' ⟨he, hx⟩ => ?_
  subst he
  exact ⟨_, rfl, post_law laid_out (by kernel_rfl) hW' rfl rfl rfl Try.underlying4 hx⟩
theorem topJournal_holds : Rows.TopJournalSaid :=
  OpenClaim.holds_of_wide 3 Try.f3 rfl rfl rfl rfl rfl rfl rfl ⟨rfl, rfl, rfl, rfl, rfl⟩ rfl rfl rfl rfl rfl (by kernel_rfl) Try.func3 (by kernel_rfl)
    (of_decide_eq_true (by kernel_rfl)) (by unfold Func.isWrapper; first | (rw [if_pos (by decide +kernel)]; kernel_rfl) | (rw [if_neg (by decide +kernel)]; exact ⟨rfl, rfl⟩))
    (fun os started H enc _ => topJournal_lifted os started H enc)
end Go.Proofs.Ytmkcpnklaijkfaa
