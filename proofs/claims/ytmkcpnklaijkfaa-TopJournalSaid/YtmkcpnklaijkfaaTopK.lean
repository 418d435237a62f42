/-
  TopJournal: the contracts of what it calls, at its own lists.
-/
import Derived.Test.YtmkcpnklaijkfaaTopL
import Derived.Test.YtmkcpnklaijkfaaTopA
import Derived.Test.YtmkcpnklaijkfaaDev10
namespace Go.Proofs.Ytmkcpnklaijkfaa
open Go.RowKit
section
variable {ty pa pb pc qa qb qc at_ v by_ left mask : Int} {sp : Nat}
theorem tc_write (hs : supB 256 ty = true) (W : World) : Calls Try.prog 22 #[.agg #[.int .i64 256, .int .i64 ty]] W fun e w' => (∃ g c, e = .returned (.tuple #[.slice (some ⟨g, 0, none⟩) 8 c, .int .i64 0]) ∧ Sl w' (some ⟨g, 0, none⟩) 8 c (fU (supW 256 ty))) ∧ Ext W w' :=
  (supWrite_any 256 ty W).mono fun e w' h => by
    rcases h with ⟨_, ⟨g, c, he, hl, _⟩, hx⟩ | ⟨hn, _⟩
    · exact ⟨⟨g, c, he, hl⟩, hx⟩
    · rw [hs] at hn
      cases hn
theorem sizeB256 : sizeB ((256 : Nat) : Int) = true := by decide
theorem tc_set (hp : phB pa pb pc = true) (A : Option Addr) (k : Nat) (W : World) (hA : Sl W A 256 k (fU (tpS ty))) :
    Calls Try.prog 23 #[.slice A 256 k, .agg #[.int .i64 pa, .int .i64 pb, .int .i64 pc]] W (RetOwn2 W 24 1 256 (fU (tpM ty pa pb pc)) 0) := by
  have h0 : spE ((256 : Nat) : Int) pa pb pc = 0 := by rw [spE, sizeB256, if_pos rfl, phE, hp, if_pos rfl]
  have := phSet_any (tpS ty) A k pa pb pc W (by rw [tpS_len]; exact hA)
  rw [tpS_len, h0] at this
  exact this.mono fun e w' h => by
    rcases h with ⟨_, h⟩ | ⟨hn, _⟩
    · exact h
    · exact absurd rfl hn
theorem tc_check (a0 : 128 ≤ at_) (a1 : at_ ≤ 255) (B : Option Addr) (d : Nat) (W : World) (hB : Sl W B 4 d (fE (tpL qa qb qc at_ v))) :
    Calls Try.prog 25 #[.slice B 4 d, .int .i64 256] W fun e w' => e = .returned (.int .i64 0) ∧ Ext W w' := by
  have := refCheck8_any (tpL qa qb qc at_ v) 256 B d W hB
  rw [tpL_chk a0 a1] at this
  exact this.mono fun e w' h => ⟨h.1, h.2.ext⟩
theorem tc_journal (hq : phB qa qb qc = true) (a0 : 128 ≤ at_) (a1 : at_ ≤ 255) (hv : InU v) (B : Option Addr) (d : Nat) (W : World) (hB : Sl W B 4 d (fE (tpL qa qb qc at_ v))) :
    Calls Try.prog 26 #[.slice B 4 d, .int .i64 256] W fun e w' => ∃ A c, e = .returned (.tuple #[.slice A 16 c, .int .i64 0]) ∧ Sl w' A 16 c (fU (jwords (tpL qa qb qc at_ v))) ∧ Ext W w' := by
  have hk := tpL_chk (a := qa) (b := qb) (c := qc) (v := v) a0 a1
  have hc := (cw_facts hk (by rw [tpL_len]; omega)).2.2.2.1
  have := journal_any (tpL qa qb qc at_ v) 256 B d W hB (tpL_wf hq a0 a1 hv)
  rw [jrL, hc, if_pos rfl] at this
  unfold RetU at this
  rw [jw_len] at this
  exact this
theorem tc_twin {m : List Int} (hm : m.length = 256) (A : Option Addr) (c : Nat) (W : World) (hA : Sl W A 256 c (fU m)) :
    Calls Try.prog 27 #[.slice A 256 c] W (RetOwn W 24 1 256 (fU m)) := by
  have := twin2_any m A c W (by rw [hm]; exact hA) (by omega)
  rw [hm] at this
  exact this
theorem tc_cread {x : List Int} {l : List (Int × Int)} (hx : x.length = 256) (hl : l.length = 4) (hk : chkE l 256 = 0) (hj : JHas x l) (wx : WfU x) (A : Option Addr) (c : Nat) (W : World) (hA : Sl W A 256 c (fU x)) :
    Calls Try.prog 28 #[.slice A 256 c] W fun e w' => (∃ B d, e = .returned (.tuple #[.slice B 4 d, .int .i64 0])) ∧ Ext W w' := by
  have := commitRead_any x A c W (by rw [hx]; exact hA) wx
  obtain ⟨_, h1, h2⟩ := cr_has (x := x) (l := l) (by rw [hx]; exact hk) (by omega) hj
  rw [h1, h2, hx] at this
  unfold RetE at this
  rw [hl] at this
  exact this.mono fun e w' ⟨B, d, he, _, hx⟩ => ⟨⟨B, d, he⟩, hx⟩
theorem tc_eread {x : List Int} {l : List (Int × Int)} (hx : x.length = 256) (hl : l.length = 4) (hk : chkE l 256 = 0) (hj : JHas x l) (wx : WfU x) (A : Option Addr) (c : Nat) (W : World) (hA : Sl W A 256 c (fU x)) :
    Calls Try.prog 29 #[.slice A 256 c, .int .i64 4] W fun e w' => (∃ B d, e = .returned (.tuple #[.slice B 4 d, .int .i64 0])) ∧ Ext W w' := by
  have h := entryRead_any x 4 A c W (by rw [hx]; exact hA) wx
  have hjl := jnl_has (x := x) (l := l) (by rw [hx]; exact hk) hj.2
  rw [hl] at hjl
  have h0 : rdE x 4 = 0 := by
    unfold rdE
    rw [hx, sizeB256, if_pos rfl, if_neg (by decide), show (4 : Int).toNat = 4 from rfl, hjl, if_pos (by exact hk)]
  rw [h0, hx, show (4 : Int).toNat = 4 from rfl] at h
  exact h.mono fun e w' h => by
    rcases h with ⟨_, A', c', he, _, _, hx'⟩ | ⟨hn, _⟩
    · exact ⟨⟨A', c', he⟩, hx'⟩
    · exact absurd rfl hn
theorem tc_dev {x : List Int} {l : List (Int × Int)} (hx : x.length = 256) (hl : l.length = 4) (hk : chkE l 256 = 0) (hj : JHas x l) (wx : WfU x) (l0 : 0 ≤ left) (l1 : left ≤ 200) (A : Option Addr) (c : Nat) (W : World) (hA : Sl W A 256 c (fU x)) :
    Calls Try.prog 30 #[.agg #[.slice A 256 c, .slice none 0 0, .int .i64 left, .bool false]] W (RetV W (runD (x, [], left, false) (repOps l)) 0) := by
  obtain ⟨_, h1, h2⟩ := cr_has (x := x) (l := l) (by rw [hx]; exact hk) (by omega) hj
  have hd : devB x [] left false = true := devB_mk (by rw [hx]; exact sizeB256) (by omega) (by omega) (by intro h; cases h) rfl
  have := dev10_yes x [] left false A c none 0 W (by rw [hx]; exact hA) (Sl.nil_ W) wx (fun x hx => by cases hx) hd h1 (by show (crL x).length ≠ 0; rw [h2]; omega)
  rw [show wrd x [] = x from rfl, h2, hx] at this
  exact this
/-- The device that replaying leaves is a device; its words are words. -/
theorem td_dev {x : List Int} {l : List (Int × Int)} (hx : x.length = 256) (hk : chkE l 256 = 0) (wx : WfU x) (wf : WfE l) (l0 : 0 ≤ left) (l1 : left ≤ 200) :
    devB (runD (x, [], left, false) (repOps l)).1 (runD (x, [], left, false) (repOps l)).2.1 (runD (x, [], left, false) (repOps l)).2.2.1 (runD (x, [], left, false) (repOps l)).2.2.2 = true ∧
    WfU (crM mask 0 (runD (x, [], left, false) (repOps l)).1 (runD (x, [], left, false) (repOps l)).2.1) := by
  have hd : devB x [] left false = true := devB_mk (by rw [hx]; exact sizeB256) (by omega) (by omega) (by intro h; cases h) rfl
  obtain ⟨_, hr⟩ := rep_wf hk
  have h8 : (x.length : Int) % 8 = 0 := by rw [hx]; decide
  have ho : ∀ o ∈ repOps l, OpIn x.length o := by
    intro o ho
    unfold repOps at ho
    rcases List.mem_append.1 ho with h | h
    · exact putOps_in (by rw [hx]; exact hr) h8 wf 256 o h
    · exact putOps_in (fun e he => by simp at he; subst he; simp only; omega) h8 wf24 256 o h
  have hw := runD_W (n := (x.length : Int)) (by omega) (D := (x, [], left, false)) (os := repOps l) ⟨wx, fun x hx => by cases hx⟩ ho
  exact ⟨(devB_run (left := left) (down := false) hd ho).1, wfU_cr hw.2 hw.1⟩
theorem tc_view {z : List Int} (hz : z.length = 256) (h0 : twE z = 0) (A : Option Addr) (c : Nat) (W : World) (hA : Sl W A z.length c (fU z)) :
    Calls Try.prog 32 #[.slice A z.length c] W fun e w' => (∃ g c, e = .returned (.tuple #[.slice (some ⟨g, 0, none⟩) 256 c, .int .i64 0]) ∧ Sl w' (some ⟨g, 0, none⟩) 256 c (fU (twC z 2))) ∧ Ext W w' := by
  have := twView_any z A c W hA (by rw [hz]; exact sizeB256)
  rw [h0] at this
  exact this.mono fun e w' h => by
    rw [hz] at h
    rcases h with ⟨_, ⟨g, c, he, hs⟩, hx⟩ | ⟨hn, _⟩
    · exact ⟨⟨g, c, he, hs⟩, hx⟩
    · cases hn
theorem twC_len {z : List Int} (hz : z.length = 256) : (twC z 2).length = 256 := by
  have h1 : ∀ n t, (splice z 0 (supW n t)).length = 256 := fun n t => by rw [splice_len (by rw [supW_len]; omega), hz]
  simp only [twC]
  rw [if_neg (by decide), if_neg (by decide), splice_len (by rw [h1, supW_len]; omega), h1]
theorem twC_wf {z : List Int} (wz : WfU z) (h0 : twE z = 0) : WfU (twC z 2) := by
  have hs := supW_wf (twF_sup h0)
  simp only [twC]
  rw [if_neg (by decide), if_neg (by decide)]
  exact wf_splice' (wf_splice' wz hs) hs
theorem tc_image {y : List Int} (hy : y.length = 256) (wy : WfU y) (A : Option Addr) (c : Nat) (W : World) (hA : Sl W A 256 c (fU y)) :
    Calls Try.prog 33 #[.slice A 256 c] W (RetU W (imgL y) (crE y)) := by
  have := image10_any y A c W (by rw [hy]; exact hA) wy
  rw [hy] at this
  exact this
theorem tc_sread {x : List Int} (hx : x.length = 256) (A : Option Addr) (c : Nat) (W : World) (hA : Sl W A 256 c (fU x)) :
    Calls Try.prog 34 #[.slice A 8 c] W fun e w' => e = .returned (.tuple #[.agg #[.int .i64 (fnS x 0 2), .int .i64 (fnS x 0 3)], .int .i64 (if rtS x 0 then 0 else 50)]) ∧ Ext W w' :=
  rd_at0 x (by omega) A c W (by rw [hx]; exact hA)
theorem tc_tread {y : List Int} (hy : y.length = 256) (h : twE y = 0 ∧ twF y 2 = 256 ∧ twF y 3 = ty ∧ rtB y 0 = true ∧ rtB y 8 = true) (A : Option Addr) (c : Nat) (W : World) (hA : Sl W A 256 c (fU y)) :
    Calls Try.prog 35 #[.slice A 256 c] W fun e w' => e = .returned (.tuple #[.agg #[.int .i64 256, .int .i64 ty], .agg #[.bool true, .bool true], .int .i64 0]) ∧ Ext W w' := by
  have := twRead_any y A c W (by rw [hy]; exact hA) (by rw [hy]; exact sizeB256)
  rw [h.1, h.2.1, h.2.2.1, h.2.2.2.1, h.2.2.2.2, hy] at this
  exact this
theorem tc_pread {y : List Int} (hy : y.length = 256) (wy : WfU y) (h : prE y = 0 ∧ prA y 16 = qa ∧ prA y 17 = qb ∧ prA y 18 = qc) (A : Option Addr) (c : Nat) (W : World) (hA : Sl W A 256 c (fU y)) :
    Calls Try.prog 36 #[.slice A 256 c] W fun e w' => e = .returned (.tuple #[.agg #[.int .i64 qa, .int .i64 qb, .int .i64 qc], .int .i64 0]) ∧ Ext W w' := by
  have := phRead_any y A c W (by rw [hy]; exact hA) wy
  unfold RdP at this
  rw [h.1, h.2.1, h.2.2.1, h.2.2.2, hy] at this
  exact this
theorem imgL_wf {y : List Int} (wy : WfU y) : WfU (imgL y) := by
  unfold imgL
  split
  · rename_i h
    exact imgX_wf wy h
  · exact fun x hx => by cases hx
theorem tc_after {m : List Int} {l : List (Int × Int)} (hm : m.length = 256) (hl : l.length = 4) (hk : chkE l 256 = 0) (wm : WfU m) (wf : WfE l) (hmk : InU mask) (h24 : m[24]? = some 0) (hc : (chX m l).length = 256)
    (A : Option Addr) (c : Nat) (B : Option Addr) (d : Nat) (W : World) (hA : Sl W A 256 c (fU m)) (hB : Sl W B 4 d (fE l)) :
    Calls Try.prog 37 #[.agg #[.slice A 256 c, .slice none 0 0, .int .i64 (-1), .bool false], .slice B 4 d, .int .u64 mask] W fun e w' => ∃ A c, e = .returned (.tuple #[.slice A 256 c, .int .i64 0]) ∧ Sl w' A 256 c (fU (chX m l)) ∧ Ext W w' := by
  have hk' : chkE l m.length = 0 := by rw [hm]; exact hk
  have := aAfter_any m [] (-1) false l mask A c none 0 B d W (by rw [hm]; exact hA) (Sl.nil_ W) (by rw [hl]; exact hB) wm (fun x hx => by cases hx) wf hmk
  rw [af_is mask hk' wf h24, (af_free mask hk' wf h24).1, hm, hl] at this
  unfold RetU at this
  rw [hc] at this
  exact this
end
end Go.Proofs.Ytmkcpnklaijkfaa
