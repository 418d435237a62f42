/-
  TopJournal: the plain law.
-/
import Derived.Test.YtmkcpnklaijkfaaLawR
import Derived.Test.YtmkcpnklaijkfaaAtL
import Derived.Test.YtmkcpnklaijkfaaGL
import Derived.Test.YtmkcpnklaijkfaaTwn3
namespace Go.Proofs.Ytmkcpnklaijkfaa
open Go.RowKit
/-- The image with two copies of a superblock; with a phase; the change; the image with the change committed and a word spoilt. -/
def tpS (ty : Int) : List Int := supW 256 ty ++ supW 256 ty ++ zerosU 240
def tpM (ty a b c : Int) : List Int := setP (tpS ty) a b c
def tpL (a b c at_ v : Int) : List (Int × Int) := phL a b c ++ [(at_, v)]
def tpF (m : List Int) (l : List (Int × Int)) (sp : Nat) (by_ : Int) : List Int := (splice m 24 (jwords l)).set sp by_
/-- An image with a superblock at both places. -/
def hl2 (z : List Int) (ty : Int) : List Int := splice (splice z 0 (supW 256 ty)) 8 (supW 256 ty)
theorem supW_len (n t : Int) : (supW n t).length = 8 := rfl
theorem tpS_len (ty : Int) : (tpS ty).length = 256 := by simp only [tpS, List.length_append, supW_len, zerosU_length]
theorem tpM_len (ty a b c : Int) : (tpM ty a b c).length = 256 := by rw [tpM, setP_len (by rw [tpS_len]; omega), tpS_len]
theorem tpL_len (a b c at_ v : Int) : (tpL a b c at_ v).length = 4 := rfl
theorem tpL_chk {a b c at_ v : Int} (h0 : 128 ≤ at_) (h1 : at_ ≤ 255) : chkE (tpL a b c at_ v) 256 = 0 := by
  refine chk_iff.2 ⟨by decide, by rw [tpL_len]; omega, ?_, ?_⟩
  · intro x hx
    simp only [tpL, phL, List.cons_append, List.nil_append, List.mem_cons, List.not_mem_nil, or_false] at hx
    rcases hx with rfl | rfl | rfl | rfl <;> simp [mayB] <;> omega
  · simp only [tpL, phL, List.cons_append, List.nil_append, List.map_cons, List.map_nil]
    simp
    omega
theorem tpL_wf {a b c at_ v : Int} (h : phB a b c = true) (h0 : 128 ≤ at_) (h1 : at_ ≤ 255) (hv : InU v) : WfE (tpL a b c at_ v) := by
  have := phB_bd h
  intro x hx
  simp only [tpL, phL, List.cons_append, List.nil_append, List.mem_cons, List.not_mem_nil, or_false] at hx
  unfold InU at hv
  rcases hx with rfl | rfl | rfl | rfl <;> (refine ⟨?_, ?_⟩ <;> simp only [InI, InU] <;> omega)
theorem wf_app {m o : List Int} (h : WfU m) (k : WfU o) : WfU (m ++ o) := fun x hx => by
  rcases List.mem_append.1 hx with h1 | h1
  · exact h x h1
  · exact k x h1
theorem supW_wf {n t : Int} (h : supB n t = true) : WfU (supW n t) := by
  simp only [supB, Bool.and_eq_true, decide_eq_true_eq] at h
  have h1 := sizeB_bd h.1.1
  have h2 := sumOf_in (sup7 n t)
  intro x hx
  simp only [supW, List.mem_cons, List.not_mem_nil, or_false] at hx
  unfold InU
  rcases hx with rfl | rfl | rfl | rfl | rfl | rfl | rfl | rfl
  all_goals first | omega | (unfold supS; omega)
theorem sup_ok {ty : Int} (h0 : 0 ≤ ty) (h1 : ty ≤ 8) : supB 256 ty = true := by
  simp only [supB, Bool.and_eq_true, decide_eq_true_eq]
  exact ⟨⟨by decide, h0⟩, h1⟩
theorem tpS_wf {ty : Int} (h : supB 256 ty = true) : WfU (tpS ty) := wf_app (wf_app (supW_wf h) (supW_wf h)) (wf_zeros _)
theorem setP_wf {m : List Int} {a b c : Int} (wm : WfU m) (h : phB a b c = true) : WfU (setP m a b c) := by
  have := phB_bd h
  refine wf_splice' wm fun x hx => ?_
  simp only [List.mem_cons, List.not_mem_nil, or_false] at hx
  unfold InU
  rcases hx with rfl | rfl | rfl <;> omega
/-- What is committed asks for the size and the words from 24 on alone. -/
theorem cr_congr {x y : List Int} (hl : x.length = y.length) (h : ∀ j : Nat, 24 ≤ j → x[j]? = y[j]?) : crE x = crE y ∧ crL x = crL y := by
  have hg : ∀ j : Nat, 24 ≤ j → x.getD j 0 = y.getD j 0 := fun j hj => by rw [List.getD, List.getD, h j hj]
  have h1 : jw x = jw y := hg 24 (by omega)
  have h2 : ∀ i, jat x i = jat y i := fun i => by unfold jat; rw [hl, hg (32 + 2 * i) (by omega), hg (33 + 2 * i) (by omega)]
  have h3 : ∀ n, jnl x n = jnl y n := fun n => by unfold jnl; rw [show jat x = jat y from funext h2]
  have h4 : cn x = cn y := by unfold cn; rw [h1]
  have h5 : crB x = crB y := by unfold crB; rw [h1, h4, h3, hl]
  exact ⟨by unfold crE; rw [hl, h1, h5], by unfold crL; rw [hl, h5, h4, h3]⟩
theorem hl2_len {z : List Int} {ty : Int} (h : 16 ≤ z.length) : (hl2 z ty).length = z.length := by
  have h1 : (splice z 0 (supW 256 ty)).length = z.length := splice_len (by rw [supW_len]; omega)
  rw [hl2, splice_len (by rw [h1, supW_len]; omega), h1]
theorem hl2_out {z : List Int} {ty : Int} (h : 16 ≤ z.length) {j : Nat} (hj : 16 ≤ j) : (hl2 z ty)[j]? = z[j]? := by
  have h1 : (splice z 0 (supW 256 ty)).length = z.length := splice_len (by rw [supW_len]; omega)
  rw [hl2, splice_out (by rw [h1, supW_len]; omega) (by rw [supW_len]; omega), splice_out (by rw [supW_len]; omega) (by rw [supW_len]; omega)]
theorem splice_at {m cs : List Int} {off j : Nat} (h : off + cs.length ≤ m.length) (hj : j < cs.length) : (splice m off cs)[off + j]? = cs[j]? := by
  rw [splice, List.getElem?_append_right (by simp; omega), List.getElem?_append_left (by simp; omega)]
  congr 1
  simp
  omega
theorem hl2_0 {z : List Int} {ty : Int} (h : 16 ≤ z.length) {j : Nat} (hj : j < 8) : (hl2 z ty)[0 + j]? = (supW 256 ty)[j]? := by
  have h1 : (splice z 0 (supW 256 ty)).length = z.length := splice_len (by rw [supW_len]; omega)
  rw [hl2, splice_out (by rw [h1, supW_len]; omega) (by omega), splice_at (by rw [supW_len]; omega) (by rw [supW_len]; exact hj)]
theorem hl2_8 {z : List Int} {ty : Int} (h : 16 ≤ z.length) {j : Nat} (hj : j < 8) : (hl2 z ty)[8 + j]? = (supW 256 ty)[j]? := by
  have h1 : (splice z 0 (supW 256 ty)).length = z.length := splice_len (by rw [supW_len]; omega)
  rw [hl2, splice_at (by rw [h1, supW_len]; omega) (by rw [supW_len]; exact hj)]
/-- A place that holds the words of a superblock. -/
theorem rt_sup {m : List Int} {k : Nat} {ty : Int} (hs : supB 256 ty = true) (h : ∀ j : Nat, j < 8 → m[k + j]? = (supW 256 ty)[j]?) : rtS m k = true ∧ fnS m k 2 = 256 ∧ fnS m k 3 = ty := by
  have g : ∀ j : Nat, j < 8 → m.getD (k + j) 0 = (supW 256 ty).getD j 0 := fun j hj => by rw [List.getD, List.getD, h j hj]
  unfold supW at g
  obtain ⟨S, hS⟩ : ∃ S, supS 256 ty = S := ⟨_, rfl⟩
  rw [hS] at g
  have g0 : m.getD k 0 = 32777959566500194 := by simpa using g 0 (by omega)
  have g1 : m.getD (k + 1) 0 = 1 := by simpa using g 1 (by omega)
  have g2 : m.getD (k + 2) 0 = 256 := by simpa using g 2 (by omega)
  have g3 : m.getD (k + 3) 0 = ty := by simpa using g 3 (by omega)
  have g4 : m.getD (k + 4) 0 = 0 := by simpa using g 4 (by omega)
  have g5 : m.getD (k + 5) 0 = 0 := by simpa using g 5 (by omega)
  have g6 : m.getD (k + 6) 0 = 0 := by simpa using g 6 (by omega)
  have g7 : m.getD (k + 7) 0 = supS 256 ty := by rw [hS]; simpa using g 7 (by omega)
  have hr : rtS m k = true := by
    unfold rtS rdS
    rw [g0, g1, g2, g3, g4, g5, g6, g7, hs]
    simp
  exact ⟨hr, by rw [fnS, if_pos hr, g2], by rw [fnS, if_pos hr, g3]⟩
theorem rtB_sup {m : List Int} {k : Nat} {ty : Int} (hl : m.length = 256) (hs : supB 256 ty = true) (h : ∀ j : Nat, j < 8 → m[k + j]? = (supW 256 ty)[j]?) : rtB m k = true := by
  obtain ⟨h1, h2, _⟩ := rt_sup hs h
  have h3 : m.getD (k + 2) 0 = 256 := by rw [← h2, fnS, if_pos h1]
  rw [rtB, h1, h3, hl]
  rfl
/-- What is read at a place asks for its words alone. -/
theorem rt_congr {x y : List Int} (h : ∀ j : Nat, j < 16 → x[j]? = y[j]?) {k : Nat} (hk : k ≤ 8) : rtS x k = rtS y k ∧ ∀ i, i < 8 → fnS x k i = fnS y k i := by
  have g : ∀ j : Nat, j < 16 → x.getD j 0 = y.getD j 0 := fun j hj => by rw [List.getD, List.getD, h j hj]
  have h1 : rtS x k = rtS y k := by
    unfold rtS
    rw [g k (by omega), g (k + 1) (by omega), g (k + 2) (by omega), g (k + 3) (by omega), g (k + 4) (by omega), g (k + 5) (by omega), g (k + 6) (by omega), g (k + 7) (by omega)]
  exact ⟨h1, fun i hi => by rw [fnS, fnS, h1, g (k + i) (by omega)]⟩
theorem rtB_congr {x y : List Int} (hl : x.length = y.length) (h : ∀ j : Nat, j < 16 → x[j]? = y[j]?) {k : Nat} (hk : k ≤ 8) : rtB x k = rtB y k := by
  rw [rtB, rtB, (rt_congr h hk).1, hl, List.getD, List.getD, h (k + 2) (by omega)]
section
variable {ty pa pb pc qa qb qc at_ v by_ : Int} {sp : Nat}
/-- The words of the image with a phase. -/
theorem tpM_0 {j : Nat} (hj : j < 8) : (tpM ty pa pb pc)[0 + j]? = (supW 256 ty)[j]? := by
  rw [tpM, setP, splice_out (by rw [tpS_len]; simp) (by omega), tpS, Nat.zero_add, List.append_assoc, List.getElem?_append_left (by rw [supW_len]; exact hj)]
theorem tpM_8 {j : Nat} (hj : j < 8) : (tpM ty pa pb pc)[8 + j]? = (supW 256 ty)[j]? := by
  rw [tpM, setP, splice_out (by rw [tpS_len]; simp) (by omega), tpS, List.append_assoc, List.getElem?_append_right (by rw [supW_len]; omega), supW_len, show 8 + j - 8 = j from by omega, List.getElem?_append_left (by rw [supW_len]; exact hj)]
theorem tpM_far {j : Nat} (h0 : 19 ≤ j) (h1 : j < 256) : (tpM ty pa pb pc)[j]? = some 0 := by
  rw [tpM, setP, splice_out (by rw [tpS_len]; simp) (by simp; omega), tpS, List.append_assoc, List.getElem?_append_right (by rw [supW_len]; omega), List.getElem?_append_right (by simp only [supW_len]; omega), zerosU]
  rw [List.getElem?_replicate, if_pos (by simp only [supW_len]; omega)]
theorem jw_len : (jwords (tpL qa qb qc at_ v)).length = 16 := by rw [jwords_length, tpL_len]
theorem tpF_len {m : List Int} (hm : m.length = 256) : (tpF m (tpL qa qb qc at_ v) sp by_).length = 256 := by
  rw [tpF, List.length_set, splice_len (by rw [jw_len, hm]; omega), hm]
theorem tpF_out {m : List Int} (hm : m.length = 256) (hsp : sp < 16) {j : Nat} (h0 : j ≠ sp) (hj : j < 24 ∨ 40 ≤ j) : (tpF m (tpL qa qb qc at_ v) sp by_)[j]? = m[j]? := by
  rw [tpF, List.getElem?_set_ne (by omega), splice_out (by rw [jw_len, hm]; omega) (by rw [jw_len]; omega)]
theorem tpF_has {m : List Int} (hm : m.length = 256) (hsp : sp < 16) (h0 : 128 ≤ at_) (h1 : at_ ≤ 255) : JHas (tpF m (tpL qa qb qc at_ v) sp by_) (tpL qa qb qc at_ v) := by
  have := put_has (m := m) (l := tpL qa qb qc at_ v) (by rw [hm]; exact tpL_chk h0 h1)
  refine jhas_far (by rw [tpL_len]; omega) (fun j hj => ?_) this.2
  rw [tpF, List.getElem?_set_ne (by omega)]
theorem tpF_wf {m : List Int} (wm : WfU m) (hq : phB qa qb qc = true) (h0 : 128 ≤ at_) (h1 : at_ ≤ 255) (hv : InU v) (hb : InU by_) : WfU (tpF m (tpL qa qb qc at_ v) sp by_) :=
  wfU_set (wf_splice' wm (wf_jwords (tpL_chk h0 h1) (by rw [tpL_len]; omega) (tpL_wf hq h0 h1 hv))) hb
/-- What is healed and replayed: z was left by a crash while replaying x. -/
theorem heal_replay {x z : List Int} {l : List (Int × Int)} (hz : z.length = x.length) (h0 : crE z = 0) (h1 : imgL z = (applied x l).set 24 0) (hk : chkE l x.length = 0) (hx : 256 ≤ x.length) (ty : Int) :
    (∀ j : Nat, j < 16 → z[j]? = x[j]?) ∧ crE (hl2 z ty) = 0 ∧ (imgL (hl2 z ty)).length = x.length ∧ (∀ j : Nat, j < 16 → (imgL (hl2 z ty))[j]? = (hl2 z ty)[j]?) ∧ (∀ j : Nat, 16 ≤ j → (imgL (hl2 z ty))[j]? = ((applied x l).set 24 0)[j]?) := by
  have hlen : (hl2 z ty).length = z.length := hl2_len (by omega)
  obtain ⟨c1, c2⟩ := cr_congr (x := hl2 z ty) (y := z) hlen fun j hj => hl2_out (by omega) (by omega)
  have hkz := (cr_ok h0).2
  have hfar : ∀ e ∈ crL z, ∀ j : Nat, j < 16 → e.1.toNat ≠ j := fun e he j hj => by
    have := mayB_bd ((chk_iff.1 hkz).2.2.1 e he)
    omega
  have hfl : ∀ e ∈ l, ∀ j : Nat, j < 16 → e.1.toNat ≠ j := fun e he j hj => by
    have := mayB_bd ((chk_iff.1 hk).2.2.1 e he)
    omega
  have e1 : imgL z = (applied z (crL z)).set 24 0 := by rw [imgL, if_pos h0, imgX]
  have e2 : imgL (hl2 z ty) = (applied (hl2 z ty) (crL z)).set 24 0 := by rw [imgL, c1, if_pos h0, imgX, c2]
  refine ⟨fun j hj => ?_, by rw [c1, h0], ?_, fun j hj => ?_, fun j hj => ?_⟩
  · have h2 : (imgL z)[j]? = z[j]? := by rw [e1, List.getElem?_set_ne (by omega), applied_far fun e he => hfar e he j hj]
    rw [← h2, h1, List.getElem?_set_ne (by omega), applied_far fun e he => hfl e he j hj]
  · rw [e2, List.length_set, applied_length, hlen, hz]
  · rw [e2, List.getElem?_set_ne (by omega), applied_far fun e he => hfar e he j hj]
  · rw [← h1, e1, e2, List.getElem?_set, List.getElem?_set, applied_length, applied_length, hlen]
    split
    · rfl
    · exact applied_cong (P := fun j => 16 ≤ j) hlen (fun j hj => hl2_out (by omega) hj) j hj
theorem twC2 {z : List Int} (h2 : twF z 2 = 256) (h3 : twF z 3 = ty) : twC z 2 = hl2 z ty := by
  simp only [twC, h2, h3, hl2]
  rfl
/-- An image with one of two copies spoilt: the other is right; what is read, or there is another superblock in the first place. -/
theorem tw_heals {x : List Int} (hl : x.length = 256) (hs : supB 256 ty = true) (hsp : sp < 16) (h0 : 8 ≤ sp → ∀ j : Nat, j < 8 → x[0 + j]? = (supW 256 ty)[j]?) (h8 : sp < 8 → ∀ j : Nat, j < 8 → x[8 + j]? = (supW 256 ty)[j]?) :
    twE x = 0 ∧ ((sp < 8 ∧ rtS x 0 = true ∧ ¬ (fnS x 0 2 = 256 ∧ fnS x 0 3 = ty)) ∨ ((8 ≤ sp ∨ rtS x 0 = false ∨ (rtS x 0 = true ∧ fnS x 0 2 = 256 ∧ fnS x 0 3 = ty)) ∧ twF x 2 = 256 ∧ twF x 3 = ty)) := by
  by_cases hc : 8 ≤ sp
  · obtain ⟨a, b, c⟩ := rt_sup hs (h0 hc)
    have d := rtB_sup hl hs (h0 hc)
    exact ⟨by simp [twE, d], .inr ⟨.inl hc, by simp [twF, d, b], by simp [twF, d, c]⟩⟩
  · have hc' : sp < 8 := by omega
    obtain ⟨a, b, c⟩ := rt_sup hs (h8 hc')
    have d := rtB_sup hl hs (h8 hc')
    refine ⟨by simp [twE, d], ?_⟩
    cases hr : rtS x 0 with
    | false =>
      have hb : rtB x 0 = false := by rw [rtB, hr]; rfl
      exact .inr ⟨.inr (.inl rfl), by simp [twF, hb, d, b], by simp [twF, hb, d, c]⟩
    | true =>
      by_cases hw : fnS x 0 2 = 256 ∧ fnS x 0 3 = ty
      · have hg : x.getD (0 + 2) 0 = 256 := by rw [← hw.1, fnS, if_pos hr]
        have hb : rtB x 0 = true := by rw [rtB, hr, hg, hl]; rfl
        exact .inr ⟨.inr (.inr ⟨rfl, hw⟩), by simp [twF, hb, hw.1], by simp [twF, hb, hw.2]⟩
      · exact .inl ⟨hc', rfl, hw⟩
theorem tpA_at {x : List Int} (hx : x.length = 256) (h0 : 128 ≤ at_) (h1 : at_ ≤ 255) :
    ((applied x (tpL qa qb qc at_ v)).set 24 0)[16]? = some qa ∧ ((applied x (tpL qa qb qc at_ v)).set 24 0)[17]? = some qb ∧ ((applied x (tpL qa qb qc at_ v)).set 24 0)[18]? = some qc ∧
    (∀ j : Nat, 19 ≤ j → j < 24 → ((applied x (tpL qa qb qc at_ v)).set 24 0)[j]? = x[j]?) ∧ ((applied x (tpL qa qb qc at_ v)).set 24 0)[at_.toNat]? = some v := by
  have e : applied x (tpL qa qb qc at_ v) = (((x.set 16 qa).set 17 qb).set 18 qc).set at_.toNat v := rfl
  rw [e]
  refine ⟨?_, ?_, ?_, fun j h2 h3 => ?_, ?_⟩
  · rw [List.getElem?_set_ne (by omega), List.getElem?_set_ne (by omega), List.getElem?_set_ne (by omega), List.getElem?_set_ne (by omega), List.getElem?_set_self (by omega)]
  · rw [List.getElem?_set_ne (by omega), List.getElem?_set_ne (by omega), List.getElem?_set_ne (by omega), List.getElem?_set_self (by simp only [List.length_set]; omega)]
  · rw [List.getElem?_set_ne (by omega), List.getElem?_set_ne (by omega), List.getElem?_set_self (by simp only [List.length_set]; omega)]
  · rw [List.getElem?_set_ne (by omega), List.getElem?_set_ne (by omega), List.getElem?_set_ne (by omega), List.getElem?_set_ne (by omega), List.getElem?_set_ne (by omega)]
  · rw [List.getElem?_set_ne (by omega), List.getElem?_set_self (by simp only [List.length_set]; omega)]
theorem prE_at {y : List Int} (hy : y.length = 256) (hq : phB qa qb qc = true) (hb : qb ≤ 256) (h16 : y[16]? = some qa) (h17 : y[17]? = some qb) (h18 : y[18]? = some qc) (h : ∀ j : Nat, 19 ≤ j → j < 24 → y[j]? = some 0) :
    prE y = 0 ∧ prA y 16 = qa ∧ prA y 17 = qb ∧ prA y 18 = qc := by
  have hbd := phB_bd hq
  have g16 : y.getD 16 0 = qa := by rw [List.getD, h16]; rfl
  have g17 : y.getD 17 0 = qb := by rw [List.getD, h17]; rfl
  have g18 : y.getD 18 0 = qc := by rw [List.getD, h18]; rfl
  have g : ∀ j : Nat, 19 ≤ j → j < 24 → y.getD j 0 = 0 := fun j h2 h3 => by rw [List.getD, h j h2 h3]; rfl
  have ho : okP y = true := by
    rw [okP_iff, g16, g17, g18, hy]
    exact ⟨⟨by omega, by omega, by omega⟩, ⟨g 19 (by decide) (by decide), g 20 (by decide) (by decide), g 21 (by decide) (by decide), g 22 (by decide) (by decide), g 23 (by decide) (by decide)⟩, hq⟩
  have he : prE y = 0 := by
    unfold prE
    rw [hy, ho]
    rfl
  exact ⟨he, by rw [prA, if_pos he, g16], by rw [prA, if_pos he, g17], by rw [prA, if_pos he, g18]⟩
/-- The whole: last was healed and replayed. -/
theorem tp_last {z : List Int} (hs : supB 256 ty = true) (hsp : sp < 16) (hq : phB qa qb qc = true) (hb : qb ≤ 256) (h0 : 128 ≤ at_) (h1 : at_ ≤ 255)
    (r1 : z.length = (tpF (tpM ty pa pb pc) (tpL qa qb qc at_ v) sp by_).length) (r2 : crE z = 0) (r3 : imgL z = (applied (tpF (tpM ty pa pb pc) (tpL qa qb qc at_ v) sp by_) (tpL qa qb qc at_ v)).set 24 0) :
    crE (hl2 z ty) = 0 ∧ (imgL (hl2 z ty)).length = 256 ∧ (twE (imgL (hl2 z ty)) = 0 ∧ twF (imgL (hl2 z ty)) 2 = 256 ∧ twF (imgL (hl2 z ty)) 3 = ty ∧ rtB (imgL (hl2 z ty)) 0 = true ∧ rtB (imgL (hl2 z ty)) 8 = true) ∧
    (prE (imgL (hl2 z ty)) = 0 ∧ prA (imgL (hl2 z ty)) 16 = qa ∧ prA (imgL (hl2 z ty)) 17 = qb ∧ prA (imgL (hl2 z ty)) 18 = qc) ∧ (imgL (hl2 z ty))[at_.toNat]? = some v ∧
    (chX (tpM ty pa pb pc) (tpL qa qb qc at_ v)).length = 256 ∧ (chX (tpM ty pa pb pc) (tpL qa qb qc at_ v)).take 24 = (imgL (hl2 z ty)).take 24 ∧ (chX (tpM ty pa pb pc) (tpL qa qb qc at_ v)).drop 96 = (imgL (hl2 z ty)).drop 96 := by
  have hm := tpM_len ty pa pb pc
  have hk := tpL_chk (a := qa) (b := qb) (c := qc) (v := v) h0 h1
  have hf := tpF_len (qa := qa) (qb := qb) (qc := qc) (at_ := at_) (v := v) (sp := sp) (by_ := by_) hm
  obtain ⟨x, hx⟩ : ∃ x, tpF (tpM ty pa pb pc) (tpL qa qb qc at_ v) sp by_ = x := ⟨_, rfl⟩
  have hout : ∀ j : Nat, (16 ≤ j ∧ j < 24 ∨ 40 ≤ j) → x[j]? = (tpM ty pa pb pc)[j]? := fun j hj => by
    rw [← hx]
    exact tpF_out hm hsp (by omega) (by omega)
  rw [hx] at r1 r3 hf
  obtain ⟨a1, a2, a3, a4, a5⟩ := heal_replay r1 r2 r3 (by rw [hf]; exact hk) (by omega) ty
  have hz16 : 16 ≤ z.length := by omega
  obtain ⟨b1, b2, b3, b4, b5⟩ := tpA_at (x := x) (qa := qa) (qb := qb) (qc := qc) (v := v) hf h0 h1
  obtain ⟨y, hy⟩ : ∃ y, imgL (hl2 z ty) = y := ⟨_, rfl⟩
  rw [hy] at a3 a4 a5 ⊢
  have hy6 : y.length = 256 := a3.trans hf
  have y0 : ∀ j : Nat, j < 8 → y[0 + j]? = (supW 256 ty)[j]? := fun j hj => by rw [a4 _ (by omega)]; exact hl2_0 hz16 hj
  have y8 : ∀ j : Nat, j < 8 → y[8 + j]? = (supW 256 ty)[j]? := fun j hj => by rw [a4 _ (by omega)]; exact hl2_8 hz16 hj
  have d0 := rtB_sup hy6 hs y0
  have d8 := rtB_sup hy6 hs y8
  obtain ⟨_, f2, f3⟩ := rt_sup hs y0
  have ho := chX_out (x := tpM ty pa pb pc) (l := tpL qa qb qc at_ v) (by rw [hm]; exact hk) (tpM_far (by decide) (by decide))
  obtain ⟨o1, _, _, o4⟩ := ho
  rw [applied_length, hm] at o1
  have hsame : ∀ j : Nat, (j < 24 ∨ 96 ≤ j) → (chX (tpM ty pa pb pc) (tpL qa qb qc at_ v))[j]? = y[j]? := fun j hj => by
    rw [o4 j hj]
    by_cases h16 : j < 16
    · have hfl : ∀ e ∈ tpL qa qb qc at_ v, e.1.toNat ≠ j := fun e he => by
        have := mayB_bd ((chk_iff.1 hk).2.2.1 e he)
        omega
      rw [applied_far hfl]
      by_cases h8 : j < 8
      · have e1 := tpM_0 (ty := ty) (pa := pa) (pb := pb) (pc := pc) h8
        have e2 := y0 j h8
        rw [Nat.zero_add] at e1 e2
        rw [e1, e2]
      · have e1 := tpM_8 (ty := ty) (pa := pa) (pb := pb) (pc := pc) (j := j - 8) (by omega)
        have e2 := y8 (j - 8) (by omega)
        rw [show 8 + (j - 8) = j from by omega] at e1 e2
        rw [e1, e2]
    · rw [a5 j (by omega), List.getElem?_set_ne (by omega)]
      exact (applied_cong (P := fun j => 16 ≤ j ∧ j < 24 ∨ 40 ≤ j) (by rw [hf, hm]) hout j (by omega)).symm
  refine ⟨a2, hy6, ⟨by simp [twE, d0], by simp [twF, d0, f2], by simp [twF, d0, f3], d0, d8⟩, ?_, by rw [a5 _ (by omega)]; exact b5, o1, ?_, ?_⟩
  · refine prE_at hy6 hq hb (by rw [a5 16 (by decide)]; exact b1) (by rw [a5 17 (by decide)]; exact b2) (by rw [a5 18 (by decide)]; exact b3) fun j h2 h3 => ?_
    rw [a5 j (by omega), b4 j h2 h3, hout j (by omega)]
    exact tpM_far h2 (by omega)
  · apply List.ext_getElem?
    intro j
    rw [List.getElem?_take, List.getElem?_take]
    split
    · exact hsame j (by omega)
    · rfl
  · apply List.ext_getElem?
    intro j
    rw [List.getElem?_drop, List.getElem?_drop]
    exact hsame _ (by omega)
end
end Go.Proofs.Ytmkcpnklaijkfaa
