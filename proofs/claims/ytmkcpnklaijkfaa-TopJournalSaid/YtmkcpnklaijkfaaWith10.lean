/-
  An image with a change committed, made of another one; the plain laws of replaying it.
-/
import Derived.Test.YtmkcpnklaijkfaaImg10
import Derived.Test.YtmkcpnklaijkfaaGE
namespace Go.Proofs.Ytmkcpnklaijkfaa
open Go.RowKit
def withL (m : List Int) (l : List (Int × Int)) : List Int := (splice m 32 (listed l)).set 24 (cword l)
theorem splice_step {m t : List Int} {off k : Nat} {y : Int} (h : t[k]? = some y) (hm : off + k < m.length) : (splice m off (t.take k)).set (off + k) y = splice m off (t.take (k + 1)) := by
  obtain ⟨hk, rfl⟩ := List.getElem?_eq_some_iff.1 h
  have h1 : (m.take off).length = off := by simp; omega
  have h2 : (t.take k).length = k := by simp; omega
  have h3 : (t.take (k + 1)).length = k + 1 := by simp; omega
  unfold splice
  rw [h2, h3, List.set_append_right _ _ (by omega), h1, show off + k - off = k from by omega, List.set_append_right _ _ (by omega), h2, Nat.sub_self, List.drop_eq_getElem_cons (show off + k < m.length from hm), List.set_cons_zero, List.take_add_one, h]
  simp only [Option.toList_some, List.append_assoc, List.cons_append, List.nil_append, Nat.add_assoc]
theorem withL_length {m : List Int} {l : List (Int × Int)} (h : chkE l m.length = 0) : (withL m l).length = m.length := by
  obtain ⟨hs, hl, _, _⟩ := chk_iff.1 h
  have := sizeB_bd hs
  have h2 := listed_length l
  unfold withL
  rw [List.length_set, splice_len (by omega)]
theorem withL_has {m : List Int} {l : List (Int × Int)} (h : chkE l m.length = 0) : JHas (withL m l) l := by
  obtain ⟨hs, hl, _, _⟩ := chk_iff.1 h
  have hsz := sizeB_bd hs
  have h2 := listed_length l
  have hlen : (splice m 32 (listed l)).length = m.length := splice_len (by omega)
  refine ⟨?_, fun i e he => ?_⟩
  · unfold jw withL
    rw [List.getD, List.getElem?_set_self (by rw [hlen]; omega)]
    rfl
  · have hat := listed_at he
    have hi := (List.getElem?_eq_some_iff.1 he).1
    have e1 : ∀ j y, (listed l)[j]? = some y → (withL m l).getD (32 + j) 0 = y := fun j y hy => by
      have := splice_in (m := m) (off := 32) (cs := listed l) (j := j) (by omega) hy
      unfold withL
      rw [List.getD, List.getElem?_set_ne (by omega)]
      exact this
    exact ⟨e1 _ _ hat.1, by rw [show 33 + 2 * i = 32 + (2 * i + 1) from by omega]; exact e1 _ _ hat.2⟩
theorem withL_wf {m : List Int} {l : List (Int × Int)} (h : chkE l m.length = 0) (wm : WfU m) (wf : WfE l) : WfU (withL m l) := by
  have hl := (chk_iff.1 h).2.1
  have hc := cword_in hl
  exact wfU_set (wf_splice' wm (wfU_listed (chk_small h).1 wf)) (by unfold InU; omega)
theorem applied_set {l : List (Int × Int)} {m : List Int} {i : Nat} {v : Int} (h : ∀ x ∈ l, x.1.toNat ≠ i) : applied (m.set i v) l = (applied m l).set i v := by
  induction l generalizing m with
  | nil => rfl
  | cons x l ih =>
    show applied ((m.set i v).set x.1.toNat x.2) l = (applied (m.set x.1.toNat x.2) l).set i v
    rw [List.set_comm _ _ (Ne.symm (h x (List.mem_cons_self ..))), ih (fun y hy => h y (List.mem_cons_of_mem _ hy))]
theorem chk_not24 {l : List (Int × Int)} {n : Int} (h : chkE l n = 0) : ∀ x ∈ l, x.1.toNat ≠ 24 := fun x hx => by
  have := mayB_bd ((chk_iff.1 h).2.2.1 x hx)
  omega
/-- Replaying an image whose journal holds a change. -/
theorem img_has {x : List Int} {l : List (Int × Int)} (h : chkE l x.length = 0) (hn : l.length ≠ 0) (hj : JHas x l) : crE x = 0 ∧ imgL x = (applied x l).set 24 0 := by
  obtain ⟨_, h1, h2⟩ := cr_has h hn hj
  exact ⟨h1, by simp [imgL, h1, imgX, h2]⟩
theorem img_zero {x : List Int} (hs : sizeB x.length = true) (h : jw x = 0) : crE x = 0 ∧ imgL x = x := by
  obtain ⟨_, h1, h2⟩ := cr_zero hs h
  refine ⟨h1, ?_⟩
  have hsz := sizeB_bd hs
  simp only [imgL, h1, if_true, imgX, h2]
  show x.set 24 0 = x
  have h3 : x[24]? = some 0 := by
    unfold jw at h
    rw [List.getD, List.getElem?_eq_getElem (by omega)] at h
    rw [List.getElem?_eq_getElem (by omega)]
    simpa using h
  obtain ⟨h4, h5⟩ := List.getElem?_eq_some_iff.1 h3
  conv => lhs; rw [← h5]
  exact List.set_getElem_self h4
set_option maxRecDepth 100000 in
set_option maxHeartbeats 3200000 in
theorem with10_any (m : List Int) (l : List (Int × Int)) (A : Option Addr) (c : Nat) (B : Option Addr) (d : Nat) (w : World) (hA : Sl w A m.length c (fU m)) (hB : Sl w B l.length d (fE l)) (hk : chkE l m.length = 0) (wf : WfE l) :
    Calls Try.prog 47 #[.slice A m.length c, .slice B l.length d] w (RetOwn w 24 1 m.length (fU (withL m l))) := by
  obtain ⟨hs, hl, _, _⟩ := chk_iff.1 hk
  have hsz := sizeB_bd hs
  have hsm := (chk_small hk).1
  have h2 := listed_length l
  have h1 := fun W (hb : Sl W B l.length d (fE l)) => refListed_any l B d W hb hsm (by omega)
  have h3 := fun W (hb : Sl W B l.length d (fE l)) => refOf_any l B d W hb hsm hl wf
  have HH := Lib.hid (And.intro h1 h3)
  have hw : withL m l = (splice m 32 (listed l)).set 24 (cword l) := rfl
  have HW := Lib.hid hw
  obtain ⟨t, ht⟩ : ∃ t, listed l = t := ⟨_, rfl⟩
  obtain ⟨cw, hcw⟩ : ∃ t, cword l = t := ⟨_, rfl⟩
  rw [ht] at h2 HH HW
  rw [hcw] at HH HW
  have htl : 32 + t.length ≤ m.length := by omega
  have ht2 : t.length ≤ 64 := by omega
  have HT := Lib.hid h2
  clear h1 h3 hw ht hcw hsm hs hk
  go_enter Try.func47, Try.ntmps47
  go_wp2_with fail
  refine (twin2_any m A c w hA (by omega)).mono ?_
  rintro e w1 ⟨A1, c1, rfl, hown, _, hx1⟩
  obtain ⟨g, rfl, hg⟩ := own_head hown (by omega)
  go_wp2_with fail
  refine (HH.out.1 w1 (hB.ext hx1)).mono ?_
  rintro e w2 ⟨A2, c2, rfl, hownT, hA2, hx2⟩
  have hgl1 := (hown.lt g rfl).2
  have hne : ∀ ad, A2 = some ad → ad.block ≠ g := fun ad h => by subst h; have := (hownT.lt ad.block rfl).1; omega
  clear hownT
  rw [← HT.out] at hA2 ⊢
  clear h2
  go_wp2_with fail
  go_loopw [7] (fun i wr => ∃ k : Nat, k ≤ t.length ∧ i = .int .i64 k ∧ wr.ownsRow w.heap.size 24 1 (.slice (some ⟨g, 0, none⟩) m.length c1) m.length (fU (splice m 32 (t.take k))) ∧ Ext w wr ∧ Sl wr A2 t.length c2 (fU t)) (fun i _ => t.length - (intOf i).toNat)
  case atStart => exact ⟨0, Nat.zero_le _, rfl, by rw [show splice m 32 (t.take 0) = m from by simp [splice]]; exact own_ext hown hx2, hx1.trans hx2, hA2⟩
  case round =>
    clear hown hA2
    obtain ⟨k, hk, rfl, hown, hx, hT⟩ := hrel
    by_cases hlt : k < t.length
    · obtain ⟨ad, y, rfl, hy, g1⟩ := hT.u_at hlt
      have hlen : (splice m 32 (t.take k)).length = m.length := splice_len (by simp; omega)
      obtain ⟨z, hz, c0, cf⟩ := own_at_U hown (i := 32 + k) (by rw [hlen]; omega)
      have hgl := block_lt_of_cell c0
      have hst := splice_step (m := m) (off := 32) hy (by omega)
      have HS := Lib.hid hst
      have HO := Lib.hid hown
      have HSl := Lib.hid hT
      have hw32 : IntKind.i64.wrap (32 + (k : Int)) = 32 + (k : Int) := by rw [IntKind.wrap_i64]; omega
      have hn32 : (32 + (k : Int)).toNat = 32 + k := by omega
      have hb1 : 32 + (k : Int) < m.length := by omega
      clear hz hlen hst hy hown hT
      go_wp2_with fail
      go_roundw
      case rel => exact ⟨k + 1, by omega, by go_num, by rw [← HS.out]; exact own_set_U HO.out (32 + k) y, hx.setCell (p := ⟨g, 32 + k, none⟩) hg _, HSl.out.setCell (p := ⟨g, 32 + k, none⟩) hne _⟩
      case measure => simp [intOf]; omega
    · obtain rfl : k = t.length := by omega
      rw [List.take_length] at hown
      have HO := Lib.hid hown
      have hlen : (splice m 32 t).length = m.length := splice_len htl
      have HL := Lib.hid hlen
      clear hown hlen hT
      go_wp2_with fail
      refine (HH.out.2 wr (hB.ext hx)).mono ?_
      rintro e w5 ⟨rfl, hx5⟩
      have hown5 := own_ext HO.out hx5
      obtain ⟨z, hz, c0, cf⟩ := own_at_U hown5 (i := 24) (by rw [HL.out]; omega)
      have hgl := block_lt_of_cell c0
      have HO5 := Lib.hid hown5
      clear hz hown5
      go_wp2_with fail
      go_ret
      rw [HW.out]
      exact retOwn_mk (own_set_U HO5.out 24 cw) ((hx.trans hx5).setCell (p := ⟨g, 24, none⟩) hg _)
end Go.Proofs.Ytmkcpnklaijkfaa
