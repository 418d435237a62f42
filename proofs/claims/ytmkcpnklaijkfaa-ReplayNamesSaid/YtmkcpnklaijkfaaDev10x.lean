/-
  The contract of replaying a device, with its errors.
-/
import Derived.Test.YtmkcpnklaijkfaaDev10n
namespace Go.Proofs.Ytmkcpnklaijkfaa
open Go.RowKit
theorem crL_bad {m : List Int} (h : crE m ≠ 0) : crL m = [] := by
  unfold crE at h
  unfold crL
  split at h
  · rename_i hs
    split at h
    · exact absurd rfl h
    · rename_i hb
      rw [if_neg]
      rintro ⟨-, h2⟩
      exact hb (.inr h2)
  · rename_i hs
    rw [if_neg]
    rintro ⟨h1, -⟩
    exact hs h1
set_option maxRecDepth 100000 in
set_option maxHeartbeats 1600000 in
theorem dev10_dev (m : List Int) (q : List Dw) (left : Int) (down : Bool) (A : Option Addr) (c : Nat) (B : Option Addr) (d : Nat) (w : World) (hA : Sl w A m.length c (fU m)) (hB : Sl w B q.length d (fD q)) (hd : devB m q left down = false) :
    Calls Try.prog 30 #[.agg #[.slice A m.length c, .slice B q.length d, .int .i64 left, .bool down]] w (RetV w zeroV 8) := by
  have hP := RT.new w m q left down A c B d hA hB
  have h1 := fun A c B d W (ha : Sl W A m.length c (fU m)) (hb : Sl W B q.length d (fD q)) => dView_any m q left down A c B d W ha hb
  rw [devE_no hd, show viewL m q left down = [] from by simp [viewL, devE_no hd]] at h1
  have HH := Lib.hid h1
  clear h1 hd hA hB
  go_enter Try.func30, Try.ntmps30
  go_upto_region 1 with fail
  obtain ⟨W2, hW2⟩ : ∃ W, W = (w.alloc (Obj.cells #[.slice A m.length c, .slice B q.length d, .int .i64 left, .bool down] 46)).alloc (Obj.cells #[.slice none 0 0, .slice none 0 0, .int .i64 0, .bool false] 46) := ⟨_, rfl⟩
  rw [← hW2] at hP ⊢
  clear hW2
  have HP := Lib.hid hP
  obtain ⟨A1, c1, B1, d1, ⟨b0, b1, b2, b3, bf, bl⟩, sA, sB⟩ := hP.d
  clear hP
  go_wp2_with fail
  refine (HH.out A1 c1 B1 d1 _ sA sB).mono ?_
  rintro e w3 ⟨AV, cV, rfl, -, -, hx3⟩
  clear b0 b1 b2 b3 bf bl sA sB
  have hP := HP.out.ext hx3
  have HP7 := Lib.hid hP
  obtain ⟨r0, r1, r2, r3, rf, rl⟩ := hP.r
  clear hP HP
  go_wp2_with fail
  refine bodyPost_ret (v := .tuple #[.agg #[.slice none 0 0, .slice none 0 0, .int .i64 0, .bool false], .int .i64 8]) (by simp [results, Try.results30, go_sem, r0, r1, r2, r3]) rfl ?_
  exact HP7.out.zero 8
set_option maxRecDepth 100000 in
set_option maxHeartbeats 1600000 in
theorem dev10_bad (m : List Int) (q : List Dw) (left : Int) (down : Bool) (A : Option Addr) (c : Nat) (B : Option Addr) (d : Nat) (w : World) (hA : Sl w A m.length c (fU m)) (hB : Sl w B q.length d (fD q)) (wm : WfU m) (wd : WfD q) (hd : devB m q left down = true) (h0 : crE (wrd m q) ≠ 0) :
    Calls Try.prog 30 #[.agg #[.slice A m.length c, .slice B q.length d, .int .i64 left, .bool down]] w (RetV w zeroV (crE (wrd m q))) := by
  have hP := RT.new w m q left down A c B d hA hB
  have hww := wfU_wrd wd wm
  have h1 := fun A c B d W (ha : Sl W A m.length c (fU m)) (hb : Sl W B q.length d (fD q)) => dView_ok hd A c B d W ha hb
  have h2 := fun A c W (ha : Sl W A (wrd m q).length c (fU (wrd m q))) => commitRead_any (wrd m q) A c W ha hww
  rw [crL_bad h0] at h2
  obtain ⟨V, hV⟩ : ∃ V, wrd m q = V := ⟨_, rfl⟩
  rw [hV] at h0 h1 h2 ⊢
  obtain ⟨er, her⟩ : ∃ er, crE V = er := ⟨_, rfl⟩
  rw [her] at h0 h2 ⊢
  have hb : (er != 0) = true := by simpa using h0
  have HH := Lib.hid (And.intro h1 h2)
  clear h1 h2 hd hA hB h0 her hV hww
  go_enter Try.func30, Try.ntmps30
  go_upto_region 1 with fail
  obtain ⟨W2, hW2⟩ : ∃ W, W = (w.alloc (Obj.cells #[.slice A m.length c, .slice B q.length d, .int .i64 left, .bool down] 46)).alloc (Obj.cells #[.slice none 0 0, .slice none 0 0, .int .i64 0, .bool false] 46) := ⟨_, rfl⟩
  rw [← hW2] at hP ⊢
  clear hW2
  have HP := Lib.hid hP
  obtain ⟨A1, c1, B1, d1, ⟨b0, b1, b2, b3, bf, bl⟩, sA, sB⟩ := hP.d
  clear hP
  go_wp2_with fail
  refine (HH.out.1 A1 c1 B1 d1 _ sA sB).mono ?_
  rintro e w3 ⟨AV, cV, rfl, -, hV, hx3⟩
  clear b0 b1 b2 b3 bf bl sA sB
  go_wp2_with fail
  refine (HH.out.2 AV cV w3 hV).mono ?_
  rintro e w4 ⟨AL, cL, rfl, -, hx4⟩
  have hP := HP.out.ext (hx3.trans hx4)
  have HP7 := Lib.hid hP
  obtain ⟨r0, r1, r2, r3, rf, rl⟩ := hP.r
  clear hP HP hV
  go_wp2_with fail
  refine bodyPost_ret (v := .tuple #[.agg #[.slice none 0 0, .slice none 0 0, .int .i64 0, .bool false], .int .i64 er]) (by simp [results, Try.results30, go_sem, r0, r1, r2, r3]) rfl ?_
  exact HP7.out.zero er
theorem dev10_any (m : List Int) (q : List Dw) (left : Int) (down : Bool) (A : Option Addr) (c : Nat) (B : Option Addr) (d : Nat) (w : World) (hA : Sl w A m.length c (fU m)) (hB : Sl w B q.length d (fD q)) (wm : WfU m) (wd : WfD q) :
    Calls Try.prog 30 #[.agg #[.slice A m.length c, .slice B q.length d, .int .i64 left, .bool down]] w (RetV w (dvV m q left down) (dvE m q left down)) := by
  cases hd : devB m q left down with
  | false =>
    have he : dvE m q left down = 8 := by simp [dvE, hd]
    rw [dvV, he, if_neg (by decide)]
    exact dev10_dev m q left down A c B d w hA hB hd
  | true =>
    have he : dvE m q left down = crE (wrd m q) := by simp [dvE, hd]
    by_cases h0 : crE (wrd m q) = 0
    · rw [dvV, he, h0, if_pos rfl]
      split
      · rename_i hn
        exact dev10_none m q left down A c B d w hA hB wm wd hd h0 hn
      · rename_i hn
        exact dev10_yes m q left down A c B d w hA hB wm wd hd h0 hn
    · rw [dvV, he, if_neg h0]
      exact dev10_bad m q left down A c B d w hA hB wm wd hd h0
end Go.Proofs.Ytmkcpnklaijkfaa
