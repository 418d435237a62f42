/-
  AtomicMore, for every image, every list of entries, every two numbers and every mask: the law returns true. No condition.
-/
import Derived.Test.YtmkcpnklaijkfaaAtG
import Derived.Test.YtmkcpnklaijkfaaGA
namespace Go.Proofs.Ytmkcpnklaijkfaa
open Go.ChangeShapes Go.WideShapes Go.ChangeAt Go.RowKit
section
variable {x : List Int} {l : List (Int × Int)}
theorem more_yes {left more : Nat} {mask : Int} {y z : List Int} (hy : Crs x l left 0 y) (hz : Crs x l more mask z) (h : left < more) (ho : Out (imgL y) (applied x l)) : Out (imgL z) (applied x l) := by
  by_cases h1 : nJ l + 3 ≤ left
  · exact hz.done (by omega)
  · have hold : Out (imgL y) x := by
      rcases hy with ⟨_, h⟩ | ⟨_, _, _, h, _⟩ | ⟨h2, _⟩
      · exact h
      · exact h rfl
      · omega
    rcases hz.either with h | h
    · exact h.trans (hold.symm.trans ho)
    · exact h
theorem more_no {left more : Nat} {mask : Int} {y z : List Int} (hy : Crs x l more 18446744073709551615 y) (hz : Crs x l left mask z) (h : left < more) (ho : Out (imgL y) x) : Out (imgL z) x := by
  by_cases h1 : nJ l < more
  · have hnew : Out (imgL y) (applied x l) := by
      rcases hy with ⟨h2, _⟩ | ⟨_, _, _, _, h⟩ | ⟨_, h⟩
      · omega
      · exact h rfl
      · exact h
    rcases hz.either with h | h
    · exact h
    · exact h.trans (hnew.symm.trans ho)
  · exact hz.early (by omega)
end
set_option maxRecDepth 100000 in
set_option maxHeartbeats 6400000 in
theorem atomicMore_main (m : List Int) (l : List (Int × Int)) (lf mo : Nat) (mask : Int) (A : Option Addr) (c : Nat) (B : Option Addr) (d : Nat) (w : World) (hA : Sl w A m.length c (fU m)) (hB : Sl w B l.length d (fE l)) (wm : WfU m) (wf : WfE l) (hmk : InU mask) (hs : sizeB m.length = true) (hk : chkE l m.length = 0) (i0 : lf ≤ mo) (i1 : mo ≤ 1000) :
    Calls Try.prog 16 #[.slice A m.length c, .slice B l.length d, .int .i64 lf, .int .i64 mo, .int .u64 mask] w fun e w' => e = .returned (.bool true) ∧ Ext w w' := by
  have hsz := sizeB_bd hs
  have hi : imgE (m.length : Int) = 0 := by simp [imgE, hs]
  have h24 := cl_24 hs
  have hk2 := cl_chk hk
  have wx := cl_wf wm
  have hxl := cl_len m
  obtain ⟨x, hx⟩ : ∃ x, m.set 24 0 = x := ⟨_, rfl⟩
  rw [hx] at h24 hk2 wx hxl
  have h1 : ∀ W, Sl W A m.length c (fU m) → Calls Try.prog 62 #[.slice A m.length c] W (RetOwn W 24 1 x.length (fU x)) := fun W ha => by
    rw [hxl, ← hx]; exact clean_any m A c W ha hs
  have h2 := fun A c W (ha : Sl W A x.length c (fU x)) (hb : Sl W B l.length d (fE l)) => apply_ok hk2 wf A c B d W ha hb
  obtain ⟨V, hV⟩ : ∃ V, applied x l = V := ⟨_, rfl⟩
  have hVl : V.length = x.length := by rw [← hV, applied_length]
  have hV24 : V[24]? = some 0 := by rw [← hV, applied24 hk]; exact h24
  have h3 : ∀ (left : Nat) (mk : Int), left ≤ 1000 → InU mk → ∃ z, Crs x l left mk z ∧ ((imgL z).length = x.length ∧ (imgL z)[24]? = some 0) ∧ ∀ A c W, Sl W A x.length c (fU x) → Sl W B l.length d (fE l) → Calls Try.prog 37 #[.agg #[.slice A x.length c, .slice none 0 0, .int .i64 left, .bool false], .slice B l.length d, .int .u64 mk] W (RetU W (imgL z) 0) := by
    intro left mk hl hm
    obtain ⟨a1, a2, a3⟩ := af_ok left mk hk2 wf h24 (by omega)
    refine ⟨_, a2, ?_, fun A c W ha hb => ?_⟩
    · rcases a2.either with h | h
      · exact ⟨h.1, h.2.1⟩
      · exact ⟨h.1.trans (by rw [hV]; exact hVl), h.2.1⟩
    · have := aAfter_any x [] left false l mk A c none 0 B d W ha (Sl.nil_ W) hb wx (fun x hx => by cases hx) wf hm
      rw [a1, a3] at this
      exact this
  obtain ⟨za, ca, ⟨la, ta⟩, ha⟩ := h3 lf 0 (by omega) (by unfold InU; decide)
  obtain ⟨zb, cb, ⟨lb, tb⟩, hb⟩ := h3 mo mask i1 hmk
  obtain ⟨zc, cc, ⟨lc, tc⟩, hc⟩ := h3 mo 18446744073709551615 i1 (by unfold InU; decide)
  obtain ⟨zd, cd, ⟨ld, td⟩, hd⟩ := h3 lf mask (by omega) hmk
  have k1 : lf < mo → outB (imgL za) V = true → outB (imgL zb) V = true := fun h ho => by
    rw [← hV] at ho ⊢
    exact (more_yes ca cb h ((outB_iff (la.trans (applied_length ..).symm) ta (by rw [hV]; exact hV24)).1 ho)).b
  have k2 : lf < mo → outB (imgL zc) x = true → outB (imgL zd) x = true := fun h ho =>
    (more_no cc cd h ((outB_iff lc tc h24).1 ho)).b
  have hK8 := fun W (hb : Sl W B l.length d (fE l)) => refCheck8_any l m.length B d W hb
  rw [hk] at hK8
  have HK8 := Lib.hid hK8
  rw [hV] at h2
  obtain ⟨Ya, ea⟩ : ∃ Y, imgL za = Y := ⟨_, rfl⟩
  obtain ⟨Yb, eb⟩ : ∃ Y, imgL zb = Y := ⟨_, rfl⟩
  obtain ⟨Yc, ec⟩ : ∃ Y, imgL zc = Y := ⟨_, rfl⟩
  obtain ⟨Yd, ed⟩ : ∃ Y, imgL zd = Y := ⟨_, rfl⟩
  rw [ea] at la ta ha k1
  rw [eb] at lb tb hb k1
  rw [ec] at lc tc hc k2
  rw [ed] at ld td hd k2
  have ho : ∀ Y, Y.length = x.length → Y[24]? = some 0 → (∀ A c B d W, Sl W A Y.length c (fU Y) → Sl W B V.length d (fU V) → Calls Try.prog 63 #[.slice A Y.length c, .slice B V.length d] W fun e w' => e = .returned (.bool (outB Y V)) ∧ Ext W w') ∧ (∀ A c B d W, Sl W A Y.length c (fU Y) → Sl W B x.length d (fU x) → Calls Try.prog 63 #[.slice A Y.length c, .slice B x.length d] W fun e w' => e = .returned (.bool (outB Y x)) ∧ Ext W w') := fun Y hl ht =>
    ⟨fun A c B d W ha hb => outside_at (hVl.trans hl.symm) (by rw [hl, hxl]; omega) ht hV24 A c B d W ha hb, fun A c B d W ha hb => outside_at hl.symm (by rw [hl, hxl]; omega) ht h24 A c B d W ha hb⟩
  have oa := (ho Ya la ta).1
  have ob := (ho Yb lb tb).1
  have oc := (ho Yc lc tc).2
  have od := (ho Yd ld td).2
  have kk : (lf = mo) ∨ (lf < mo ∧ (outB Ya V = false ∨ outB Ya V = true ∧ outB Yb V = true) ∧ (outB Yc x = false ∨ outB Yc x = true ∧ outB Yd x = true)) := by
    by_cases h : lf = mo
    · exact .inl h
    · refine .inr ⟨by omega, ?_, ?_⟩
      · cases h1 : outB Ya V with
        | false => exact .inl rfl
        | true => exact .inr ⟨rfl, k1 (by omega) h1⟩
      · cases h1 : outB Yc x with
        | false => exact .inl rfl
        | true => exact .inr ⟨rfl, k2 (by omega) h1⟩
  have HH := Lib.hid (And.intro h1 (And.intro h2 (And.intro ha (And.intro hb (And.intro hc (And.intro hd (And.intro oa (And.intro ob (And.intro oc od)))))))))
  have KK := Lib.hid kk
  have b1 : decide ((lf : Int) < 0) = false := decide_eq_false (by omega)
  have b2 : decide ((mo : Int) < (lf : Int)) = false := decide_eq_false (by omega)
  have b3 : decide ((1000 : Int) < (mo : Int)) = false := decide_eq_false (by omega)
  have I0 := Lib.hid i0
  obtain ⟨P, hP⟩ : ∃ P : Int, (lf : Int) = P := ⟨_, rfl⟩
  obtain ⟨M, hM⟩ : ∃ P : Int, (mo : Int) = P := ⟨_, rfl⟩
  have ke : (M == P) = true ∧ decide (P < M) = false ∨ (M == P) = false ∧ decide (P < M) = true ∧ (outB Ya V = false ∨ outB Ya V = true ∧ outB Yb V = true) ∧ (outB Yc x = false ∨ outB Yc x = true ∧ outB Yd x = true) := by
    rcases kk with h | ⟨h1, h2⟩
    · left; subst hP hM; exact ⟨by simp [h], decide_eq_false (by omega)⟩
    · right; subst hP hM; exact ⟨by simp; omega, decide_eq_true (by omega), h2⟩
  have KE := Lib.hid ke
  rw [hP] at HH b1 b2 ⊢
  rw [hM] at HH b2 b3 ⊢
  clear h1 h2 h3 ha hb hc hd oa ob oc od ho kk ke k1 k2 ca cb cc cd la ta lb tb lc tc ld td ea eb ec ed hV hVl hV24 hK8 hP hM KK I0 i0 i1 hxl wx hk2 h24 hx hsz wm wf hmk hs hk
  go_enter Try.func16, Try.ntmps16
  go_wp2_with fail
  refine (refCheck2_any _ _ _ _).mono ?_
  rintro e w1 ⟨rfl, rfl⟩
  go_wp2_with fail
  refine (HK8.out w hB).mono ?_
  rintro e w1 ⟨rfl, hd1⟩
  have hX : Ext w w1 := hd1.ext
  clear hd1
  go_wp2_with fail
  refine (HH.out.1 w1 (hA.ext hX)).mono ?_
  rintro e w2 ⟨A2, c2, rfl, -, hA2, hx2⟩
  replace hX := hX.trans hx2
  have hBl := hB.ext hX
  clear hx2 hA hB
  go_wp2_with fail
  refine (HH.out.2.1 A2 c2 w2 hA2 hBl).mono ?_
  rintro e w3 ⟨AV, cV, rfl, hAV, hxx⟩
  replace hX := hX.trans hxx
  replace hA2 := hA2.ext hxx
  replace hBl := hBl.ext hxx
  clear hxx
  go_wp2_with fail
  refine (HH.out.2.2.1 A2 c2 w3 hA2 hBl).mono ?_
  rintro e w4 ⟨Aa, qa, rfl, ha, hxx⟩
  replace hX := hX.trans hxx
  replace hA2 := hA2.ext hxx
  replace hBl := hBl.ext hxx
  replace hAV := hAV.ext hxx
  clear hxx
  go_wp2_with fail
  refine (HH.out.2.2.2.1 A2 c2 w4 hA2 hBl).mono ?_
  rintro e w5 ⟨Ab, qb, rfl, hb, hxx⟩
  replace hX := hX.trans hxx
  replace hA2 := hA2.ext hxx
  replace hBl := hBl.ext hxx
  replace hAV := hAV.ext hxx
  replace ha := ha.ext hxx
  clear hxx
  go_wp2_with fail
  refine (HH.out.2.2.2.2.1 A2 c2 w5 hA2 hBl).mono ?_
  rintro e w6 ⟨Ac, qc, rfl, hc, hxx⟩
  replace hX := hX.trans hxx
  replace hA2 := hA2.ext hxx
  replace hBl := hBl.ext hxx
  replace hAV := hAV.ext hxx
  replace ha := ha.ext hxx
  replace hb := hb.ext hxx
  clear hxx
  go_wp2_with fail
  refine (HH.out.2.2.2.2.2.1 A2 c2 w6 hA2 hBl).mono ?_
  rintro e w7 ⟨Ad, qd, rfl, hd, hxx⟩
  replace hX := hX.trans hxx
  replace hA2 := hA2.ext hxx
  replace hAV := hAV.ext hxx
  replace ha := ha.ext hxx
  replace hb := hb.ext hxx
  replace hc := hc.ext hxx
  clear hxx hBl
  rcases KE.out with ⟨g1, g2⟩ | ⟨g1, g2, g3, g4⟩
  · go_wp2_with fail
    refine (alive12_any _).mono ?_
    rintro e w10 ⟨rfl, hx10⟩
    go_wp2_with fail
    go_ret
    exact ⟨rfl, hX.trans hx10⟩
  · have G4 := Lib.hid g4
    clear g4
    rcases g3 with p1 | ⟨p1, p2⟩
    · have P1 := Lib.hid p1
      clear p1
      go_wp2_with fail
      refine (HH.out.2.2.2.2.2.2.1 Aa qa AV cV w7 ha hAV).mono ?_
      rintro e w8 ⟨rfl, hxx⟩
      rw [P1.out]
      replace hX := hX.trans hxx
      replace hA2 := hA2.ext hxx
      replace hc := hc.ext hxx
      replace hd := hd.ext hxx
      clear hxx ha hb hAV
      rcases G4.out with p3 | ⟨p3, p4⟩
      · have P3 := Lib.hid p3
        clear p3
        go_wp2_with fail
        refine (HH.out.2.2.2.2.2.2.2.2.1 Ac qc A2 c2 w8 hc hA2).mono ?_
        rintro e w9 ⟨rfl, hxx⟩
        rw [P3.out]
        replace hX := hX.trans hxx
        go_wp2_with fail
        refine (alive12_any _).mono ?_
        rintro e w10 ⟨rfl, hx10⟩
        go_wp2_with fail
        go_ret
        exact ⟨rfl, hX.trans hx10⟩
      · have P3 := Lib.hid (And.intro p3 p4)
        clear p3 p4
        go_wp2_with fail
        refine (HH.out.2.2.2.2.2.2.2.2.1 Ac qc A2 c2 w8 hc hA2).mono ?_
        rintro e w9 ⟨rfl, hxx⟩
        rw [P3.out.1]
        replace hX := hX.trans hxx
        replace hA2 := hA2.ext hxx
        replace hd := hd.ext hxx
        clear hxx
        go_wp2_with fail
        refine (HH.out.2.2.2.2.2.2.2.2.2 Ad qd A2 c2 w9 hd hA2).mono ?_
        rintro e w11 ⟨rfl, hxx⟩
        rw [P3.out.2]
        replace hX := hX.trans hxx
        go_wp2_with fail
        refine (alive12_any _).mono ?_
        rintro e w10 ⟨rfl, hx10⟩
        go_wp2_with fail
        go_ret
        exact ⟨rfl, hX.trans hx10⟩
    · have P1 := Lib.hid (And.intro p1 p2)
      clear p1 p2
      go_wp2_with fail
      refine (HH.out.2.2.2.2.2.2.1 Aa qa AV cV w7 ha hAV).mono ?_
      rintro e w12 ⟨rfl, hxx⟩
      rw [P1.out.1]
      replace hX := hX.trans hxx
      replace hA2 := hA2.ext hxx
      replace hAV := hAV.ext hxx
      replace hb := hb.ext hxx
      replace hc := hc.ext hxx
      replace hd := hd.ext hxx
      clear hxx ha
      go_wp2_with fail
      refine (HH.out.2.2.2.2.2.2.2.1 Ab qb AV cV w12 hb hAV).mono ?_
      rintro e w8 ⟨rfl, hxx⟩
      rw [P1.out.2]
      replace hX := hX.trans hxx
      replace hA2 := hA2.ext hxx
      replace hc := hc.ext hxx
      replace hd := hd.ext hxx
      clear hxx hb hAV
      rcases G4.out with p3 | ⟨p3, p4⟩
      · have P3 := Lib.hid p3
        clear p3
        go_wp2_with fail
        refine (HH.out.2.2.2.2.2.2.2.2.1 Ac qc A2 c2 w8 hc hA2).mono ?_
        rintro e w9 ⟨rfl, hxx⟩
        rw [P3.out]
        replace hX := hX.trans hxx
        go_wp2_with fail
        refine (alive12_any _).mono ?_
        rintro e w10 ⟨rfl, hx10⟩
        go_wp2_with fail
        go_ret
        exact ⟨rfl, hX.trans hx10⟩
      · have P3 := Lib.hid (And.intro p3 p4)
        clear p3 p4
        go_wp2_with fail
        refine (HH.out.2.2.2.2.2.2.2.2.1 Ac qc A2 c2 w8 hc hA2).mono ?_
        rintro e w9 ⟨rfl, hxx⟩
        rw [P3.out.1]
        replace hX := hX.trans hxx
        replace hA2 := hA2.ext hxx
        replace hd := hd.ext hxx
        clear hxx
        go_wp2_with fail
        refine (HH.out.2.2.2.2.2.2.2.2.2 Ad qd A2 c2 w9 hd hA2).mono ?_
        rintro e w11 ⟨rfl, hxx⟩
        rw [P3.out.2]
        replace hX := hX.trans hxx
        go_wp2_with fail
        refine (alive12_any _).mono ?_
        rintro e w10 ⟨rfl, hx10⟩
        go_wp2_with fail
        go_ret
        exact ⟨rfl, hX.trans hx10⟩
set_option maxRecDepth 100000 in
set_option maxHeartbeats 6400000 in
theorem atomicMore_any (m : List Int) (l : List (Int × Int)) (left more mask : Int) (A : Option Addr) (c : Nat) (B : Option Addr) (d : Nat) (w : World) (hA : Sl w A m.length c (fU m)) (hB : Sl w B l.length d (fE l)) (wm : WfU m) (wf : WfE l) (hmk : InU mask) :
    Calls Try.prog 16 #[.slice A m.length c, .slice B l.length d, .int .i64 left, .int .i64 more, .int .u64 mask] w fun e w' => e = .returned (.bool true) ∧ Ext w w' := by
  have hBm := hB.max
  have hBl := hB.le
  have hAm := hA.max
  have hAl := hA.le
  unfold maxLen at hBm hAm
  by_cases hs : sizeB (m.length : Int) = true
  rotate_left
  · have hi : imgE (m.length : Int) = 8 := by simp [imgE, hs]
    clear hs
    go_enter Try.func16, Try.ntmps16
    go_wp2_with fail
    refine (refCheck2_any _ _ _ _).mono ?_
    rintro e w1 ⟨rfl, rfl⟩
    go_wp2_with fail
    refine (alive12_any _).mono ?_
    rintro e w9 ⟨rfl, hx9⟩
    go_wp2_with fail
    go_ret
    exact ⟨rfl, hx9⟩
  have hi : imgE (m.length : Int) = 0 := by simp [imgE, hs]
  by_cases hk : chkE l m.length = 0
  rotate_left
  · have hb2 : (chkE l m.length != 0) = true := by simpa using hk
    clear hk hs
    go_enter Try.func16, Try.ntmps16
    go_wp2_with fail
    refine (refCheck2_any _ _ _ _).mono ?_
    rintro e w1 ⟨rfl, rfl⟩
    go_wp2_with fail
    refine (refCheck8_any l m.length B d w hB).mono ?_
    rintro e w1 ⟨rfl, hd1⟩
    go_wp2_with fail
    refine (alive12_any _).mono ?_
    rintro e w9 ⟨rfl, hx9⟩
    go_wp2_with fail
    go_ret
    exact ⟨rfl, hd1.ext.trans hx9⟩
  by_cases hr : 0 ≤ left
  rotate_left
  · have hn : decide (left < 0) = true := decide_eq_true (by omega)
    have HK := Lib.hid hk
    clear hr hk hs
    go_enter Try.func16, Try.ntmps16
    go_wp2_with fail
    refine (refCheck2_any _ _ _ _).mono ?_
    rintro e w1 ⟨rfl, rfl⟩
    go_wp2_with fail
    refine (refCheck8_any l m.length B d w hB).mono ?_
    rintro e w1 ⟨rfl, hd1⟩
    rw [HK.out]
    go_wp2_with fail
    refine (alive12_any _).mono ?_
    rintro e w9 ⟨rfl, hx9⟩
    go_wp2_with fail
    go_ret
    exact ⟨rfl, hd1.ext.trans hx9⟩
  have i0 := hr
  clear hr
  by_cases hr : left ≤ more
  rotate_left
  · have hn : decide (more < left) = true := decide_eq_true (by omega)
    have HK := Lib.hid hk
    clear hr hk hs
    go_enter Try.func16, Try.ntmps16
    go_wp2_with fail
    refine (refCheck2_any _ _ _ _).mono ?_
    rintro e w1 ⟨rfl, rfl⟩
    go_wp2_with fail
    refine (refCheck8_any l m.length B d w hB).mono ?_
    rintro e w1 ⟨rfl, hd1⟩
    rw [HK.out]
    go_wp2_with fail
    refine (alive12_any _).mono ?_
    rintro e w9 ⟨rfl, hx9⟩
    go_wp2_with fail
    go_ret
    exact ⟨rfl, hd1.ext.trans hx9⟩
  have i1 := hr
  clear hr
  by_cases hr : more ≤ 1000
  rotate_left
  · have hn : decide (1000 < more) = true := decide_eq_true (by omega)
    have HK := Lib.hid hk
    clear hr hk hs
    go_enter Try.func16, Try.ntmps16
    go_wp2_with fail
    refine (refCheck2_any _ _ _ _).mono ?_
    rintro e w1 ⟨rfl, rfl⟩
    go_wp2_with fail
    refine (refCheck8_any l m.length B d w hB).mono ?_
    rintro e w1 ⟨rfl, hd1⟩
    rw [HK.out]
    go_wp2_with fail
    refine (alive12_any _).mono ?_
    rintro e w9 ⟨rfl, hx9⟩
    go_wp2_with fail
    go_ret
    exact ⟨rfl, hd1.ext.trans hx9⟩
  have i2 := hr
  clear hr
  obtain ⟨lf, rfl⟩ : ∃ k : Nat, left = (k : Int) := ⟨left.toNat, by omega⟩
  obtain ⟨mo, rfl⟩ : ∃ k : Nat, more = (k : Int) := ⟨more.toNat, by omega⟩
  exact atomicMore_main m l lf mo mask A c B d w hA hB wm wf hmk hs hk (by omega) (by omega)
set_option maxRecDepth 100000 in
theorem atomicMore_lifted (os : Os) (started : os.Started) (H : Type) (enc : TypeId × Value → H) :
    ReturnsInHanded {} Try.checked os 16 .any (Rows.atomicMoreSpec.pre6 enc Try.prog Try.f16 Rows.atomicMoreRow.domain false) (Rows.atomicMoreSpec.post enc Try.prog Try.f16 false true false false) := by
  refine returnsInHanded_of_change (C := Try.checked) own_knob started (by kernel_rfl) Try.func16
    (ChangeSpec.witness6 (enc := enc) (C := Try.checked) false ⟨#[], #[.slice none 0 0, .slice none 0 0, .int .i64 0, .int .i64 0, .int .u64 0], []⟩ 8 (by kernel_rfl) (by kernel_rfl) (by kernel_rfl) (by kernel_rfl)) ?_
  intro W base args ds gs before hval0 hW hcnd _
  have hval : ∀ (j : Nat) t v, Try.f16.params[j]? = some t → args[j]? = some v → Value.okWide Try.prog W .any base t v := hval0
  have hW' := hW
  obtain ⟨p, q, hA0, hV, rfl, hfz, hnd⟩ := hW
  have hA : DataW.TrodAll enc Try.prog W 0 (fun _ => true) true Try.f16.params.toList args.toList ds p := hA0
  rw [Try.params16] at hA hval
  obtain ⟨v0, vs0, d0, ds0, p0, q0, hargs, rfl, rfl, h0, r0⟩ := trodAll_cons hA
  obtain ⟨v1, vs1, d1, ds1, p1, q1, rfl, rfl, rfl, h1, r1⟩ := trodAll_cons r0
  obtain ⟨v2, vs2, d2, ds2, p2, q2, rfl, rfl, rfl, h2, r2⟩ := trodAll_cons r1
  obtain ⟨v3, vs3, d3, ds3, p3, q3, rfl, rfl, rfl, h3, r3⟩ := trodAll_cons r2
  obtain ⟨v4, vs4, d4, ds4, p4, q4, rfl, rfl, rfl, h4, r4⟩ := trodAll_cons r3
  obtain ⟨rfl, rfl, rfl⟩ := trodAll_nil r4
  obtain rfl : args = #[v0, v1, v2, v3, v4] := by cases args; simp_all
  obtain ⟨rfl, rfl⟩ := trodVars_none hV
  obtain ⟨A0, c0, m0, rfl, hS0, wA0⟩ := op_U (hval 0 29 v0 rfl rfl) h0
  obtain ⟨A1, c1, l1, rfl, hS1, wA1⟩ := op_E (hval 1 34 v1 rfl rfl) h1
  obtain ⟨x2, rfl, wx2⟩ := op_i (hval 2 3 v2 rfl rfl) h2
  obtain ⟨x3, rfl, wx3⟩ := op_i (hval 3 3 v3 rfl rfl) h3
  obtain ⟨x4, rfl, wx4⟩ := op_u (hval 4 24 v4 rfl rfl) h4
  clear hA0 hval0 hval hA
  refine (atomicMore_any m0 l1 x2 x3 x4 A0 c0 A1 c1 W hS0 hS1 wA0 wA1 wx4).mono fun e W' ⟨he, hx⟩ => ?_
  subst he
  exact ⟨_, rfl, post_law laid_out (by kernel_rfl) hW' rfl rfl rfl Try.underlying4 hx⟩
theorem atomicMore_holds : Rows.AtomicMoreSaid :=
  OpenClaim.holds_of_wide 16 Try.f16 rfl rfl rfl rfl rfl rfl rfl ⟨rfl, rfl, rfl, rfl, rfl⟩ rfl rfl rfl rfl rfl (by kernel_rfl) Try.func16 (by kernel_rfl)
    (of_decide_eq_true (by kernel_rfl)) (by unfold Func.isWrapper; first | (rw [if_pos (by decide +kernel)]; kernel_rfl) | (rw [if_neg (by decide +kernel)]; exact ⟨rfl, rfl⟩))
    (fun os started H enc _ => atomicMore_lifted os started H enc)
end Go.Proofs.Ytmkcpnklaijkfaa
