/-
  The contract of atomic.Change where it makes a change.
-/
import Derived.Test.YtmkcpnklaijkfaaAtC
import Derived.RegionTactic
namespace Go.Proofs.Ytmkcpnklaijkfaa
open Go.RowKit
/-- The entries of the journal's words. -/
def jrn (l : List (Int × Int)) : List (Int × Int) := jEnt 32 (listed l) (listed l).length
/-- The operations of a change. -/
def chOps (l : List (Int × Int)) : List Dop := putOps (jrn l) 256 ++ (putOps [(24, cword l)] 256 ++ repOps l)
theorem jrn_length (l : List (Int × Int)) : (jrn l).length = 2 * l.length := by unfold jrn; rw [jEnt_length, listed_length]
theorem jrn_mem {l : List (Int × Int)} {e : Int × Int} (h : e ∈ jrn l) (hl : l.length ≤ 32) : 32 ≤ e.1 ∧ e.1 < 96 ∧ ∃ i : Nat, e.2 = (listed l).getD i 0 := by
  obtain ⟨i, hi, rfl⟩ := List.mem_map.1 h
  have h1 := List.mem_range.1 hi
  have h2 := listed_length l
  exact ⟨by simp only; omega, by simp only; omega, i, rfl⟩
theorem jrn_wf {l : List (Int × Int)} {n : Int} (h : chkE l n = 0) (wf : WfE l) : WfE (jrn l) := by
  have hl := (chk_iff.1 h).2.1
  intro e he
  obtain ⟨h0, h1, i, hi⟩ := jrn_mem he hl
  refine ⟨by unfold InI; omega, ?_⟩
  rw [hi]
  exact wf_getD (wfU_listed (chk_small h).1 wf) i
theorem PT.setE {w0 wr : World} {gd ge : Nat} {m : List Int} {q : List Dw} {left : Int} {down : Bool} (h : PT w0 wr gd ge m q left down) : PT w0 (wr.setCell ⟨ge, 0, none⟩ (.int .i64 0)) gd ge m q left down := by
  obtain ⟨A, c, B, d, hb, hA, hB⟩ := h.d
  have l1 := h.lo
  have l2 := h.lt
  exact ⟨⟨A, c, B, d, hb.far (p := ⟨ge, 0, none⟩) (by show ge ≠ gd; omega) _, hA.setSame h.e, hB.setSame h.e⟩, cell_same h.e, fun o => by rw [World.frozen?_setCell]; exact h.ef o,
    h.r.far (p := ⟨ge, 0, none⟩) (by show ge ≠ gd + 1; omega) _, h.x.setCell (p := ⟨ge, 0, none⟩) (by show w0.heap.size ≤ ge; omega) _, l1, l2⟩
set_option maxRecDepth 100000 in
set_option maxHeartbeats 1600000 in
theorem aChange_ok (m : List Int) (q : List Dw) (left : Int) (down : Bool) (l : List (Int × Int)) (A : Option Addr) (c : Nat) (B : Option Addr) (d : Nat) (E : Option Addr) (f : Nat) (w : World) (hA : Sl w A m.length c (fU m)) (hB : Sl w B q.length d (fD q)) (hE : Sl w E l.length f (fE l))
    (hd : devB m q left down = true) (hk : chkE l m.length = 0) (hn : l.length ≠ 0) (h24 : (wrd m q)[24]? = some 0) (wf : WfE l) :
    Calls Try.prog 50 #[.agg #[.slice A m.length c, .slice B q.length d, .int .i64 left, .bool down], .slice E l.length f] w (RetV w (runD (m, q, left, down) (chOps l)) 0) := by
  obtain ⟨hs, hl, hmb, _⟩ := chk_iff.1 hk
  have hsz := sizeB_bd hs
  have hVl := wrd_length q m
  have hPT0 := (DV.new w m q left down A c B d 46 hA hB).ext ((Ext.refl _).alloc (Obj.cells #[.slice none 0 0, .slice none 0 0, .int .i64 0, .bool false] 46))
  have hrx : Box4 ((w.alloc (Obj.cells #[.slice A m.length c, .slice B q.length d, .int .i64 left, .bool down] 46)).alloc (Obj.cells #[.slice none 0 0, .slice none 0 0, .int .i64 0, .bool false] 46)) (w.heap.size + 1) (.slice none 0 0) (.slice none 0 0) (.int .i64 0) (.bool false) := Box4.new' _ _ (by simp) _ _ _ _ _
  have h1 := fun A c B d W (ha : Sl W A m.length c (fU m)) (hb : Sl W B q.length d (fD q)) => dView_ok hd A c B d W ha hb
  have h2 := fun W (h : Sl W E l.length f (fE l)) => entryWords_any l m.length E f W h wf
  have h3 := fun W (h : Sl W E l.length f (fE l)) => commitWord_any l m.length E f W h wf
  obtain ⟨cp, _, _, ce, cin⟩ := cw_facts hk hn
  rw [ce, if_pos rfl] at h3
  rw [hk] at h2
  have hq := asc_length (devB_bd hd).2.2.2.2 (by omega)
  obtain ⟨V, hV⟩ : ∃ V, wrd m q = V := ⟨_, rfl⟩
  rw [hV] at h1 hVl h24
  have hne0 : ((l.length : Int) == 0) = false := by simpa using hn
  have hrJ : ∀ e ∈ jrn l, 0 ≤ e.1 ∧ e.1 < (m.length : Int) := fun e he => by have := jrn_mem he hl; omega
  have hwJ := jrn_wf hk wf
  have hv1 := devB_run (left := left) (down := down) hd (putOps_in hrJ hsz.2.2 hwJ 256)
  have hll := listed_length l
  have wl := wfU_listed (chk_small hk).1 wf
  have hal : ∀ W, Sl W none 0 0 [] → True := fun _ _ => trivial
  have k1 : ∀ Aw cw W, Sl W Aw (2 * l.length) cw (fU (listed l)) → Calls Try.prog 89 #[.int .i64 32, .slice Aw (2 * l.length) cw] W (RetOwn W 38 2 (2 * l.length) (fE (jrn l))) := fun Aw cw W h => by
    have := alist_any 32 (listed l) Aw cw W (by rw [hll]; exact h) (by decide) (by decide) (by omega)
    unfold jrn
    rw [hll] at this ⊢
    exact this
  obtain ⟨⟨m1, q1, l1, n1⟩, e1⟩ : ∃ D, runD (m, q, left, down) (putOps (jrn l) 256) = D := ⟨_, rfl⟩
  rw [e1] at hv1
  have k2 : ∀ gd ge E f W, PT w W gd ge m q left down → Sl W E (2 * l.length) f (fE (jrn l)) → Calls Try.prog 88 #[.slice E (2 * l.length) f, .pointer (some ⟨ge, 0, none⟩), .pointer (some ⟨gd, 0, none⟩)] W fun e w' => e = .returned (.tuple #[]) ∧ PT w w' gd ge m1 q1 l1 n1 := fun gd ge E f W h he => by
    have := chF_any h (jrn l) E f (by rw [jrn_length]; exact he) hd (by rw [jrn_length]; omega) hrJ hwJ e1
    rw [jrn_length] at this
    exact this
  have hr2 : ∀ e ∈ [((24 : Int), cword l)], 0 ≤ e.1 ∧ e.1 < (m1.length : Int) := fun e he => by
    simp at he; subst he
    have : m1.length = m.length := hv1.2
    simp only; omega
  have hw2 : WfE [((24 : Int), cword l)] := fun e he => by
    simp at he; subst he
    exact ⟨by unfold InI; simp only; omega, cin⟩
  have hv2 := devB_run (left := l1) (down := n1) hv1.1 (putOps_in hr2 (by have : m1.length = m.length := hv1.2; omega) hw2 256)
  have k3 : ∀ Aw cw W, Sl W Aw 1 cw (fU [cword l]) → Calls Try.prog 89 #[.int .i64 24, .slice Aw 1 cw] W (RetOwn W 38 2 1 (fE [(24, cword l)])) := fun Aw cw W h => alist_any 24 [cword l] Aw cw W h (by decide) (by decide) (by simp)
  obtain ⟨⟨m2, q2, l2, n2⟩, e2⟩ : ∃ D, runD (m1, q1, l1, n1) (putOps [(24, cword l)] 256) = D := ⟨_, rfl⟩
  rw [e2] at hv2
  have k4 : ∀ gd ge E f W, PT w W gd ge m1 q1 l1 n1 → Sl W E 1 f (fE [(24, cword l)]) → Calls Try.prog 88 #[.slice E 1 f, .pointer (some ⟨ge, 0, none⟩), .pointer (some ⟨gd, 0, none⟩)] W fun e w' => e = .returned (.tuple #[]) ∧ PT w w' gd ge m2 q2 l2 n2 := fun gd ge E f W h he => chF_any h [(24, cword l)] E f he hv1.1 (by simp) hr2 hw2 e2
  have hm2 : m2.length = m.length := hv2.2.trans hv1.2
  have hr3 : ∀ e ∈ l, 0 ≤ e.1 ∧ e.1 < (m2.length : Int) := fun e he => by have := mayB_bd (hmb e he); omega
  have hv3 := devB_run (left := l2) (down := n2) hv2.1 (putOps_in hr3 (by omega) wf 256)
  obtain ⟨⟨m3, q3, l3, n3⟩, e3⟩ : ∃ D, runD (m2, q2, l2, n2) (putOps l 256) = D := ⟨_, rfl⟩
  rw [e3] at hv3
  have k5 : ∀ gd ge E f W, PT w W gd ge m2 q2 l2 n2 → Sl W E l.length f (fE l) → Calls Try.prog 88 #[.slice E l.length f, .pointer (some ⟨ge, 0, none⟩), .pointer (some ⟨gd, 0, none⟩)] W fun e w' => e = .returned (.tuple #[]) ∧ PT w w' gd ge m3 q3 l3 n3 := fun gd ge E f W h he => chF_any h l E f he hv2.1 (by omega) hr3 wf e3
  have hm3 : m3.length = m.length := hv3.2.trans hm2
  have hr4 : ∀ e ∈ [((24 : Int), (0 : Int))], 0 ≤ e.1 ∧ e.1 < (m3.length : Int) := fun e he => by
    simp at he; subst he
    simp only; omega
  have k6 : ∀ Aw cw W, Sl W Aw 1 cw (fU [0]) → Calls Try.prog 89 #[.int .i64 24, .slice Aw 1 cw] W (RetOwn W 38 2 1 (fE [(24, 0)])) := fun Aw cw W h => alist_any 24 [0] Aw cw W h (by decide) (by decide) (by simp)
  obtain ⟨⟨m4, q4, l4, n4⟩, e4⟩ : ∃ D, runD (m3, q3, l3, n3) (putOps [(24, 0)] 256) = D := ⟨_, rfl⟩
  have k7 : ∀ gd ge E f W, PT w W gd ge m3 q3 l3 n3 → Sl W E 1 f (fE [(24, 0)]) → Calls Try.prog 88 #[.slice E 1 f, .pointer (some ⟨ge, 0, none⟩), .pointer (some ⟨gd, 0, none⟩)] W fun e w' => e = .returned (.tuple #[]) ∧ PT w w' gd ge m4 q4 l4 n4 := fun gd ge E f W h he => chF_any h [(24, 0)] E f he hv3.1 (by decide) hr4 wf24 e4
  have eD : runD (m, q, left, down) (chOps l) = (m4, q4, l4, n4) := by
    unfold chOps repOps
    rw [runD_append, e1, runD_append, e2, runD_append, e3, e4]
  rw [eD]
  obtain ⟨C, hC⟩ : ∃ C, cword l = C := ⟨_, rfl⟩
  rw [hC] at k3 k4 h3
  have HK := Lib.hid (And.intro k1 (And.intro k2 (And.intro k3 (And.intro k4 (And.intro k5 (And.intro k6 k7))))))
  clear k1 k2 k3 k4 k5 k6 k7 hal hrJ hwJ hll wl e1 e2 e3 e4 eD hv1 hv2 hv3 hr2 hr3 hr4 hw2 hm2 hm3
  have HH := Lib.hid (And.intro h1 (And.intro h2 (And.intro h3 (And.intro hVl (And.intro hd (And.intro hk h24))))))
  clear h1 h2 h3 hVl hd hk h24 hn hV hs hmb ce cp cin hC
  go_enter Try.func50, Try.ntmps50
  go_wp2_with fail
  refine (HH.out.1 A c B d _ ((hA.alloc _).alloc _) ((hB.alloc _).alloc _)).mono ?_
  rintro e w1 ⟨AV, cV, rfl, -, sV, hx1⟩
  have hX1 : Ext w w1 := Ext.trans (((Ext.refl w).alloc _).alloc _) hx1
  have hPT : PT w (w1.alloc (Obj.cells #[.int .i64 0] 30)) w.heap.size w1.heap.size m q left down :=
    ⟨(hPT0.ext hx1).ext ((Ext.refl _).alloc _), by simp [go_sem], fun o => by simp [go_sem], (hrx.ext hx1).alloc _, hX1.alloc _, Nat.le_refl _, (hrx.ext hx1).lt⟩
  replace sV := sV.alloc (Obj.cells #[.int .i64 0] 30)
  clear hPT0 hrx hx1 hX1 hA hB
  go_upto_region 4 with fail
  obtain ⟨W2, hW2⟩ : ∃ W, W = w1.alloc (Obj.cells #[.int .i64 0] 30) := ⟨_, rfl⟩
  obtain ⟨ge, hge⟩ : ∃ g, w1.heap.size = g := ⟨_, rfl⟩
  rw [← hW2] at hPT sV ⊢
  rw [hge] at hPT ⊢
  obtain ⟨gd, hgd⟩ : ∃ g, w.heap.size = g := ⟨_, rfl⟩
  have HGD := Lib.hid hgd
  rw [hgd] at hPT ⊢
  clear hW2 hge hgd
  have hP0 := hPT
  clear hPT
  rw [HH.out.2.2.2.1] at sV ⊢
  go_wp2_with fail
  refine (HH.out.2.1 W2 (hE.ext hP0.x)).mono ?_
  rintro e w3 (⟨_, Aw, cw, rfl, ow, sW, hx3⟩ | ⟨hne, _⟩)
  case inr => exact absurd rfl hne
  have hP3 := hP0.ext hx3
  replace sV := sV.ext hx3
  have he := hP3.e
  have hef := hP3.ef
  have fW := own_far (b := gd) ow (Nat.lt_of_lt_of_le (Nat.lt_succ_self gd) (Nat.le_of_lt hP0.r.lt))
  have H3 := Lib.hid (And.intro hP3.setE (And.intro (sV.setSame he) (sW.setSame he)))
  clear hP0 hP3 sV ow sW hx3
  go_upto_region 7 with fail
  obtain ⟨W4, hW4⟩ : ∃ W, W = w3.setCell ⟨ge, 0, none⟩ (.int .i64 0) := ⟨_, rfl⟩
  have h3 := H3.out
  rw [← hW4] at h3 ⊢
  obtain ⟨hP4, sV4, sW4⟩ := h3
  clear hW4 he hef H3
  obtain ⟨ad, x, rfl, hat, g0⟩ := sV4.u_at (k := 24) (by rw [HH.out.2.2.2.1]; omega)
  rw [HH.out.2.2.2.2.2.2] at hat
  injection hat with hat
  subst hat
  rw [add_lit_ ad 23] at g0
  have H4 := Lib.hid (And.intro hP4 sW4)
  clear hP4 sW4 sV4
  go_upto_region 9 with fail
  clear g0
  have hP4 := H4.out.1
  obtain ⟨A1, c1, B1, d1, hb, sA, sB⟩ := hP4.d
  have HB := Lib.hid hb
  obtain ⟨b0, b1, b2, b3, bf, bl⟩ := hb
  have bf0 := bf 0
  have bf1 := bf 1
  clear hP4 bf
  go_region_with (first
    | (go_at_call 71; refine (cloneU_any m A1 c1 _ (sA.ext (by repeat (first | assumption | exact Ext.refl _ | refine Ext.drewN ?_ _ | refine Ext.drew ?_ | refine Ext.alloc ?_ _ | refine Ext.trans ?_ (by assumption)))) (by omega)).mono ?_; rintro e wn ⟨A2, c2, rfl, oA2, sA2, hxA⟩; obtain ⟨y0, y1, y2, y3, yf, yl⟩ := HB.out.ext (w' := wn) (by repeat (first | assumption | exact Ext.refl _ | refine Ext.drewN ?_ _ | refine Ext.drew ?_ | refine Ext.alloc ?_ _ | refine Ext.trans ?_ (by assumption))); have yf0 := yf 0; have yf1 := yf 1)
    | (go_at_call 87; refine (cloneD_any q B1 d1 _ (sB.ext (by repeat (first | assumption | exact Ext.refl _ | refine Ext.drewN ?_ _ | refine Ext.drew ?_ | refine Ext.alloc ?_ _ | refine Ext.trans ?_ (by assumption)))) (by omega)).mono ?_; rintro e wm ⟨B2, d2, rfl, oB2, sB2, hxB⟩; obtain ⟨z0, z1, z2, z3, zf, zl⟩ := HB.out.ext (w' := wm) (by repeat (first | assumption | exact Ext.refl _ | refine Ext.drewN ?_ _ | refine Ext.drew ?_ | refine Ext.alloc ?_ _ | refine Ext.trans ?_ (by assumption))); have zf0 := zf 0; have zf1 := zf 1))
  all_goals
    have hx5 : Ext W4 wm := (by repeat (first | assumption | exact Ext.refl _ | refine Ext.drewN ?_ _ | refine Ext.drew ?_ | refine Ext.alloc ?_ _ | refine Ext.trans ?_ (by assumption)))
    have fA := own_far (b := gd) oA2 (by have := HB.out.lt; simpa using this)
    have fB := own_far (b := gd) oB2 (Nat.lt_of_lt_of_le HB.out.lt (Ext.size (a := W4) (by repeat (first | assumption | exact Ext.refl _ | refine Ext.drewN ?_ _ | refine Ext.drew ?_ | refine Ext.alloc ?_ _ | refine Ext.trans ?_ (by assumption)))))
    have H5 := Lib.hid (And.intro ((H4.out.1.ext hx5).set2 (sA2.ext hxB) sB2 fA fB) (((H4.out.2.ext hx5).setCell (p := ⟨gd, 0, none⟩) fW (.slice A2 m.length c2)).setCell (p := ⟨gd, 1, none⟩) fW (.slice B2 q.length d2)))
    go_upto_region 12 with fail
    obtain ⟨W5, hW5⟩ : ∃ W, W = (wm.setCell ⟨gd, 0, none⟩ (.slice A2 m.length c2)).setCell ⟨gd, 1, none⟩ (.slice B2 q.length d2) := ⟨_, rfl⟩
    have h5 := H5.out
    rw [← hW5] at h5 ⊢
    obtain ⟨hP5, sW5⟩ := h5
    clear hW5 H5 fA fB hx5 hxA hxB oA2 oB2 sA2 sB2 sA sB HB b0 b1 b2 b3 bf0 bf1 bl y0 y1 y2 y3 yf yl yf0 yf1 z0 z1 z2 z3 zf zl zf0 zf1
    clear H4
    go_wp2_with fail
    refine (HH.out.2.2.1 W5 (hE.ext hP5.x)).mono ?_
    rintro e w6 ⟨rfl, hx6⟩
    have hP6 := hP5.ext hx6
    have he := hP6.e
    have hef := hP6.ef
    have H6 := Lib.hid (And.intro hP6.setE ((sW5.ext hx6).setSame he))
    clear hP5 hP6 sW5 hx6
    go_upto_region 13 with fail
    obtain ⟨W6, hW6⟩ : ∃ W, W = w6.setCell ⟨ge, 0, none⟩ (.int .i64 0) := ⟨_, rfl⟩
    have h6 := H6.out
    rw [← hW6] at h6 ⊢
    obtain ⟨hP6, sW6⟩ := h6
    clear hW6 H6 he hef
    go_wp2_with fail
    refine (HK.out.1 Aw cw W6 sW6).mono ?_
    rintro e w7 ⟨A7, c7, rfl, -, s7, hx7⟩
    replace hP6 := hP6.ext hx7
    clear sW6 hx7
    go_wp2_with fail
    refine (HK.out.2.1 gd ge A7 c7 w7 hP6 s7).mono ?_
    rintro e w8 ⟨rfl, hP8⟩
    clear hP6 s7
    go_wp2_with fail
    refine (HK.out.2.2.1 (some ⟨w8.heap.size, 0, none⟩) 1 _ (Sl.lit' _ _ _ 1 rfl (by decide))).mono ?_
    rintro e w9 ⟨A9, c9, rfl, -, s9, hx9⟩
    replace hP8 := hP8.ext (((Ext.refl w8).alloc _).trans hx9)
    clear hx9
    go_wp2_with fail
    refine (HK.out.2.2.2.1 gd ge A9 c9 w9 hP8 s9).mono ?_
    rintro e w10 ⟨rfl, hP10⟩
    clear hP8 s9
    go_wp2_with fail
    refine (HK.out.2.2.2.2.1 gd ge E f w10 hP10 (hE.ext hP10.x)).mono ?_
    rintro e w11 ⟨rfl, hP11⟩
    clear hP10
    go_wp2_with fail
    refine (HK.out.2.2.2.2.2.1 (some ⟨w11.heap.size, 0, none⟩) 1 _ (Sl.lit' _ _ _ 1 rfl (by decide))).mono ?_
    rintro e w12 ⟨A12, c12, rfl, -, s12, hx12⟩
    replace hP11 := hP11.ext (((Ext.refl w11).alloc _).trans hx12)
    clear hx12
    go_wp2_with fail
    refine (HK.out.2.2.2.2.2.2 gd ge A12 c12 w12 hP11 s12).mono ?_
    rintro e w13 ⟨rfl, hP13⟩
    clear hP11 s12
    have HP8 := Lib.hid hP13
    obtain ⟨A3, c3, B3, d3, ⟨b0, b1, b2, b3, bf, bl⟩, sA, sB⟩ := hP13.d
    obtain ⟨r0, r1, r2, r3, rf, rl⟩ := hP13.r
    have he := hP13.e
    have SA := Lib.hid (And.intro sA sB)
    have hn1 : gd + 1 ≠ ge := by have := HP8.out.lt; omega
    have hn2 : ge ≠ gd + 1 := Ne.symm hn1
    clear hP13 sA sB
    go_wp2_with fail
    refine bodyPost_ret (v := .tuple #[.agg #[.slice A3 m4.length c3, .slice B3 q4.length d3, .int .i64 l4, .bool n4], .int .i64 0]) (by simp [results, Try.results50, go_sem, r0, r1, r2, r3]) rfl ?_
    exact ⟨A3, c3, B3, d3, rfl, SA.out.1.setB_U HP8.out.r _ _ _ _, SA.out.2.setB_D HP8.out.r _ _ _ _, HP8.out.x.setB (Nat.le_succ_of_le HP8.out.lo) _ _ _ _⟩
end Go.Proofs.Ytmkcpnklaijkfaa
