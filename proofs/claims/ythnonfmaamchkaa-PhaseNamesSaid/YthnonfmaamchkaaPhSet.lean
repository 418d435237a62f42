/-
  The contracts of setting a phase.
-/
import Derived.Test.YthnonfmaamchkaaPhaseB
import Derived.Test.YthnonfmaamchkaaImage2
import Derived.Test.YthnonfmaamchkaaApply
namespace Go.Proofs.Ythnonfmaamchkaa
open Go.RowKit

theorem step_copyU {P : Program} {w : World} {t e : TypeId} {bytes : Nat} (E : ElT P t e 1 bytes) {ops : Array Oper} {o : Oper} {a : Act} {K : Act → World → Prop} {Q : Exit → Act → World → Prop} {F : Prop} (hgd : o.guard = none) (d s : Operand) (sT : TypeId)
    (ho : o.op = .call { callee := .builtin .copy, args := #[d, s], argTypes := #[t, sT] })
    {base g n cap : Nat} {xs : List Value} (hown : w.ownsRow base e 1 (.slice (some ⟨g, 0, none⟩) n cap) n xs)
    {dp : Option Addr} {dLen dCap : Nat} (hd : a.eval d = .slice dp dLen dCap) {A : Option Addr} {m c : Nat} {news : List Value} (hs : a.eval s = .slice A m c) (hr : Sl w A m c news)
    (off : Nat) (hl : news.length = m) (hm : m ≤ dLen) (hdp : 0 < dLen → dp = some ⟨g, off, none⟩) (hoff : off + dLen ≤ n) (h1 : ∀ u ∈ news, u.oneCell' = true) (hbg : base ≤ g)
    (h : ∀ w', w'.ownsRow base e 1 (.slice (some ⟨g, 0, none⟩) n cap) n (splice xs off news) → Below base w w' → K (a.put o.dst (goInt m)) w') :
    if Region.wanted o (yielded ops a.tmps) = true then Oper.wp P o a w K Q else F := by
  obtain ⟨i, z, hi, hz, hsize, hby, hzs⟩ := E.inf
  obtain ⟨hxl, ⟨hv, _⟩ | ⟨g', cap', cur, hv, hb, hg, hn, hmx, hcs, htake⟩⟩ := hown
  · cases hv
  · injection hv with e1 e2 e3
    injection e1 with e1
    injection e1 with e1
    subst e1 e3
    refine step_copy_splice hgd d s t sT ho e E.und (by simp [hi, hsize]) dp A dLen dCap m c hd hs g off cur.toList e (by simpa using hg) news (by rw [hl]; exact (Nat.min_eq_left hm).symm)
      (fun h0 => ⟨hdp (by omega), hr.cells (by intro h2; subst h2; simp at h0)⟩) (by rw [hl]; simp [hcs]; omega) h1 base w (Below.refl _ _) hbg ?_
    intro w' hw' hb'
    rw [hl]
    refine h w' ⟨?_, .inr ⟨g, cap, (splice cur.toList off news).toArray, rfl, hb, hw'.out, hn, hmx, ?_, ?_⟩⟩ hb'
    · rw [length_splice _ _ _ (by rw [hl, hxl]; omega)]; exact hxl
    · simp only [List.size_toArray]
      rw [length_splice _ _ _ (by rw [hl]; simp [hcs]; omega)]
      simpa using hcs
    · simp only
      rw [← htake]
      refine splice_take _ _ _ _ (by rw [hl]; omega) ?_
      simp [hcs]; omega
/-- An image with a phase in it. -/
def setP (m : List Int) (a b c : Int) : List Int := splice m 16 [a, b, c]
/-- The error of setting a phase. -/
def spE (n a b c : Int) : Int := if sizeB n then phE a b c else 8
theorem setP_len {m : List Int} {a b c : Int} (h : 19 ≤ m.length) : (setP m a b c).length = m.length := by
  simp [setP, splice]; omega
theorem setP_sets {m : List Int} {a b c : Int} (h : 19 ≤ m.length) : ((m.set 16 a).set 17 b).set 18 c = setP m a b c := by
  apply List.ext_getElem?
  intro i
  simp only [setP, splice, List.getElem?_set, List.getElem?_append, List.length_take, List.length_set, List.getElem?_take, List.getElem?_drop, List.length_cons, List.length_nil]
  rw [Nat.min_eq_left (by omega)]
  by_cases h18 : i = 18
  · subst h18; simp; omega
  · by_cases h17 : i = 17
    · subst h17; simp; omega
    · by_cases h16 : i = 16
      · subst h16; simp; omega
      · rw [if_neg (by omega), if_neg (by omega), if_neg (by omega)]
        by_cases hi : i < 16
        · simp [hi]
        · rw [if_neg (by omega), if_neg (by omega)]
          congr 1
          omega
set_option maxHeartbeats 1600000 in
set_option maxRecDepth 100000 in
theorem phSet_any (m : List Int) (A : Option Addr) (k : Nat) (a b c : Int) (w : World) (hA : Sl w A m.length k (fU m)) :
    Calls Try.prog 31 #[.slice A m.length k, .agg #[.int .i64 a, .int .i64 b, .int .i64 c]] w (RetS w 31 1 m.length (fU (setP m a b c)) (spE m.length a b c)) := by
  cases hs : sizeB (m.length : Int) with
  | false =>
    have hi : imgE (m.length : Int) = 8 := by simp [imgE, hs]
    have hr : spE m.length a b c = 8 := by simp [spE, hs]
    rw [hr]
    go_enter Try.func31, Try.ntmps31
    go_wp2_with fail
    refine (imageCheck_any _ _ _ _).mono ?_
    rintro e w' ⟨rfl, rfl⟩
    go_wp2_with fail
    go_ret2
    exact .inr ⟨by decide, rfl, (Ext.refl w).alloc _⟩
  | true =>
    have hi : imgE (m.length : Int) = 0 := by simp [imgE, hs]
    have hsz := sizeB_bd hs
    cases hp : phB a b c with
    | false =>
      have he : phE a b c = 8 := by simp [phE, hp]
      have hr : spE m.length a b c = 8 := by simp [spE, hs, he]
      rw [hr]
      go_enter Try.func31, Try.ntmps31
      go_wp2_with fail
      refine (imageCheck_any _ _ _ _).mono ?_
      rintro e w' ⟨rfl, rfl⟩
      go_wp2_with fail
      refine (phCheck_any _ _ _ _).mono ?_
      rintro e w1 ⟨rfl, hx⟩
      go_wp2_with fail
      go_ret2
      exact .inr ⟨by decide, rfl, ((Ext.refl w).alloc _).trans hx⟩
    | true =>
      have he : phE a b c = 0 := by simp [phE, hp]
      have hr : spE m.length a b c = 0 := by simp [spE, hs, he]
      rw [hr]
      clear hr hs
      have H := Lib.hid hp
      clear hp
      have hle := hA.le
      have hmax := hA.max
      unfold maxLen at hmax
      go_enter Try.func31, Try.ntmps31
      go_wp2_with fail
      refine (imageCheck_any _ _ _ _).mono ?_
      rintro e w' ⟨rfl, rfl⟩
      go_wp2_with fail
      refine (phCheck_any _ _ _ _).mono ?_
      rintro e w1 ⟨rfl, hx⟩
      obtain ⟨hc, hf⟩ := hx.bcell
      go_wp2_with fail
      refine (phWords_any _ _ _ _ H.out).mono ?_
      rintro e w2 ⟨rfl, hx2⟩
      have hX2 : Ext w w2 := (((Ext.refl w).alloc _).trans hx).trans hx2
      have hA2 := hA.ext hX2
      clear hc hf hx hx2 hA
      go_wp2_with fail
      refine (cloneU_any m A k _ (hA2.alloc _) (by omega)).mono ?_
      rintro e w3 ⟨A3, c3, rfl, hown, hA3, hx3⟩
      obtain ⟨g, rfl, hg⟩ := own_head hown (by omega)
      have hc1 := hA3.le
      have hc2 := hA3.max
      unfold maxLen at hc2
      have hW : Sl w3 (some ⟨w2.heap.size, 0, none⟩) 3 3 (fU [a, b, c]) := (Sl.lit' _ _ _ _ rfl (by decide)).ext hx3
      have hgr : w.heap.size ≤ w2.heap.size := hX2.size
      have hne : c3 ≠ 16 := by omega
      have hm16 : (16 : Int) ≤ m.length := by omega
      have hXX : Ext w w3 := (hX2.alloc _).trans hx3
      go_wp2_with fail
      go_region_law (refine step_copyU EU rfl (.tmp 25) (.tmp 26) _ rfl hown.drew rfl rfl hW.drew 16 rfl (by omega) (fun _ => by simp) (by omega) (fU_one _) hg ?_; intro w4 hown4 hbel4)
      all_goals
        go_wp2_with fail
        go_ret2
        rw [fU_splice] at hown4
        exact .inl ⟨rfl, retOwn2_mk (own_base hown4 (by simp; omega)) (Below.trans hXX.drew (hbel4.mono (by simp; omega)))⟩
set_option maxHeartbeats 1600000 in
set_option maxRecDepth 100000 in
theorem refSet_any (m : List Int) (A : Option Addr) (k : Nat) (a b c : Int) (w : World) (hA : Sl w A m.length k (fU m)) :
    Calls Try.prog 37 #[.slice A m.length k, .agg #[.int .i64 a, .int .i64 b, .int .i64 c]] w (RetS w 31 1 m.length (fU (setP m a b c)) (spE m.length a b c)) := by
  cases hs : sizeB (m.length : Int) with
  | false =>
    have hi : imgE (m.length : Int) = 8 := by simp [imgE, hs]
    have hr : spE m.length a b c = 8 := by simp [spE, hs]
    rw [hr]
    go_enter Try.func37, Try.ntmps37
    go_wp2_with fail
    refine (refCheck2_any _ _ _ _).mono ?_
    rintro e w' ⟨rfl, rfl⟩
    go_wp2_with fail
    go_ret2
    exact .inr ⟨by decide, rfl, (Ext.refl w).alloc _⟩
  | true =>
    have hi : imgE (m.length : Int) = 0 := by simp [imgE, hs]
    have hsz := sizeB_bd hs
    cases hp : phB a b c with
    | false =>
      have hr : spE m.length a b c = 8 := by simp [spE, hs, phE, hp]
      rw [hr]
      go_enter Try.func37, Try.ntmps37
      go_wp2_with fail
      refine (refCheck2_any _ _ _ _).mono ?_
      rintro e w' ⟨rfl, rfl⟩
      go_wp2_with fail
      refine (refValid_any _ _ _ _).mono ?_
      rintro e w1 ⟨rfl, hx⟩
      go_wp2_with fail
      go_ret2
      exact .inr ⟨by decide, rfl, ((Ext.refl w).alloc _).trans hx⟩
    | true =>
      have hr : spE m.length a b c = 0 := by simp [spE, hs, phE, hp]
      rw [hr]
      obtain ⟨p1, p2, p3, p4, p5, p6⟩ := phB_bd hp
      have wa : IntKind.u64.wrap a = a := u64_small p1 (by omega)
      have wb : IntKind.u64.wrap b = b := u64_small p3 (by omega)
      have wc : IntKind.u64.wrap c = c := u64_small p5 (by omega)
      clear hr hs
      have hle := hA.le
      have hmax := hA.max
      unfold maxLen at hmax
      go_enter Try.func37, Try.ntmps37
      go_wp2_with fail
      refine (refCheck2_any _ _ _ _).mono ?_
      rintro e w' ⟨rfl, rfl⟩
      go_wp2_with fail
      refine (refValid_any _ _ _ _).mono ?_
      rintro e w1 ⟨rfl, hx⟩
      obtain ⟨hc, hf⟩ := hx.bcell
      have hX1 : Ext w w1 := ((Ext.refl w).alloc _).trans hx
      go_wp2_with fail
      refine (twin2_any m A k w1 (hA.ext hX1) (by omega)).mono ?_
      rintro e w2 ⟨A3, c3, rfl, hown, hA3, hx3⟩
      obtain ⟨g, rfl, hg⟩ := own_head hown (by omega)
      obtain ⟨y0, _, g0, f0⟩ := own_at_U hown (i := 16) (by omega)
      obtain ⟨y1, _, g1, f1⟩ := own_at_U hown (i := 17) (by omega)
      obtain ⟨y2, _, g2, f2⟩ := own_at_U hown (i := 18) (by omega)
      obtain ⟨hc', hf'⟩ := (hx.trans hx3).bcell
      have hne : w.heap.size ≠ g := by have := hx.size; simp at this; omega
      clear hA hA3
      have hgl := block_lt_of_cell g0
      have hXX : Ext w w2 := hX1.trans hx3
      go_wp2_with fail
      go_region
      go_wp2_with fail
      go_ret2
      have hown2 := (own_base (own_set_U (own_set_U (own_set_U hown 16 a) 17 b) 18 c) hX1.size).drew
      rw [setP_sets (by omega)] at hown2
      have hgw : w.heap.size ≤ g := by have := hX1.size; omega
      exact .inl ⟨rfl, retOwn2_mk hown2 (((hXX.setCell (p := ⟨g, 16, none⟩) hgw _).setCell (p := ⟨g, 17, none⟩) hgw _).setCell (p := ⟨g, 18, none⟩) hgw _).drew⟩
end Go.Proofs.Ythnonfmaamchkaa
