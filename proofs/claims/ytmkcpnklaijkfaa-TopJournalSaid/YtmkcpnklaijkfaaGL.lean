/-
  Several texts in one: Phase, PhaseB, PhSet, PhLine, PhRead.
-/
import Derived.Test.YtmkcpnklaijkfaaGA
import Derived.Deep.Light
import Derived.Test.YtmkcpnklaijkfaaGB
import Derived.Test.YtmkcpnklaijkfaaGC
/-
  Contracts of the phase's checks, and of what writes its entries.
-/
namespace Go.Proofs.Ytmkcpnklaijkfaa
open Go.RowKit

theorem land1 (n : Int) (h0 : 128 ≤ n) (h1 : n ≤ 2048) : bits BinOp.and IntKind.i64 n 1 = n % 2 := by
  obtain ⟨k, rfl⟩ := Int.eq_ofNat_of_zero_le (show 0 ≤ n by omega)
  have h : BitVec.ofInt 64 ((k : Int)) = BitVec.ofNat 64 k := by simp
  show IntKind.i64.wrap ((BitVec.ofInt 64 (k : Int) &&& BitVec.ofInt 64 (1 : Int)).toNat : Int) = _
  rw [h, show BitVec.ofInt 64 (1 : Int) = BitVec.ofNat 64 1 from by simp, BitVec.toNat_and, BitVec.toNat_ofNat, BitVec.toNat_ofNat, Nat.mod_eq_of_lt (a := k) (by omega), Nat.mod_eq_of_lt (a := 1) (by omega), Nat.and_one_is_mod, IntKind.wrap_i64]
  omega
theorem phB_bd {a b c : Int} (h : phB a b c = true) : 0 ≤ a ∧ a ≤ 4 ∧ 0 ≤ b ∧ b ≤ 2048 ∧ 0 ≤ c ∧ c ≤ b := by
  unfold phB curB at h
  split at h
  · simp at h; omega
  · split at h
    · simp at h
    · split at h
      · simp at h; omega
      · simp at h; omega
/-- The entries of a phase. -/
def phL (a b c : Int) : List (Int × Int) := [(16, a), (17, b), (18, c)]

set_option maxHeartbeats 400000 in
theorem inHeap_any (n : Int) (w : World) :
    Calls Try.prog 104 #[.int .i64 n] w fun e w' => e = .returned (.bool (curB n)) ∧ w = w' := by
  by_cases h0 : 128 ≤ n
  · by_cases h1 : n ≤ 2048
    · have hl := land1 n h0 h1
      go_enter Try.func104, Try.ntmps104
      go_wp2
      go_ret
      exact ⟨ret_bool (by simp [curB, h0, h1]; rfl), rfl⟩
    · go_enter Try.func104, Try.ntmps104
      go_wp2
      go_ret
      exact ⟨ret_bool (by simp [curB]; omega), rfl⟩
  · go_enter Try.func104, Try.ntmps104
    go_wp2
    go_ret
    exact ⟨ret_bool (by simp [curB]; omega), rfl⟩
set_option maxHeartbeats 400000 in
theorem refCursor_any (n : Int) (w : World) :
    Calls Try.prog 101 #[.int .i64 n] w fun e w' => e = .returned (.bool (curB n)) ∧ w = w' := by
  go_enter Try.func101, Try.ntmps101
  go_wp2
  all_goals go_ret
  all_goals refine ⟨ret_bool (Bool.eq_iff_iff.2 ?_), rfl⟩
  all_goals simp [curB]
  all_goals omega
set_option maxHeartbeats 800000 in
theorem phCheck_any (a b c : Int) (w : World) :
    Calls Try.prog 69 #[.agg #[.int .i64 a, .int .i64 b, .int .i64 c]] w fun e w' => e = .returned (.int .i64 (phE a b c)) ∧ Ext w w' := by
  go_enter Try.func69, Try.ntmps69
  go_wp2_with (go_at_call 104; refine (inHeap_any _ _).mono ?_; rintro e w' ⟨rfl, rfl⟩)
  all_goals go_ret
  all_goals refine ⟨ret_int ?_, (Ext.refl w).alloc _⟩
  all_goals go_light
  all_goals simp_all [phE, phB]
  all_goals omega
set_option maxHeartbeats 800000 in
theorem refValid_any (a b c : Int) (w : World) :
    Calls Try.prog 65 #[.agg #[.int .i64 a, .int .i64 b, .int .i64 c]] w fun e w' => e = .returned (.bool (phB a b c)) ∧ Ext w w' := by
  go_enter Try.func65, Try.ntmps65
  go_wp2_with (go_at_call 101; refine (refCursor_any _ _).mono ?_; rintro e w' ⟨rfl, rfl⟩)
  all_goals go_ret
  all_goals refine ⟨ret_bool ?_, (Ext.refl w).alloc _⟩
  all_goals go_light
  all_goals simp_all [phB]
  all_goals first | rfl | omega
set_option maxHeartbeats 400000 in
theorem refCheck11_any (a b c : Int) (w : World) :
    Calls Try.prog 21 #[.agg #[.int .i64 a, .int .i64 b, .int .i64 c]] w fun e w' => e = .returned (.int .i64 (phE a b c)) ∧ Ext w w' := by
  go_enter Try.func21, Try.ntmps21
  go_wp2_with (go_at_call 65; refine (refValid_any _ _ _ _).mono ?_; rintro e w' ⟨rfl, hx⟩)
  all_goals go_ret
  all_goals refine ⟨ret_int ?_, ((Ext.refl w).alloc _).trans hx⟩
  all_goals simp_all [phE]

set_option maxHeartbeats 400000 in
theorem phWords_any (a b c : Int) (w : World) (h : phB a b c = true) :
    Calls Try.prog 70 #[.agg #[.int .i64 a, .int .i64 b, .int .i64 c]] w fun e w' => e = .returned (.agg #[.int .u64 a, .int .u64 b, .int .u64 c]) ∧ Ext w w' := by
  obtain ⟨h1, h2, h3, h4, h5, h6⟩ := phB_bd h
  clear h
  go_enter Try.func70, Try.ntmps70
  go_wp2
  exact bodyPost_ret (v := .agg #[.int .u64 a, .int .u64 b, .int .u64 c]) (by simp [results, Try.results70, go_sem]) rfl ⟨rfl, ((Ext.refl w).alloc _).alloc _⟩

set_option maxHeartbeats 400000 in
theorem phWrite_bad (a b c : Int) (w : World) (h : phB a b c = false) :
    Calls Try.prog 24 #[.agg #[.int .i64 a, .int .i64 b, .int .i64 c]] w fun e w' => e = .returned (.tuple #[.slice none 0 0, .int .i64 8]) ∧ Ext w w' := by
  have he : phE a b c = 8 := by simp [phE, h]
  go_enter Try.func24, Try.ntmps24
  go_wp2_with (go_at_call 69; refine (phCheck_any _ _ _ _).mono ?_; rintro e w1 ⟨rfl, hx⟩)
  go_ret2
  exact ⟨rfl, ((Ext.refl w).alloc _).trans hx⟩
end Go.Proofs.Ytmkcpnklaijkfaa
/-
  The contract of what writes a phase's entries.
-/
namespace Go.Proofs.Ytmkcpnklaijkfaa
open Go.RowKit
theorem idx3 (x0 x1 x2 : Value) : (∀ w, (Instr.index 102 (.agg #[x0, x1, x2]) (.int .i64 0)).run Try.prog w = .ok x0 w) ∧ (∀ w, (Instr.index 102 (.agg #[x0, x1, x2]) (.int .i64 1)).run Try.prog w = .ok x1 w) ∧
    (∀ w, (Instr.index 102 (.agg #[x0, x1, x2]) (.int .i64 2)).run Try.prog w = .ok x2 w) :=
  ⟨fun _ => by kernel_rfl, fun _ => by kernel_rfl, fun _ => by kernel_rfl⟩
set_option maxHeartbeats 400000 in
theorem phWrite_ok (a b c : Int) (w : World) (h : phB a b c = true) :
    Calls Try.prog 24 #[.agg #[.int .i64 a, .int .i64 b, .int .i64 c]] w (RetOwn2 w 38 2 3 (fE (phL a b c)) 0) := by
  have he : phE a b c = 0 := by simp [phE, h]
  have H := Lib.hid h
  go_enter Try.func24, Try.ntmps24
  go_wp2_with (first | (go_at_call 69; refine (phCheck_any _ _ _ _).mono ?_; rintro e w1 ⟨rfl, hx⟩; obtain ⟨hc, hf⟩ := hx.bcell) | (go_at_call 70; refine (phWords_any _ _ _ _ H.out).mono ?_; rintro e w2 ⟨rfl, hx2⟩))
  have hX : Ext w w2 := (((Ext.refl w).alloc _).trans hx).trans hx2
  clear hc hf hx hx2
  go_loopw [5, 15] (fun v i wr => ∃ k : Nat, k ≤ 3 ∧ i = .int .i64 k ∧ wr.ownsRow w.heap.size 38 2 v k (fE ((phL a b c).take k)) ∧ Ext w wr) (fun _ i _ => 3 - (intOf i).toNat)
  case atStart => exact ⟨0, by omega, rfl, own_nil _ _ _ _, hX⟩
  case round =>
    obtain ⟨k, hk, rfl, hown, hXr⟩ := hrel
    obtain ⟨i0, i1, i2⟩ := idx3 (.int .u64 a) (.int .u64 b) (.int .u64 c)
    have hsz := hXr.size
    rcases (by omega : k = 0 ∨ k = 1 ∨ k = 2 ∨ k = 3) with rfl | rfl | rfl | rfl
    · go_wp2_with (at_builtin; refine wpList_app EE rfl (.tmp 19) (.tmp 24) rfl rfl (hown.alloc _) rfl (Sl.lit' _ _ _ _ rfl (by decide)) rfl (fE_one [(16, a)]) (by decide) (by simp; omega) ?_; intro v' w' hown' hbel hat hgr)
      go_roundw
      case rel => exact ⟨1, by omega, by go_num, hown', Below.trans (hXr.alloc _) hbel⟩
      case measure => simp [intOf]
    · go_wp2_with (at_builtin; refine wpList_app EE rfl (.tmp 19) (.tmp 24) rfl rfl (hown.alloc _) rfl (Sl.lit' _ _ _ _ rfl (by decide)) rfl (fE_one [(17, b)]) (by decide) (by simp; omega) ?_; intro v' w' hown' hbel hat hgr)
      go_roundw
      case rel => exact ⟨2, by omega, by go_num, hown', Below.trans (hXr.alloc _) hbel⟩
      case measure => simp [intOf]
    · go_wp2_with (at_builtin; refine wpList_app EE rfl (.tmp 19) (.tmp 24) rfl rfl (hown.alloc _) rfl (Sl.lit' _ _ _ _ rfl (by decide)) rfl (fE_one [(18, c)]) (by decide) (by simp; omega) ?_; intro v' w' hown' hbel hat hgr)
      go_roundw
      case rel => exact ⟨3, by omega, by go_num, hown', Below.trans (hXr.alloc _) hbel⟩
      case measure => simp [intOf]
    · go_wp2
      go_ret2
      exact retOwn2_mk hown hXr
/-- What 'Write' gives: the entries of a valid phase; else the error 8. -/
def PhW (w : World) (T : Nat) (a b c : Int) (en : Ending) (w' : World) : Prop :=
  (phB a b c = true ∧ RetOwn2 w T 2 3 (fE (phL a b c)) 0 en w') ∨ (phB a b c = false ∧ en = .returned (.tuple #[.slice none 0 0, .int .i64 8]) ∧ Ext w w')
theorem phWrite_any (a b c : Int) (w : World) :
    Calls Try.prog 24 #[.agg #[.int .i64 a, .int .i64 b, .int .i64 c]] w (PhW w 38 a b c) := by
  cases h : phB a b c with
  | true => exact (phWrite_ok a b c w h).mono fun _ _ x => .inl ⟨h, x⟩
  | false => exact (phWrite_bad a b c w h).mono fun _ _ x => .inr ⟨h, x⟩
end Go.Proofs.Ytmkcpnklaijkfaa
/-
  The contracts of setting a phase.
-/
namespace Go.Proofs.Ytmkcpnklaijkfaa
open Go.RowKit

theorem step_copyU {P : Program} {w : World} {t e : TypeId} {bytes : Nat} (E : ElT P t e 1 bytes) {ops : Array Oper} {o : Oper} {a : Act} {K : Act → World → Prop} {Q : Exit → Act → World → Prop} {F : Prop} (hgd : o.guard = none) (d s : Operand) (sT : TypeId)
    (ho : o.op = .call { callee := .builtin .copy, args := #[d, s], argTypes := #[t, sT] })
    {base g n cap : Nat} {xs : List Value} (hown : w.ownsRow base e 1 (.slice (some ⟨g, 0, none⟩) n cap) n xs)
    {dp : Option Addr} {dLen dCap : Nat} (hd : a.eval d = .slice dp dLen dCap) {A : Option Addr} {m c : Nat} {news : List Value} (hs : a.eval s = .slice A m c) (hr : Sl w A m c news)
    (off : Nat) (hl : news.length = m) (hm : m ≤ dLen) (hdp : 0 < dLen → dp = some ⟨g, off, none⟩) (hoff : off + dLen ≤ n) (h1 : ∀ u ∈ news, u.oneCell' = true) (hbg : base ≤ g)
    (h : ∀ w', w'.ownsRow base e 1 (.slice (some ⟨g, 0, none⟩) n cap) n (splice xs off news) → Below base w w' → K (a.put o.dst (goInt m)) w') :
    if Region.wanted o (yielded ops a.tmps) = true then Oper.wp P o a w K Q else F := by
  obtain ⟨i, z, hi, hz, hsize, hby, hzs⟩ := E.inf
  obtain ⟨hxl, ⟨hv, _⟩ | ⟨g', cap', cur, hv, hb, hg, hn, hmx, hcs, htake⟩⟩ := hown
  · cases hv
  · injection hv with e1 e2 e3
    injection e1 with e1
    injection e1 with e1
    subst e1 e3
    refine step_copy_splice hgd d s t sT ho e E.und (by simp [hi, hsize]) dp A dLen dCap m c hd hs g off cur.toList e (by simpa using hg) news (by rw [hl]; exact (Nat.min_eq_left hm).symm)
      (fun h0 => ⟨hdp (by omega), hr.cells (by intro h2; subst h2; simp at h0)⟩) (by rw [hl]; simp [hcs]; omega) h1 base w (Below.refl _ _) hbg ?_
    intro w' hw' hb'
    rw [hl]
    refine h w' ⟨?_, .inr ⟨g, cap, (splice cur.toList off news).toArray, rfl, hb, hw'.out, hn, hmx, ?_, ?_⟩⟩ hb'
    · rw [length_splice _ _ _ (by rw [hl, hxl]; omega)]; exact hxl
    · simp only [List.size_toArray]
      rw [length_splice _ _ _ (by rw [hl]; simp [hcs]; omega)]
      simpa using hcs
    · simp only
      rw [← htake]
      refine splice_take _ _ _ _ (by rw [hl]; omega) ?_
      simp [hcs]; omega
/-- An image with a phase in it. -/
def setP (m : List Int) (a b c : Int) : List Int := splice m 16 [a, b, c]
/-- The error of setting a phase. -/
def spE (n a b c : Int) : Int := if sizeB n then phE a b c else 8
theorem setP_len {m : List Int} {a b c : Int} (h : 19 ≤ m.length) : (setP m a b c).length = m.length := by
  simp [setP, splice]; omega
theorem setP_sets {m : List Int} {a b c : Int} (h : 19 ≤ m.length) : ((m.set 16 a).set 17 b).set 18 c = setP m a b c := by
  apply List.ext_getElem?
  intro i
  simp only [setP, splice, List.getElem?_set, List.getElem?_append, List.length_take, List.length_set, List.getElem?_take, List.getElem?_drop, List.length_cons, List.length_nil]
  rw [Nat.min_eq_left (by omega)]
  by_cases h18 : i = 18
  · subst h18; simp; omega
  · by_cases h17 : i = 17
    · subst h17; simp; omega
    · by_cases h16 : i = 16
      · subst h16; simp; omega
      · rw [if_neg (by omega), if_neg (by omega), if_neg (by omega)]
        by_cases hi : i < 16
        · simp [hi]
        · rw [if_neg (by omega), if_neg (by omega)]
          congr 1
          omega
set_option maxHeartbeats 1600000 in
set_option maxRecDepth 100000 in
theorem phSet_any (m : List Int) (A : Option Addr) (k : Nat) (a b c : Int) (w : World) (hA : Sl w A m.length k (fU m)) :
    Calls Try.prog 23 #[.slice A m.length k, .agg #[.int .i64 a, .int .i64 b, .int .i64 c]] w (RetS w 24 1 m.length (fU (setP m a b c)) (spE m.length a b c)) := by
  cases hs : sizeB (m.length : Int) with
  | false =>
    have hi : imgE (m.length : Int) = 8 := by simp [imgE, hs]
    have hr : spE m.length a b c = 8 := by simp [spE, hs]
    rw [hr]
    go_enter Try.func23, Try.ntmps23
    go_wp2_with fail
    refine (imageCheck_any _ _ _ _).mono ?_
    rintro e w' ⟨rfl, rfl⟩
    go_wp2_with fail
    go_ret2
    exact .inr ⟨by decide, rfl, (Ext.refl w).alloc _⟩
  | true =>
    have hi : imgE (m.length : Int) = 0 := by simp [imgE, hs]
    have hsz := sizeB_bd hs
    cases hp : phB a b c with
    | false =>
      have he : phE a b c = 8 := by simp [phE, hp]
      have hr : spE m.length a b c = 8 := by simp [spE, hs, he]
      rw [hr]
      go_enter Try.func23, Try.ntmps23
      go_wp2_with fail
      refine (imageCheck_any _ _ _ _).mono ?_
      rintro e w' ⟨rfl, rfl⟩
      go_wp2_with fail
      refine (phCheck_any _ _ _ _).mono ?_
      rintro e w1 ⟨rfl, hx⟩
      go_wp2_with fail
      go_ret2
      exact .inr ⟨by decide, rfl, ((Ext.refl w).alloc _).trans hx⟩
    | true =>
      have he : phE a b c = 0 := by simp [phE, hp]
      have hr : spE m.length a b c = 0 := by simp [spE, hs, he]
      rw [hr]
      clear hr hs
      have H := Lib.hid hp
      clear hp
      have hle := hA.le
      have hmax := hA.max
      unfold maxLen at hmax
      go_enter Try.func23, Try.ntmps23
      go_wp2_with fail
      refine (imageCheck_any _ _ _ _).mono ?_
      rintro e w' ⟨rfl, rfl⟩
      go_wp2_with fail
      refine (phCheck_any _ _ _ _).mono ?_
      rintro e w1 ⟨rfl, hx⟩
      obtain ⟨hc, hf⟩ := hx.bcell
      go_wp2_with fail
      refine (phWords_any _ _ _ _ H.out).mono ?_
      rintro e w2 ⟨rfl, hx2⟩
      have hX2 : Ext w w2 := (((Ext.refl w).alloc _).trans hx).trans hx2
      have hA2 := hA.ext hX2
      clear hc hf hx hx2 hA
      go_wp2_with fail
      refine (cloneU_any m A k _ (hA2.alloc _) (by omega)).mono ?_
      rintro e w3 ⟨A3, c3, rfl, hown, hA3, hx3⟩
      obtain ⟨g, rfl, hg⟩ := own_head hown (by omega)
      have hc1 := hA3.le
      have hc2 := hA3.max
      unfold maxLen at hc2
      have hW : Sl w3 (some ⟨w2.heap.size, 0, none⟩) 3 3 (fU [a, b, c]) := (Sl.lit' _ _ _ _ rfl (by decide)).ext hx3
      have hgr : w.heap.size ≤ w2.heap.size := hX2.size
      have hne : c3 ≠ 16 := by omega
      have hm16 : (16 : Int) ≤ m.length := by omega
      have hXX : Ext w w3 := (hX2.alloc _).trans hx3
      go_wp2_with fail
      go_region_law (refine step_copyU EU rfl (.tmp 25) (.tmp 26) _ rfl hown.drew rfl rfl hW.drew 16 rfl (by omega) (fun _ => by simp) (by omega) (fU_one _) hg ?_; intro w4 hown4 hbel4)
      all_goals
        go_wp2_with fail
        go_ret2
        rw [fU_splice] at hown4
        exact .inl ⟨rfl, retOwn2_mk (own_base hown4 (by simp; omega)) (Below.trans hXX.drew (hbel4.mono (by simp; omega)))⟩
end Go.Proofs.Ytmkcpnklaijkfaa
/-
  The phase line of an image, in plain terms.
-/
namespace Go.Proofs.Ytmkcpnklaijkfaa
open Go.RowKit

/-- Is the phase line of an image the line of a phase? -/
def okP (m : List Int) : Bool :=
  decide (m.getD 16 0 ≤ m.length) && decide (m.getD 17 0 ≤ m.length) && decide (m.getD 18 0 ≤ m.length) && decide (m.getD 19 0 = 0) && decide (m.getD 20 0 = 0) && decide (m.getD 21 0 = 0) && decide (m.getD 22 0 = 0) && decide (m.getD 23 0 = 0) && phB (m.getD 16 0) (m.getD 17 0) (m.getD 18 0)
/-- The error of reading a phase. -/
def prE (m : List Int) : Int := if sizeB m.length then (if okP m then 0 else 50) else 8
/-- The fields of the phase that is read. -/
def prA (m : List Int) (i : Nat) : Int := if prE m = 0 then m.getD i 0 else 0
/-- What 'Read' gives. -/
def RdP (w : World) (m : List Int) (en : Ending) (w' : World) : Prop :=
  en = .returned (.tuple #[.agg #[.int .i64 (prA m 16), .int .i64 (prA m 17), .int .i64 (prA m 18)], .int .i64 (prE m)]) ∧ Ext w w'
/-- Is the j-th word right? -/
def okw (m : List Int) (j : Nat) : Prop := m.getD j 0 ≤ 2048 ∧ (18 < j → m.getD j 0 = 0)
theorem line_at {W : World} {ad : Addr} {n c : Nat} {m : List Int} (h : Sl W (some ad) n c (fU m)) (j : Nat) (hj : 16 + j < m.length) : W.cell? ⟨ad.block, ad.off + 16 + j, none⟩ = some (.int .u64 (m.getD (16 + j) 0)) := by
  obtain ⟨a, x, ha, hx, g⟩ := h.u_at hj
  injection ha with ha
  subst ha
  rw [show m.getD (16 + j) 0 = x from by simp [List.getD, hx], ← g]
  simp [Addr.add, Nat.add_assoc]
theorem okP_iff {m : List Int} : okP m = true ↔ (m.getD 16 0 ≤ m.length ∧ m.getD 17 0 ≤ m.length ∧ m.getD 18 0 ≤ m.length) ∧ (m.getD 19 0 = 0 ∧ m.getD 20 0 = 0 ∧ m.getD 21 0 = 0 ∧ m.getD 22 0 = 0 ∧ m.getD 23 0 = 0) ∧ phB (m.getD 16 0) (m.getD 17 0) (m.getD 18 0) = true := by
  unfold okP
  simp only [Bool.and_eq_true, decide_eq_true_eq]
  constructor
  · rintro ⟨⟨⟨⟨⟨⟨⟨⟨a, b⟩, c⟩, d⟩, e⟩, f⟩, g⟩, h⟩, i⟩; exact ⟨⟨a, b, c⟩, ⟨d, e, f, g, h⟩, i⟩
  · rintro ⟨⟨a, b, c⟩, ⟨d, e, f, g, h⟩, i⟩; exact ⟨⟨⟨⟨⟨⟨⟨⟨a, b⟩, c⟩, d⟩, e⟩, f⟩, g⟩, h⟩, i⟩
theorem not_okP {m : List Int} (hs : sizeB (m.length : Int) = true) {k : Nat} (h16 : 16 ≤ k) (h24 : k < 24) (h : 2048 < m.getD k 0 ∨ (18 < k ∧ m.getD k 0 ≠ 0)) : okP m = false := by
  have hsz := sizeB_bd hs
  refine Bool.eq_false_iff.2 fun ho => ?_
  obtain ⟨⟨a, b, c⟩, ⟨d, e, f, g, i⟩, _⟩ := okP_iff.1 ho
  rcases (by omega : k = 16 ∨ k = 17 ∨ k = 18 ∨ k = 19 ∨ k = 20 ∨ k = 21 ∨ k = 22 ∨ k = 23) with rfl | rfl | rfl | rfl | rfl | rfl | rfl | rfl <;> omega
theorem okP_told {m : List Int} (hs : sizeB (m.length : Int) = true) (h : ∀ j, 16 ≤ j → j < 24 → okw m j) : okP m = (phB (m.getD 16 0) (m.getD 17 0) (m.getD 18 0) && decide (m.getD 17 0 ≤ m.length)) := by
  have hsz := sizeB_bd hs
  rw [Bool.eq_iff_iff, okP_iff, Bool.and_eq_true, decide_eq_true_eq]
  constructor
  · rintro ⟨⟨a, b, c⟩, _, i⟩; exact ⟨i, b⟩
  · rintro ⟨i, b⟩
    have hb := phB_bd i
    exact ⟨⟨by omega, b, by omega⟩, ⟨(h 19 (by omega) (by omega)).2 (by omega), (h 20 (by omega) (by omega)).2 (by omega), (h 21 (by omega) (by omega)).2 (by omega), (h 22 (by omega) (by omega)).2 (by omega), (h 23 (by omega) (by omega)).2 (by omega)⟩, i⟩
end Go.Proofs.Ytmkcpnklaijkfaa
/-
  The contract of reading a phase.
-/
namespace Go.Proofs.Ytmkcpnklaijkfaa
open Go.RowKit

set_option maxHeartbeats 6400000 in
set_option maxRecDepth 100000 in
theorem phRead_any (m : List Int) (A : Option Addr) (c : Nat) (w : World) (hA : Sl w A m.length c (fU m)) (wf : WfU m) :
    Calls Try.prog 36 #[.slice A m.length c] w (RdP w m) := by
  cases hs : sizeB (m.length : Int) with
  | false =>
    have hi : imgE (m.length : Int) = 8 := by simp [imgE, hs]
    have hr : prE m = 8 := by simp [prE, hs]
    go_enter Try.func36, Try.ntmps36
    go_wp2_with fail
    refine (imageCheck_any _ _ _ _).mono ?_
    rintro e w' ⟨rfl, rfl⟩
    go_wp2_with fail
    exact bodyPost_ret (v := .tuple #[.agg #[.int .i64 0, .int .i64 0, .int .i64 0], .int .i64 8]) (by simp [results, Try.results36, go_sem]) rfl ⟨by simp [prA, hr], (Ext.refl w).alloc _⟩
  | true =>
    have hi : imgE (m.length : Int) = 0 := by simp [imgE, hs]
    have hsz := sizeB_bd hs
    have hle := hA.le
    have hmax := hA.max
    unfold maxLen at hmax
    have hc16 : c ≠ 16 := by omega
    have h24 : (24 : Int) ≤ c := by omega
    obtain ⟨ad, _, rfl, _, _⟩ := hA.u_at (k := 16) (by omega)
    have hln := fun {W : World} (h : Sl W (some ad) m.length c (fU m)) j => line_at h j
    obtain ⟨hpr, hpA⟩ : prE m = (if okP m then 0 else 50) ∧ (∀ i, prA m i = if prE m = 0 then m.getD i 0 else 0) := ⟨by simp [prE, hs], fun i => rfl⟩
    have hok := okP_iff (m := m)
    obtain ⟨x0, hx0⟩ : ∃ x, m.getD 16 0 = x := ⟨_, rfl⟩
    have p0 : 0 ≤ x0 := by have := (wf_getD wf 16).1; omega
    obtain ⟨x1, hx1⟩ : ∃ x, m.getD 17 0 = x := ⟨_, rfl⟩
    have p1 : 0 ≤ x1 := by have := (wf_getD wf 17).1; omega
    obtain ⟨x2, hx2⟩ : ∃ x, m.getD 18 0 = x := ⟨_, rfl⟩
    have p2 : 0 ≤ x2 := by have := (wf_getD wf 18).1; omega
    obtain ⟨x3, hx3⟩ : ∃ x, m.getD 19 0 = x := ⟨_, rfl⟩
    have p3 : 0 ≤ x3 := by have := (wf_getD wf 19).1; omega
    obtain ⟨x4, hx4⟩ : ∃ x, m.getD 20 0 = x := ⟨_, rfl⟩
    have p4 : 0 ≤ x4 := by have := (wf_getD wf 20).1; omega
    obtain ⟨x5, hx5⟩ : ∃ x, m.getD 21 0 = x := ⟨_, rfl⟩
    have p5 : 0 ≤ x5 := by have := (wf_getD wf 21).1; omega
    obtain ⟨x6, hx6⟩ : ∃ x, m.getD 22 0 = x := ⟨_, rfl⟩
    have p6 : 0 ≤ x6 := by have := (wf_getD wf 22).1; omega
    obtain ⟨x7, hx7⟩ : ∃ x, m.getD 23 0 = x := ⟨_, rfl⟩
    have p7 : 0 ≤ x7 := by have := (wf_getD wf 23).1; omega
    rw [hx0, hx1, hx2, hx3, hx4, hx5, hx6, hx7] at hok
    have g0 := fun {W : World} (h : Sl W (some ad) m.length c (fU m)) => hln h 0 (by omega)
    rw [show 16 + 0 = 16 from rfl, hx0] at g0
    have g1 := fun {W : World} (h : Sl W (some ad) m.length c (fU m)) => hln h 1 (by omega)
    rw [show 16 + 1 = 17 from rfl, hx1] at g1
    have g2 := fun {W : World} (h : Sl W (some ad) m.length c (fU m)) => hln h 2 (by omega)
    rw [show 16 + 2 = 18 from rfl, hx2] at g2
    have g3 := fun {W : World} (h : Sl W (some ad) m.length c (fU m)) => hln h 3 (by omega)
    rw [show 16 + 3 = 19 from rfl, hx3] at g3
    have g4 := fun {W : World} (h : Sl W (some ad) m.length c (fU m)) => hln h 4 (by omega)
    rw [show 16 + 4 = 20 from rfl, hx4] at g4
    have g5 := fun {W : World} (h : Sl W (some ad) m.length c (fU m)) => hln h 5 (by omega)
    rw [show 16 + 5 = 21 from rfl, hx5] at g5
    have g6 := fun {W : World} (h : Sl W (some ad) m.length c (fU m)) => hln h 6 (by omega)
    rw [show 16 + 6 = 22 from rfl, hx6] at g6
    have g7 := fun {W : World} (h : Sl W (some ad) m.length c (fU m)) => hln h 7 (by omega)
    rw [show 16 + 7 = 23 from rfl, hx7] at g7
    have hbad : okP m = false → prE m = 50 ∧ prA m 16 = 0 ∧ prA m 17 = 0 ∧ prA m 18 = 0 := by
      intro h; have h5 : prE m = 50 := by rw [hpr, h]; rfl
      refine ⟨h5, ?_, ?_, ?_⟩ <;> rw [hpA, h5] <;> rfl
    have hgood : okP m = true → prE m = 0 ∧ prA m 16 = x0 ∧ prA m 17 = x1 ∧ prA m 18 = x2 := by
      intro h; have h5 : prE m = 0 := by rw [hpr, h]; rfl
      refine ⟨h5, ?_, ?_, ?_⟩ <;> rw [hpA, h5, if_pos rfl] <;> assumption
    have HB := Lib.hid (And.intro hok (And.intro hbad hgood))
    have HG := Lib.hid (And.intro @g0 (And.intro @g1 (And.intro @g2 (And.intro @g3 (And.intro @g4 (And.intro @g5 (And.intro @g6 @g7)))))))
    clear hok hbad hgood hln hpr hpA g0 g1 g2 g3 g4 g5 g6 g7 hx0 hx1 hx2 hx3 hx4 hx5 hx6 hx7
    have hw : IntKind.u64.wrap (m.length : Int) = m.length := u64_len (by omega)
    go_enter Try.func36, Try.ntmps36
    go_wp2_with fail
    refine (imageCheck_any _ _ _ _).mono ?_
    rintro e w' ⟨rfl, rfl⟩
    go_wp2_with fail
    go_loopw [7, 8, 20] (fun _ _ i wr => ∃ k : Nat, k ≤ 8 ∧ i = .int .i64 k ∧ ((0 < k → x0 ≤ m.length) ∧ (1 < k → x1 ≤ m.length) ∧ (2 < k → x2 ≤ m.length) ∧ (3 < k → x3 = 0) ∧ (4 < k → x4 = 0) ∧ (5 < k → x5 = 0) ∧ (6 < k → x6 = 0) ∧ (7 < k → x7 = 0)) ∧ wr = ((w.alloc (Obj.cells #[.int .i64 0, .int .i64 0, .int .i64 0] 23)).alloc (Obj.cells #[.int .i64 (if 0 < k then x0 else 0), .int .i64 (if 1 < k then x1 else 0), .int .i64 (if 2 < k then x2 else 0)] 117))) (fun _ _ i _ => 8 - (intOf i).toNat)
    case atStart => exact ⟨0, by omega, rfl, by omega, rfl⟩
    case round =>
      obtain ⟨k, hk, rfl, hinv, rfl⟩ := hrel
      rcases (by omega : k = 0 ∨ k = 1 ∨ k = 2 ∨ k = 3 ∨ k = 4 ∨ k = 5 ∨ k = 6 ∨ k = 7 ∨ k = 8) with rfl | rfl | rfl | rfl | rfl | rfl | rfl | rfl | rfl
      · have ga := HG.out.1 ((hA.alloc (Obj.cells #[.int .i64 0, .int .i64 0, .int .i64 0] 23)).alloc (Obj.cells #[.int .i64 (if 0 < 0 then x0 else 0), .int .i64 (if 1 < 0 then x1 else 0), .int .i64 (if 2 < 0 then x2 else 0)] 117))
        simp only [Nat.reduceLT, if_false, Nat.add_zero] at ga
        have HI := Lib.hid hinv
        clear hinv
        by_cases h1 : x0 ≤ (m.length : Int)
        · have wx : IntKind.i64.wrap x0 = x0 := i64_small (by omega) (by omega)
          go_wp2_with fail
          go_roundw
          case rel => have := HI.out; exact ⟨1, by omega, by go_num, by omega, by simp⟩
          case measure => simp [intOf]
        · have hno : okP m = false := by
            refine Bool.eq_false_iff.2 fun ho => ?_
            obtain ⟨⟨a0, a1, a2⟩, ⟨a3, a4, a5, a6, a7⟩, _⟩ := HB.out.1.1 ho
            omega
          obtain ⟨e0, e1, e2, e3⟩ := HB.out.2.1 hno
          go_wp2_with fail
          exact bodyPost_ret (v := .tuple #[.agg #[.int .i64 0, .int .i64 0, .int .i64 0], .int .i64 50]) (by simp [results, Try.results36, go_sem]) rfl ⟨by rw [e0, e1, e2, e3], ((Ext.refl w).alloc _).alloc _⟩
      · have ga := HG.out.2.1 ((hA.alloc (Obj.cells #[.int .i64 0, .int .i64 0, .int .i64 0] 23)).alloc (Obj.cells #[.int .i64 (if 0 < 1 then x0 else 0), .int .i64 (if 1 < 1 then x1 else 0), .int .i64 (if 2 < 1 then x2 else 0)] 117))
        simp only [Nat.reduceLT, if_true, if_false, Nat.add_assoc, Nat.reduceAdd] at ga
        have HI := Lib.hid hinv
        clear hinv
        by_cases h1 : x1 ≤ (m.length : Int)
        · have wx : IntKind.i64.wrap x1 = x1 := i64_small (by omega) (by omega)
          go_wp2_with fail
          go_roundw
          case rel => have := HI.out; exact ⟨2, by omega, by go_num, by omega, by simp⟩
          case measure => simp [intOf]
        · have hno : okP m = false := by
            refine Bool.eq_false_iff.2 fun ho => ?_
            obtain ⟨⟨a0, a1, a2⟩, ⟨a3, a4, a5, a6, a7⟩, _⟩ := HB.out.1.1 ho
            omega
          obtain ⟨e0, e1, e2, e3⟩ := HB.out.2.1 hno
          go_wp2_with fail
          exact bodyPost_ret (v := .tuple #[.agg #[.int .i64 0, .int .i64 0, .int .i64 0], .int .i64 50]) (by simp [results, Try.results36, go_sem]) rfl ⟨by rw [e0, e1, e2, e3], ((Ext.refl w).alloc _).alloc _⟩
      · have ga := HG.out.2.2.1 ((hA.alloc (Obj.cells #[.int .i64 0, .int .i64 0, .int .i64 0] 23)).alloc (Obj.cells #[.int .i64 (if 0 < 2 then x0 else 0), .int .i64 (if 1 < 2 then x1 else 0), .int .i64 (if 2 < 2 then x2 else 0)] 117))
        simp only [Nat.reduceLT, if_true, if_false, Nat.add_assoc, Nat.reduceAdd] at ga
        have HI := Lib.hid hinv
        clear hinv
        by_cases h1 : x2 ≤ (m.length : Int)
        · have wx : IntKind.i64.wrap x2 = x2 := i64_small (by omega) (by omega)
          go_wp2_with fail
          go_roundw
          case rel => have := HI.out; exact ⟨3, by omega, by go_num, by omega, by simp⟩
          case measure => simp [intOf]
        · have hno : okP m = false := by
            refine Bool.eq_false_iff.2 fun ho => ?_
            obtain ⟨⟨a0, a1, a2⟩, ⟨a3, a4, a5, a6, a7⟩, _⟩ := HB.out.1.1 ho
            omega
          obtain ⟨e0, e1, e2, e3⟩ := HB.out.2.1 hno
          go_wp2_with fail
          exact bodyPost_ret (v := .tuple #[.agg #[.int .i64 0, .int .i64 0, .int .i64 0], .int .i64 50]) (by simp [results, Try.results36, go_sem]) rfl ⟨by rw [e0, e1, e2, e3], ((Ext.refl w).alloc _).alloc _⟩
      · have ga := HG.out.2.2.2.1 ((hA.alloc (Obj.cells #[.int .i64 0, .int .i64 0, .int .i64 0] 23)).alloc (Obj.cells #[.int .i64 (if 0 < 3 then x0 else 0), .int .i64 (if 1 < 3 then x1 else 0), .int .i64 (if 2 < 3 then x2 else 0)] 117))
        simp only [Nat.reduceLT, if_true, Nat.add_assoc, Nat.reduceAdd] at ga
        have HI := Lib.hid hinv
        clear hinv
        by_cases h1 : x3 = 0
        · go_wp2_with fail
          go_roundw
          case rel => have := HI.out; exact ⟨4, by omega, by go_num, by omega, by simp⟩
          case measure => simp [intOf]
        · have hno : okP m = false := by
            refine Bool.eq_false_iff.2 fun ho => ?_
            obtain ⟨⟨a0, a1, a2⟩, ⟨a3, a4, a5, a6, a7⟩, _⟩ := HB.out.1.1 ho
            omega
          obtain ⟨e0, e1, e2, e3⟩ := HB.out.2.1 hno
          go_wp2_with fail
          exact bodyPost_ret (v := .tuple #[.agg #[.int .i64 0, .int .i64 0, .int .i64 0], .int .i64 50]) (by simp [results, Try.results36, go_sem]) rfl ⟨by rw [e0, e1, e2, e3], ((Ext.refl w).alloc _).alloc _⟩
      · have ga := HG.out.2.2.2.2.1 ((hA.alloc (Obj.cells #[.int .i64 0, .int .i64 0, .int .i64 0] 23)).alloc (Obj.cells #[.int .i64 (if 0 < 4 then x0 else 0), .int .i64 (if 1 < 4 then x1 else 0), .int .i64 (if 2 < 4 then x2 else 0)] 117))
        simp only [Nat.reduceLT, if_true, Nat.add_assoc, Nat.reduceAdd] at ga
        have HI := Lib.hid hinv
        clear hinv
        by_cases h1 : x4 = 0
        · go_wp2_with fail
          go_roundw
          case rel => have := HI.out; exact ⟨5, by omega, by go_num, by omega, by simp⟩
          case measure => simp [intOf]
        · have hno : okP m = false := by
            refine Bool.eq_false_iff.2 fun ho => ?_
            obtain ⟨⟨a0, a1, a2⟩, ⟨a3, a4, a5, a6, a7⟩, _⟩ := HB.out.1.1 ho
            omega
          obtain ⟨e0, e1, e2, e3⟩ := HB.out.2.1 hno
          go_wp2_with fail
          exact bodyPost_ret (v := .tuple #[.agg #[.int .i64 0, .int .i64 0, .int .i64 0], .int .i64 50]) (by simp [results, Try.results36, go_sem]) rfl ⟨by rw [e0, e1, e2, e3], ((Ext.refl w).alloc _).alloc _⟩
      · have ga := HG.out.2.2.2.2.2.1 ((hA.alloc (Obj.cells #[.int .i64 0, .int .i64 0, .int .i64 0] 23)).alloc (Obj.cells #[.int .i64 (if 0 < 5 then x0 else 0), .int .i64 (if 1 < 5 then x1 else 0), .int .i64 (if 2 < 5 then x2 else 0)] 117))
        simp only [Nat.reduceLT, if_true, Nat.add_assoc, Nat.reduceAdd] at ga
        have HI := Lib.hid hinv
        clear hinv
        by_cases h1 : x5 = 0
        · go_wp2_with fail
          go_roundw
          case rel => have := HI.out; exact ⟨6, by omega, by go_num, by omega, by simp⟩
          case measure => simp [intOf]
        · have hno : okP m = false := by
            refine Bool.eq_false_iff.2 fun ho => ?_
            obtain ⟨⟨a0, a1, a2⟩, ⟨a3, a4, a5, a6, a7⟩, _⟩ := HB.out.1.1 ho
            omega
          obtain ⟨e0, e1, e2, e3⟩ := HB.out.2.1 hno
          go_wp2_with fail
          exact bodyPost_ret (v := .tuple #[.agg #[.int .i64 0, .int .i64 0, .int .i64 0], .int .i64 50]) (by simp [results, Try.results36, go_sem]) rfl ⟨by rw [e0, e1, e2, e3], ((Ext.refl w).alloc _).alloc _⟩
      · have ga := HG.out.2.2.2.2.2.2.1 ((hA.alloc (Obj.cells #[.int .i64 0, .int .i64 0, .int .i64 0] 23)).alloc (Obj.cells #[.int .i64 (if 0 < 6 then x0 else 0), .int .i64 (if 1 < 6 then x1 else 0), .int .i64 (if 2 < 6 then x2 else 0)] 117))
        simp only [Nat.reduceLT, if_true, Nat.add_assoc, Nat.reduceAdd] at ga
        have HI := Lib.hid hinv
        clear hinv
        by_cases h1 : x6 = 0
        · go_wp2_with fail
          go_roundw
          case rel => have := HI.out; exact ⟨7, by omega, by go_num, by omega, by simp⟩
          case measure => simp [intOf]
        · have hno : okP m = false := by
            refine Bool.eq_false_iff.2 fun ho => ?_
            obtain ⟨⟨a0, a1, a2⟩, ⟨a3, a4, a5, a6, a7⟩, _⟩ := HB.out.1.1 ho
            omega
          obtain ⟨e0, e1, e2, e3⟩ := HB.out.2.1 hno
          go_wp2_with fail
          exact bodyPost_ret (v := .tuple #[.agg #[.int .i64 0, .int .i64 0, .int .i64 0], .int .i64 50]) (by simp [results, Try.results36, go_sem]) rfl ⟨by rw [e0, e1, e2, e3], ((Ext.refl w).alloc _).alloc _⟩
      · have ga := HG.out.2.2.2.2.2.2.2 ((hA.alloc (Obj.cells #[.int .i64 0, .int .i64 0, .int .i64 0] 23)).alloc (Obj.cells #[.int .i64 (if 0 < 7 then x0 else 0), .int .i64 (if 1 < 7 then x1 else 0), .int .i64 (if 2 < 7 then x2 else 0)] 117))
        simp only [Nat.reduceLT, if_true, Nat.add_assoc, Nat.reduceAdd] at ga
        have HI := Lib.hid hinv
        clear hinv
        by_cases h1 : x7 = 0
        · go_wp2_with fail
          go_roundw
          case rel => have := HI.out; exact ⟨8, by omega, by go_num, by omega, by simp⟩
          case measure => simp [intOf]
        · have hno : okP m = false := by
            refine Bool.eq_false_iff.2 fun ho => ?_
            obtain ⟨⟨a0, a1, a2⟩, ⟨a3, a4, a5, a6, a7⟩, _⟩ := HB.out.1.1 ho
            omega
          obtain ⟨e0, e1, e2, e3⟩ := HB.out.2.1 hno
          go_wp2_with fail
          exact bodyPost_ret (v := .tuple #[.agg #[.int .i64 0, .int .i64 0, .int .i64 0], .int .i64 50]) (by simp [results, Try.results36, go_sem]) rfl ⟨by rw [e0, e1, e2, e3], ((Ext.refl w).alloc _).alloc _⟩
      · have HI := Lib.hid hinv
        clear hinv
        go_wp2_with fail
        refine (phCheck_any x0 x1 x2 _).mono ?_
        rintro e w1 ⟨rfl, hx⟩
        obtain ⟨hc, hf⟩ := hx.bcell
        have hXw : Ext w w1 := Ext.trans (by (repeat (first | assumption | exact Ext.refl _ | refine Ext.drewN ?_ _ | refine Ext.drew ?_ | refine Ext.alloc ?_ _ | refine Ext.trans ?_ (by assumption)))) hx
        have k0 : w1.cell? ⟨w.heap.size, 0, none⟩ = some (.int .i64 0) := by rw [hc _ _ (by simp; omega)]; simp [go_sem]
        have k1 : w1.cell? ⟨w.heap.size, 1, none⟩ = some (.int .i64 0) := by rw [hc _ _ (by simp; omega)]; simp [go_sem]
        have k2 : w1.cell? ⟨w.heap.size, 2, none⟩ = some (.int .i64 0) := by rw [hc _ _ (by simp; omega)]; simp [go_sem]
        cases hp : phB x0 x1 x2 with
        | true =>
          have he : phE x0 x1 x2 = 0 := by simp [phE, hp]
          have hyes : okP m = true := HB.out.1.2 ⟨by have := HI.out; omega, by have := HI.out; omega, hp⟩
          obtain ⟨e0, e1, e2, e3⟩ := HB.out.2.2 hyes
          clear hp hyes
          go_wp2_with fail
          exact bodyPost_ret (v := .tuple #[.agg #[.int .i64 x0, .int .i64 x1, .int .i64 x2], .int .i64 0]) (by simp [results, Try.results36, go_sem, k0, k1, k2]) rfl ⟨by rw [e0, e1, e2, e3], ((hXw.setCell (p := ⟨w.heap.size, 0, none⟩) (Nat.le_refl _) _).setCell (p := ⟨w.heap.size, 1, none⟩) (Nat.le_refl _) _).setCell (p := ⟨w.heap.size, 2, none⟩) (Nat.le_refl _) _⟩
        | false =>
          have he : phE x0 x1 x2 = 8 := by simp [phE, hp]
          have hno : okP m = false := by
            refine Bool.eq_false_iff.2 fun ho => ?_
            have := (HB.out.1.1 ho).2.2
            rw [hp] at this
            cases this
          obtain ⟨e0, e1, e2, e3⟩ := HB.out.2.1 hno
          clear hp hno
          go_wp2_with fail
          exact bodyPost_ret (v := .tuple #[.agg #[.int .i64 0, .int .i64 0, .int .i64 0], .int .i64 50]) (by simp [results, Try.results36, go_sem, k0, k1, k2]) rfl ⟨by rw [e0, e1, e2, e3], ((hXw.setCell (p := ⟨w.heap.size, 0, none⟩) (Nat.le_refl _) _).setCell (p := ⟨w.heap.size, 1, none⟩) (Nat.le_refl _) _).setCell (p := ⟨w.heap.size, 2, none⟩) (Nat.le_refl _) _⟩
end Go.Proofs.Ytmkcpnklaijkfaa
