/-
  The law's own helpers of chapter 12.
-/
import Derived.Test.YtmkcpnklaijkfaaAtO
import Derived.Test.YtmkcpnklaijkfaaAlive10
import Derived.BigQuiet
namespace Go.Proofs.Ytmkcpnklaijkfaa
open Go.RowKit
/-- What outside tells of two images with the commit word 0. -/
def outB (a b : List Int) : Bool := decide (a.take 24 = b.take 24) && decide (a.drop 96 = b.drop 96)
theorem outB_iff {a b : List Int} (hl : a.length = b.length) (ha : a[24]? = some 0) (hb : b[24]? = some 0) : outB a b = true ↔ Out a b := by
  unfold outB
  rw [Bool.and_eq_true, decide_eq_true_eq, decide_eq_true_eq]
  constructor
  · rintro ⟨h1, h2⟩
    refine ⟨hl, ha, hb, fun j hj => ?_⟩
    rcases hj with hj | hj
    · have := congrArg (fun x => x[j]?) h1
      simpa [List.getElem?_take, hj] using this
    · have := congrArg (fun x => x[j - 96]?) h2
      simp only [List.getElem?_drop] at this
      rwa [show 96 + (j - 96) = j from by omega] at this
  · intro h
    constructor
    · refine List.ext_getElem? fun j => ?_
      rw [List.getElem?_take, List.getElem?_take]
      split
      · exact h.2.2.2 j (by omega)
      · rfl
    · refine List.ext_getElem? fun j => ?_
      rw [List.getElem?_drop, List.getElem?_drop]
      exact h.2.2.2 _ (by omega)
theorem Out.b {a b : List Int} (h : Out a b) : outB a b = true := (outB_iff h.1 h.2.1 h.2.2.1).2 h
set_option maxRecDepth 100000 in
set_option maxHeartbeats 800000 in
theorem outside_any {a b : List Int} {n : Nat} (hn : a.length = n) (hl : b.length = n) (h128 : 128 ≤ n) (ha : a[24]? = some 0) (hb : b[24]? = some 0) (A : Option Addr) (c : Nat) (B : Option Addr) (d : Nat) (w : World) (hA : Sl w A n c (fU a)) (hB : Sl w B n d (fU b)) :
    Calls Try.prog 63 #[.slice A n c, .slice B n d] w fun e w' => e = .returned (.bool (outB a b)) ∧ Ext w w' := by
  have hcl := hA.le
  have hdl := hB.le
  have hcm := hA.max
  have hdm := hB.max
  unfold maxLen at hcm hdm
  obtain ⟨ad, x, rfl, hat, g0⟩ := hA.u_at (k := 24) (by omega)
  rw [ha] at hat
  injection hat with hat
  subst hat
  obtain ⟨bd, x, rfl, hat, g1⟩ := hB.u_at (k := 24) (by omega)
  rw [hb] at hat
  injection hat with hat
  subst hat
  rw [add_lit_ ad 23] at g0
  rw [add_lit_ bd 23] at g1
  obtain ⟨r1, hr1, hS1⟩ : ∃ r, decide (a.take 24 = b.take 24) = r ∧ ∀ k, Calls Try.prog 38 #[.slice (some ad) 24 c, .slice (some bd) 24 d] (w.drewN k) fun e w' => e = .returned (.bool r) ∧ Drew (w.drewN k) w' := by
    refine ⟨_, rfl, fun k => ?_⟩
    have e1 : (a.take 24).length = 24 := by rw [List.length_take]; omega
    have e2 : (b.take 24).length = 24 := by rw [List.length_take]; omega
    have h1 := (show Sl w (some ad) a.length c (fU a) by rw [hn]; exact hA).u_take (k := 24) (by omega)
    have h2 := (show Sl w (some bd) b.length d (fU b) by rw [hl]; exact hB).u_take (k := 24) (by omega)
    have := same2_any (a.take 24) (b.take 24) (some ad) (some bd) c d (w.drewN k) (h1.drewN k) (h2.drewN k)
    rw [e1, e2] at this
    exact this
  obtain ⟨DA, hDA⟩ : ∃ D, (if c = 96 then some ad else (some ad).map (·.add (96 * 1))) = D := ⟨_, rfl⟩
  obtain ⟨DB, hDB⟩ : ∃ D, (if d = 96 then some bd else (some bd).map (·.add (96 * 1))) = D := ⟨_, rfl⟩
  obtain ⟨r2, hr2, hS2⟩ : ∃ r, decide (a.drop 96 = b.drop 96) = r ∧ ∀ k, Calls Try.prog 38 #[.slice (some (ad.add 96)) (n - 96) (c - 96), .slice (some (bd.add 96)) (n - 96) (d - 96)] (w.drewN k) fun e w' => e = .returned (.bool r) ∧ Drew (w.drewN k) w' := by
    refine ⟨_, rfl, fun k => ?_⟩
    have e1 : (a.drop 96).length = n - 96 := by rw [List.length_drop]; omega
    have e2 : (b.drop 96).length = n - 96 := by rw [List.length_drop]; omega
    have h1 := (show Sl w (some ad) a.length c (fU a) by rw [hn]; exact hA).u_drop (k := 96) (by omega)
    have h2 := (show Sl w (some bd) b.length d (fU b) by rw [hl]; exact hB).u_drop (k := 96) (by omega)
    rw [if_neg (by omega)] at h1 h2
    have := same2_any (a.drop 96) (b.drop 96) _ _ (c - 96) (d - 96) (w.drewN k) (h1.drewN k) (h2.drewN k)
    rw [e1, e2] at this
    exact this
  obtain ⟨K, hK⟩ : ∃ K, n - 96 = K := ⟨_, rfl⟩
  obtain ⟨KC, hKC⟩ : ∃ K, c - 96 = K := ⟨_, rfl⟩
  obtain ⟨KD, hKD⟩ : ∃ K, d - 96 = K := ⟨_, rfl⟩
  rw [hK, hKC, hKD] at hS2
  have HS := Lib.hid (And.intro hS1 hS2)
  have hv : outB a b = (r1 && r2) := by unfold outB; rw [hr1, hr2]
  rw [hv]
  have hlt : decide ((n : Int) < 128) = false := decide_eq_false (by omega)
  have hc96 : ¬ c = 96 := by omega
  have hd96 : ¬ d = 96 := by omega
  have hc24 : ¬ c = 24 := by omega
  have hd24 : ¬ d = 24 := by omega
  clear hS1 hS2 hr1 hr2 hv hDA hDB hA hB ha hb hn hl
  go_enter Try.func63, Try.ntmps63
  cases r1
  all_goals
    go_wp2_with fail
    go_quiet (first
      | ((go_at_call 38; (with_reducible exact quiet_D (HS.out.1 _))))
      | ((go_at_call 38; exact quiet_D (HS.out.2 _))))
    go_wp2_with fail
    go_ret
    exact ⟨rfl, (Ext.refl w).drewN _⟩
set_option maxRecDepth 100000 in
set_option maxHeartbeats 800000 in
theorem clean_any (m : List Int) (A : Option Addr) (c : Nat) (w : World) (hA : Sl w A m.length c (fU m)) (h : sizeB m.length = true) :
    Calls Try.prog 62 #[.slice A m.length c] w (RetOwn w 24 1 m.length (fU (m.set 24 0))) := by
  have hsz := sizeB_bd h
  have h1 := fun W (ha : Sl W A m.length c (fU m)) => twin2_any m A c W ha (by omega)
  have HH := Lib.hid h1
  clear h1 h
  go_enter Try.func62, Try.ntmps62
  go_wp2_with fail
  refine (HH.out w hA).mono ?_
  rintro e w1 ⟨A1, c1, rfl, own, _, hx1⟩
  obtain ⟨g, rfl, hg⟩ := own_head own (by omega)
  obtain ⟨y, -, c0, cf⟩ := own_at_U own (i := 24) (by omega)
  have hgl := block_lt_of_cell c0
  have HO := Lib.hid (And.intro own (And.intro hx1 hg))
  clear own hx1 hg
  go_wp2_with fail
  go_ret
  exact retOwn_mk (own_set_U HO.out.1 24 0) (HO.out.2.1.setCell (p := ⟨g, 24, none⟩) HO.out.2.2 _)
end Go.Proofs.Ytmkcpnklaijkfaa
