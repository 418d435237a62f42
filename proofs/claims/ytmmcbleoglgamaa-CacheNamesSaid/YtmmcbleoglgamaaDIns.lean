/-
  The library's slices.Insert, at a row of dirty words of the call's own.
-/
import Derived.Test.YtmmcbleoglgamaaCopyS
namespace Go.Proofs.Ytmmcbleoglgamaa
open Go.RowKit
/-- The call returned a row that may be written; of what was there only the row of v0 has changed. -/
def RetRow (base : Nat) (v0 : Value) (w0 : World) (e : TypeId) (size n : Nat) (xs : List Value) (en : Ending) (w' : World) : Prop :=
  ∃ A c, en = .returned (.slice A n c) ∧ w'.ownsRow base e size (.slice A n c) n xs ∧ w0.grownBy w' v0.ownBlock
theorem retRow_mk {base : Nat} {v0 : Value} {w0 w' : World} {e : TypeId} {size n : Nat} {xs : List Value} {v : Value} (h : w'.ownsRow base e size v n xs) (hx : w0.grownBy w' v0.ownBlock) : RetRow base v0 w0 e size n xs (.returned v) w' := by
  obtain ⟨A, c, rfl, _⟩ := Sl.of_own h
  exact ⟨A, c, rfl, h, hx⟩
theorem fD_cons (x : Dw) (l : List Dw) : fD (x :: l) = fD [x] ++ fD l := rfl
theorem sz_of {P : Program} {t e : TypeId} {size bytes : Nat} (E : ElT P t e size bytes) : (P.info? e).map (·.size) = some size ∧ ∀ w, (Go.sizeOf e).run P w = .ok size w := by
  obtain ⟨i, z, hi, _, hs, _⟩ := E.inf
  exact ⟨by rw [hi]; simp [hs], fun w => by simp [sizeOf, typeInfo, hi, hs]⟩
set_option maxRecDepth 100000 in
set_option maxHeartbeats 1600000 in
theorem ins_end (q : List Dw) (x : Dw) (A : Option Addr) (c base vb : Nat) (w : World) (hown : w.ownsRow base 44 3 (.slice A q.length c) q.length (fD q)) (hx : Sl w (some ⟨vb, 0, none⟩) 1 1 (fD [x])) (hb : base ≤ w.heap.size) (hl : q.length ≤ 100000) :
    Calls Try.prog 58 #[.slice A q.length c, .int .i64 q.length, .slice (some ⟨vb, 0, none⟩) 1 1] w (RetRow base (.slice A q.length c) w 44 3 (q.length + 1) (fD (q ++ [x]))) := by
  have hmax := (own_sl4 hown).max
  have hle := (own_sl4 hown).le
  unfold maxLen at hmax
  have HO := Lib.hid hown
  rcases hown.2 with ⟨hv, h0⟩ | ⟨g, cap, cur, hv, -, -, -⟩
  · injection hv with h1 h2 h3
    obtain rfl := h1
    obtain rfl := List.eq_nil_of_length_eq_zero h0
    obtain rfl := h3
    clear hown h2 h0
    go_enter Try.func58, Try.ntmps58
    go_wp2_with (at_builtin; refine wpList_app ED rfl (.tmp 23) (.tmp 24) rfl rfl HO.out rfl hx rfl (fD_one [x]) (by decide) hb ?_; intro v' w' hown' hbel hat hgr)
    go_ret
    exact retRow_mk hown' hgr
  · injection hv with h1 h2 h3
    obtain rfl := h1
    obtain rfl := h3
    clear hown
    go_enter Try.func58, Try.ntmps58
    go_wp2_with (at_builtin; refine wpList_app ED rfl (.tmp 23) (.tmp 24) rfl rfl HO.out rfl hx rfl (fD_one [x]) (by omega) hb ?_; intro v' w' hown' hbel hat hgr)
    all_goals
      go_ret
      exact retRow_mk (by rw [fD_append]; exact hown') hgr
set_option maxRecDepth 100000 in
set_option maxHeartbeats 3200000 in
theorem ins_room (q : List Dw) (i : Nat) (hi : i < q.length) (x : Dw) (g c base vb : Nat) (T0 : TypeId) (w : World) (hown : w.ownsRow base 44 3 (.slice (some ⟨g, 0, none⟩) q.length c) q.length (fD q)) (hv : w.heap[vb]? = some (.cells (fD [x]).toArray T0 (0, 0))) (hne : vb ≠ g) (hroom : q.length + 1 ≤ c) (hl : q.length ≤ 100000) :
    Calls Try.prog 58 #[.slice (some ⟨g, 0, none⟩) q.length c, .int .i64 i, .slice (some ⟨vb, 0, none⟩) 1 1] w (RetRow base (.slice (some ⟨g, 0, none⟩) q.length c) w 44 3 (q.length + 1) (fD (q.take i ++ x :: q.drop i))) := by
  obtain ⟨hxl, ⟨hz, -⟩ | ⟨g', cap, cur, hz, hbg, hg, hnc, hmax, hsz, htk⟩⟩ := hown
  · cases hz
  injection hz with h1 _ h3
  injection h1 with h1
  injection h1 with h1
  subst h1 h3
  obtain ⟨hs3, hsO⟩ := sz_of ED
  have hov : ∀ lb cb, (callFunc 71 #[.slice (some ⟨vb, 0, none⟩) 1 1, .slice (some ⟨g, (i + 1) * 3, none⟩) lb cb]).run Try.prog w = .ok (.value (.bool false)) w := fun lb cb => by
    rw [run_callFunc_extern Try.func71 (by kernel_rfl) (by kernel_rfl) (by kernel_rfl) (e := Extern.SlicesOverlaps.overlaps #[23, 23] #[4]) (by kernel_rfl),
      Lib.run_overlaps_apart w 23 4 44 Try.underlying23 3 hsO ⟨vb, 0, none⟩ ⟨g, (i + 1) * 3, none⟩ 1 1 lb cb hne T0 44 3 cur.size (by simp [World.shape?, hv, fD]) (by simp [World.shape?, hg]) (by omega) (by simp [World.frozen?, hv]) (by simp [World.frozen?, hv])]
    rfl
  have hq3 := fD_length q
  have hxs : ∀ j u, (fD [x])[j]? = some u → w.cell? ⟨vb, j, none⟩ = some u := fun j u hj => by
    rw [cell_of_row w vb j _ T0 (0, 0) hv]
    simpa using hj
  have hqs : ∀ j u, (fD q)[j]? = some u → w.cell? ⟨g, j, none⟩ = some u := fun j u hj => by
    rw [cell_of_row w g j _ _ (0, 0) hg]
    rw [← htk, List.getElem?_take] at hj
    split at hj
    · simpa using hj
    · cases hj
  have hdl : (fD (q.drop i)).length = (q.length - i) * 3 := by rw [fD_length, List.length_drop]
  have hR : cur.toList = fD (q.take i) ++ (fD (q.drop i) ++ cur.toList.drop (q.length * 3)) := by
    rw [← List.append_assoc, ← fD_append, List.take_append_drop, ← htk, List.take_append_drop]
  obtain ⟨R1, hR1⟩ : ∃ R : Array Value, R = (cur.toList.take ((i + 1) * 3) ++ fD (q.drop i) ++ cur.toList.drop ((i + 1) * 3 + (fD (q.drop i)).length)).toArray := ⟨_, rfl⟩
  have hR1s : R1.size = cur.size := by rw [hR1]; simp [hdl]; omega
  obtain ⟨R2, hR2⟩ : ∃ R : Array Value, R = (R1.toList.take (i * 3) ++ fD [x] ++ R1.toList.drop (i * 3 + (fD [x]).length)).toArray := ⟨_, rfl⟩
  have hR2s : R2.size = cur.size := by rw [hR2]; simp [fD, hR1s]; omega
  have hfin : R2.toList.take ((q.length + 1) * 3) = fD (q.take i ++ x :: q.drop i) := by
    have := row_shift (P := fD (q.take i)) (S := fD (q.drop i)) (T := cur.toList.drop (q.length * 3)) (X := fD [x]) (a := i * 3) (b := (q.length - i) * 3) (s := 3) hR (by rw [fD_length, List.length_take]; omega) hdl rfl (by simp; omega)
    rw [fD_append, fD_cons x, ← this, hR2, hR1]
    simp only [hdl, show (fD [x]).length = 3 from rfl, show i * 3 + 3 = (i + 1) * 3 from by omega, show (q.length + 1) * 3 = (i + 1) * 3 + (q.length - i) * 3 from by omega]
  have hcp1 : ∀ ty dl dc sl sc, Nat.min sl dl = q.length - i → (Builtin.copy_ #[23, 23] ty #[.slice (some ⟨g, (i + 1) * 3, none⟩) dl dc, .slice (some ⟨g, i * 3, none⟩) sl sc]).run Try.prog w.drew = .ok (goInt ((q.length - i : Nat) : Int)) (w.drew.setRow g R1) := fun ty dl dc sl sc hk => by
    rw [hR1]
    exact run_copy_rowS w.drew _ _ ty _ 3 g ((i + 1) * 3) dl dc ⟨g, i * 3, none⟩ sl sc cur _ (fD (q.drop i)) Try.underlying23 hs3 hg _ hk hdl
      (fun j u hj => by rw [Addr.add_lit]; exact hqs _ u (by rwa [fD_drop, List.getElem?_drop] at hj)) (by rw [hdl]; omega) (fD_one _)
  have hg1 : (w.drew.setRow g R1).heap[g]? = some (.cells R1 44 (0, 0)) := setRow_heap w.drew g cur R1 _ _ hg
  have hcp2 : ∀ ty dl dc, Nat.min 1 dl = 1 → (Builtin.copy_ #[23, 23] ty #[.slice (some ⟨g, i * 3, none⟩) dl dc, .slice (some ⟨vb, 0, none⟩) 1 1]).run Try.prog (w.drew.setRow g R1) = .ok (goInt ((1 : Nat) : Int)) ((w.drew.setRow g R1).setRow g R2) := fun ty dl dc hk => by
    rw [hR2]
    exact run_copy_rowS (w.drew.setRow g R1) _ _ ty _ 3 g (i * 3) dl dc ⟨vb, 0, none⟩ 1 1 R1 _ (fD [x]) Try.underlying23 hs3 hg1 1 hk rfl
      (fun j u hj => by
        rw [Addr.add_lit, Nat.zero_add]
        have h1 := hxs j u hj
        have : (w.drew.setRow g R1).heap[vb]? = w.heap[vb]? := setRow_other w.drew g vb R1 (by omega)
        simpa [World.cell?, this] using h1) (by rw [hR1s]; simp [fD]; omega) (fD_one _)
  have HF := Lib.hid (And.intro hfin (And.intro hR2s hR1s))
  have hw1 : IntKind.i64.wrap ((i : Int) + 1) = (i : Int) + 1 := by rw [IntKind.wrap_i64]; omega
  have hz2 : ¬ ((i : Int) = (q.length : Int)) := by omega
  have hb1 : (0 : Int) ≤ (i : Int) + 1 := by omega
  have hin : i ≤ q.length := by omega
  have htn : ((i : Int) + 1).toNat = i + 1 := by omega
  have hb2 : ¬ (c = i + 1) := by omega
  have hb3 : (i : Int) ≤ (q.length : Int) + 1 := by omega
  have hb4 : ¬ (c = i) := by omega
  have hH := Lib.hid (And.intro hg1 (And.intro hg hbg))
  unfold maxLen at hmax
  have H1 := Lib.hid hcp1
  have H2 := Lib.hid hcp2
  clear hcp1 hcp2 hfin hR2s hR1s hR1 hR2 hR hdl hqs hxs hq3 hg1 hg htk hv hxl
  go_enter Try.func58, Try.ntmps58
  go_wp2_with (simp only [hov])
  go_region_law (refine step_copy_known rfl (.tmp 73) (.tmp 76) 23 23 rfl _ _ (by simp [Act.eval, Act.put]) (by simp [Act.eval, Act.put]) (H1.out _ (q.length - i) (c - (i + 1)) (q.length + 1 - i) (c - i) (by simp only [Nat.min_def]; split <;> omega)) ?_)
  go_wp2_with (refine wpList_copy_known _ rfl (.tmp 80) (.tmp 81) 23 23 rfl _ _ rfl rfl (H2.out _ (q.length + 1 - i) (c - i) (by simp only [Nat.min_def]; split <;> omega)) ?_)
  go_ret
  refine retRow_mk (v := .slice (some ⟨g, 0, none⟩) (q.length + 1) c) ⟨by rw [fD_length]; simp; omega, .inr ⟨g, c, R2, rfl, hH.out.2.2, ?_, hroom, hmax, by rw [HF.out.2.1]; exact hsz, HF.out.1⟩⟩ ?_
  · exact setRow_heap _ g R1 R2 _ _ hH.out.1
  · exact ⟨rfl, rfl, rfl, by simp [World.setRow], fun k _ hk => by
      have hk' : k ≠ g := fun e => hk (by rw [e]; rfl)
      rw [setRow_other _ _ k R2 hk', setRow_other _ _ k R1 hk']
      rfl⟩
set_option maxRecDepth 100000 in
set_option maxHeartbeats 3200000 in
theorem ins_grow (q : List Dw) (i : Nat) (hi : i < q.length) (x : Dw) (g c base vb : Nat) (T0 : TypeId) (w : World) (hown : w.ownsRow base 44 3 (.slice (some ⟨g, 0, none⟩) q.length c) q.length (fD q)) (hv : w.heap[vb]? = some (.cells (fD [x]).toArray T0 (0, 0))) (hb : base ≤ w.heap.size) (hroom : c < q.length + 1) (hl : q.length ≤ 100000) :
    Calls Try.prog 58 #[.slice (some ⟨g, 0, none⟩) q.length c, .int .i64 i, .slice (some ⟨vb, 0, none⟩) 1 1] w (RetRow base (.slice (some ⟨g, 0, none⟩) q.length c) w 44 3 (q.length + 1) (fD (q.take i ++ x :: q.drop i))) := by
  obtain ⟨hxl, ⟨hz, -⟩ | ⟨g', cap, cur, hz, hbg, hg, hnc, hmax, hsz, htk⟩⟩ := hown
  · cases hz
  injection hz with h1 _ h3
  injection h1 with h1
  injection h1 with h1
  subst h1 h3
  obtain ⟨hs3, hsO⟩ := sz_of ED
  obtain ⟨ti, z, hti, hz0, hzs, hzb, hzc⟩ := ED.inf
  have hqs : ∀ j u, (fD q)[j]? = some u → w.cell? ⟨g, j, none⟩ = some u := fun j u hj => by
    rw [cell_of_row w g j _ _ (0, 0) hg]
    rw [← htk, List.getElem?_take] at hj
    split at hj
    · simpa using hj
    · cases hj
  have hgl : g < w.heap.size := (Array.getElem?_eq_some_iff.1 hg).1
  have hvl : vb < w.heap.size := (Array.getElem?_eq_some_iff.1 hv).1
  have hdl : (fD (q.drop i)).length = (q.length - i) * 3 := by rw [fD_length, List.length_drop]
  have htl : (fD (q.take i)).length = i * 3 := by rw [fD_length, List.length_take]; omega
  have hold : (Builtin.firstCells ti.size i (.slice (some ⟨g, 0, none⟩) i c)).run Try.prog w.drew = .ok (fD (q.take i)).toArray w.drew := by
    rw [hzs]
    exact run_firstCells_some w.drew 3 i ⟨g, 0, none⟩ i c (fD (q.take i)) htl (fun j u hj => by
      rw [Addr.add_lit, Nat.zero_add]
      rw [fD_take, List.getElem?_take] at hj
      split at hj
      · exact hqs j u hj
      · cases hj)
  have hkk : (q.length : Int) + 1 - (i : Int) = ((q.length + 1 - i : Nat) : Int) := by omega
  have hik : i + (q.length + 1 - i) = q.length + 1 := by omega
  obtain ⟨G, hG⟩ : ∃ G, G = grownCap w (q.length + 1) c 44 := ⟨_, rfl⟩
  obtain ⟨R0, hR0⟩ : ∃ R : Array Value, R = (fD (q.take i)).toArray ++ Builtin.zeroCells z.cells (q.length + 1 - i) ++ Builtin.zeroCells z.cells (G - (q.length + 1)) := ⟨_, rfl⟩
  have hrz : ∀ ty, (Builtin.append_ #[23, 3] ty #[.slice (some ⟨g, 0, none⟩) i c, .int .i64 ((q.length : Int) + 1 - (i : Int))]).run Try.prog w =
      .ok (.slice (some ⟨w.heap.size, 0, none⟩) (q.length + 1) G) (w.drew.alloc (.cells R0 44)) := fun ty => by
    have h := Lib.run_append_grow_zeros w 23 3 ty 44 ti z .i64 .i64 Try.underlying23 Try.underlying3 hti hz0 (some ⟨g, 0, none⟩) i c (fD (q.take i)) hold (q.length + 1 - i) (by omega) (by omega) (by omega) (by omega) (by rw [hzb]; omega) (by rw [hzb, hik]; exact growslice_fits hroom (by omega))
    rw [hik] at h
    rw [hkk, hR0, hG]
    exact h
  have hGn : q.length + 1 ≤ G := by rw [hG]; exact grownCap_ge w _ _ _
  have hG63 : G ≤ maxLen := by rw [hG]; exact grownCap_le_maxLen w _ _ _ (by unfold maxLen; omega)
  have hRs : R0.size = G * 3 := by rw [hR0]; simp only [Array.size_append, size_zeroCells, hzc, List.size_toArray, htl]; omega
  obtain ⟨Z, hZ⟩ : ∃ Z : List Value, R0.toList = fD (q.take i) ++ Z := ⟨_, by rw [hR0]; simp only [Array.toList_append, List.append_assoc]; rfl⟩
  obtain ⟨R1, hR1⟩ : ∃ R : Array Value, R = (R0.toList.take (i * 3) ++ fD [x] ++ R0.toList.drop (i * 3 + (fD [x]).length)).toArray := ⟨_, rfl⟩
  have hR1s : R1.size = G * 3 := by rw [hR1]; simp [fD, hRs]; omega
  obtain ⟨R2, hR2⟩ : ∃ R : Array Value, R = (R1.toList.take ((i + 1) * 3) ++ fD (q.drop i) ++ R1.toList.drop ((i + 1) * 3 + (fD (q.drop i)).length)).toArray := ⟨_, rfl⟩
  have hR2s : R2.size = G * 3 := by rw [hR2]; simp [hdl, hR1s]; omega
  have hfin : R2.toList.take ((q.length + 1) * 3) = fD (q.take i ++ x :: q.drop i) := by
    have := row_fill (P := fD (q.take i)) (S := fD (q.drop i)) (X := fD [x]) (a := i * 3) (b := (q.length - i) * 3) (s := 3) hZ htl hdl rfl
    rw [fD_append, fD_cons x, ← this, hR2, hR1]
    simp only [hdl, show (fD [x]).length = 3 from rfl, show i * 3 + 3 = (i + 1) * 3 from by omega, show (q.length + 1) * 3 = (i + 1) * 3 + (q.length - i) * 3 from by omega]
  have hcpA : ∀ (W : World), W.heap[w.heap.size]? = some (.cells R0 44 (0, 0)) → W.heap[vb]? = w.heap[vb]? → ∀ ty dl dc, Nat.min 1 dl = 1 → (Builtin.copy_ #[23, 23] ty #[.slice (some ⟨w.heap.size, i * 3, none⟩) dl dc, .slice (some ⟨vb, 0, none⟩) 1 1]).run Try.prog W = .ok (goInt ((1 : Nat) : Int)) (W.setRow w.heap.size R1) := fun W hN hV ty dl dc hk => by
    rw [hR1]
    exact run_copy_rowS W _ _ ty _ 3 w.heap.size (i * 3) dl dc ⟨vb, 0, none⟩ 1 1 R0 _ (fD [x]) Try.underlying23 hs3 hN 1 hk rfl
      (fun j u hj => by
        rw [Addr.add_lit, Nat.zero_add, cell_of_row W vb j _ T0 (0, 0) (hV.trans hv)]
        simpa using hj) (by rw [hRs]; simp [fD]; omega) (fD_one _)
  have hcpB : ∀ (W : World), W.heap[w.heap.size]? = some (.cells R1 44 (0, 0)) → W.heap[g]? = w.heap[g]? → ∀ ty dl dc sl sc, Nat.min sl dl = q.length - i → (Builtin.copy_ #[23, 23] ty #[.slice (some ⟨w.heap.size, (i + 1) * 3, none⟩) dl dc, .slice (some ⟨g, i * 3, none⟩) sl sc]).run Try.prog W = .ok (goInt ((q.length - i : Nat) : Int)) (W.setRow w.heap.size R2) := fun W hN hO ty dl dc sl sc hk => by
    rw [hR2]
    exact run_copy_rowS W _ _ ty _ 3 w.heap.size ((i + 1) * 3) dl dc ⟨g, i * 3, none⟩ sl sc R1 _ (fD (q.drop i)) Try.underlying23 hs3 hN _ hk hdl
      (fun j u hj => by
        have h1 := hqs (i * 3 + j) u (by rwa [fD_drop, List.getElem?_drop] at hj)
        rw [Addr.add_lit]
        simpa [World.cell?, hO] using h1) (by rw [hdl, hR1s]; omega) (fD_one _)
  have hN0 : ∀ W : World, W.heap = (w.alloc (.cells R0 44)).heap → W.heap[w.heap.size]? = some (.cells R0 44 (0, 0)) ∧ W.heap[vb]? = w.heap[vb]? ∧ W.heap[g]? = w.heap[g]? := fun W e => by
    rw [e]
    exact ⟨heap_alloc_new w _, heap_alloc_old w _ hvl, heap_alloc_old w _ hgl⟩
  have HF := Lib.hid (And.intro hfin (And.intro hR2s (And.intro hG63 hGn)))
  have hw1 : IntKind.i64.wrap ((i : Int) + 1) = (i : Int) + 1 := by rw [IntKind.wrap_i64]; omega
  have hz2 : ¬ ((i : Int) = (q.length : Int)) := by omega
  have hz3 : (c : Int) < (q.length : Int) + 1 := by omega
  have hb1 : (0 : Int) ≤ (i : Int) + 1 := by omega
  have hin : i ≤ q.length := by omega
  have htn : ((i : Int) + 1).toNat = i + 1 := by omega
  have hGi : ¬ (G = i) := by omega
  have hGi1 : ¬ (G = i + 1) := by omega
  have hb3 : (i : Int) ≤ (q.length : Int) := by omega
  have hb4 : ¬ (c = i) := by omega
  have hgN : w.heap.size ≠ g := by omega
  have H0 := Lib.hid hrz
  have H1 := Lib.hid hcpA
  have H2 := Lib.hid hcpB
  have H3 := Lib.hid hN0
  unfold maxLen at hmax hG63
  clear hcpA hcpB hrz hN0 hfin hR2s hR1s hR1 hR2 hR0 hZ hG hRs hdl htl hqs hg htk hv hxl hold hkk hik hti hz0 hzs hzb hzc
  go_enter Try.func58, Try.ntmps58
  have hA1 := H1.out ((w.alloc (.cells R0 44)).drew) (H3.out _ rfl).1 (H3.out _ rfl).2.1 3 (q.length + 1 - i) (G - i) (by simp only [Nat.min_def]; split <;> omega)
  go_wp2_with (at_builtin; refine wpList_app_known _ rfl (.tmp 34) (.tmp 39) 23 3 rfl _ _ rfl rfl (H0.out _) ?_)
  have hh1 : (((w.alloc (.cells R0 44)).drew.setRow w.heap.size R1).drew).heap[w.heap.size]? = some (.cells R1 44 (0, 0)) := setRow_heap _ _ R0 R1 _ _ (H3.out _ rfl).1
  have hh2 : (((w.alloc (.cells R0 44)).drew.setRow w.heap.size R1).drew).heap[g]? = w.heap[g]? := (setRow_other _ _ g R1 (Ne.symm hgN)).trans (H3.out _ rfl).2.2
  have h2 := H2.out _ hh1 hh2
  have HB := Lib.hid h2
  have HH := Lib.hid hh1
  clear hh1 hh2 h2
  go_region_law (refine step_copy_known rfl (.tmp 50) (.tmp 53) 23 23 rfl _ _ (by simp [Act.eval, Act.put]) (by simp [Act.eval, Act.put]) (HB.out _ (q.length - i) (G - (i + 1)) (q.length - i) (c - i) (by simp only [Nat.min_def]; split <;> omega)) ?_)
  go_wp2_with fail
  go_ret
  refine retRow_mk (v := .slice (some ⟨w.heap.size, 0, none⟩) (q.length + 1) G) ⟨by rw [fD_length]; simp; omega, .inr ⟨w.heap.size, G, R2, rfl, hb, ?_, HF.out.2.2.2, HF.out.2.2.1, HF.out.2.1, HF.out.1⟩⟩ ?_
  · exact setRow_heap _ _ R1 R2 _ _ HH.out
  · exact ⟨rfl, rfl, rfl, by simp [World.setRow], fun k hk _ => by
      have hk' : k ≠ w.heap.size := by omega
      rw [setRow_other _ _ k R2 hk']
      exact (setRow_other _ _ k R1 hk').trans (heap_alloc_old w _ hk)⟩
/-- A dirty word is put into a row of the call's own. -/
theorem ins_any (q : List Dw) (i : Nat) (hi : i ≤ q.length) (x : Dw) (A : Option Addr) (c base vb : Nat) (T0 : TypeId) (w : World) (hown : w.ownsRow base 44 3 (.slice A q.length c) q.length (fD q)) (hv : w.heap[vb]? = some (.cells (fD [x]).toArray T0 (0, 0))) (hne : ∀ ad, A = some ad → ad.block ≠ vb) (hb : base ≤ w.heap.size) (hl : q.length ≤ 100000) :
    Calls Try.prog 58 #[.slice A q.length c, .int .i64 i, .slice (some ⟨vb, 0, none⟩) 1 1] w (RetRow base (.slice A q.length c) w 44 3 (q.length + 1) (fD (q.take i ++ x :: q.drop i))) := by
  by_cases h : i = q.length
  · subst h
    rw [List.take_length, List.drop_length]
    refine ins_end q x A c base vb w hown ⟨Nat.le_refl _, by decide, (fun h => by cases h), fun _ => ⟨_, rfl, fun j u hu => ?_⟩⟩ hb hl
    rw [Addr.add_lit, Nat.zero_add, cell_of_row w vb j _ T0 (0, 0) hv]
    simpa using hu
  · obtain ⟨g, rfl, -⟩ := own_head hown (by omega)
    by_cases hr : q.length + 1 ≤ c
    · exact ins_room q i (by omega) x g c base vb T0 w hown hv (Ne.symm (hne _ rfl)) hr hl
    · exact ins_grow q i (by omega) x g c base vb T0 w hown hv hb (by omega) hl
end Go.Proofs.Ytmmcbleoglgamaa
