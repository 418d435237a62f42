/-
  The library's slices.DeleteFunc with the closure of cache.Fence.
-/
import Derived.Test.YtmmcbleoglgamaaDIdx
namespace Go.Proofs.Ytmmcbleoglgamaa
open Go.RowKit
theorem fenM_cons' {m : List Int} {x : Dw} {l : List Dw} : fenM m (x :: l) = fenM (if x.2.2 then m.set x.1.toNat x.2.1 else m) l := rfl
theorem fenM_none : ∀ {q : List Dw} {m : List Int}, fenD q = q → fenM m q = m
  | [], _, _ => rfl
  | x :: l, m, h => by
    cases hf : x.2.2 with
    | false =>
      have e : fenD (x :: l) = x :: fenD l := by simp [fenD, hf]
      rw [e] at h
      injection h with _ h
      rw [fenM_cons', hf]
      exact fenM_none h
    | true =>
      have e : fenD (x :: l) = fenD l := by simp [fenD, hf]
      rw [e] at h
      have h1 := congrArg List.length h
      have h2 := fenD_length l
      simp at h1
      omega
theorem zeros_one {z : Array Value} (n : Nat) (h : ∀ u ∈ z.toList, u.oneCell' = true) : ∀ u ∈ (Builtin.zeroCells z n).toList, u.oneCell' = true := by
  intro u hu
  simp only [Builtin.zeroCells, Array.toList_map, List.mem_map] at hu
  obtain ⟨i, hi, rfl⟩ := hu
  have hlt : i < n * z.size := by simpa using hi
  have hpos : 0 < z.size := by
    rcases Nat.eq_zero_or_pos z.size with h0 | h0
    · rw [h0] at hlt; omega
    · exact h0
  have hm := Nat.mod_lt i hpos
  rw [getElem!_pos z _ hm]
  exact h _ (by simp)
theorem run_clearS {P : Program} (w : World) (t e ty : TypeId) (z : Value) (s : Nat) (ht : P.underlying t = some (.slice e)) (hv : ∀ w, (zeroValue e).run P w = .ok z w) (hz : z.cells.size = s) (h1 : ∀ u ∈ z.cells.toList, u.oneCell' = true) (g o n c : Nat) (cur : Array Value) (t' : TypeId) (hg : w.heap[g]? = some (.cells cur t' (0, 0))) (hn : 0 < n) (hfit : o + n * s ≤ cur.size) :
    (Builtin.clear_ #[t] ty #[.slice (some ⟨g, o, none⟩) n c]).run P w = .ok (.tuple #[]) (w.setRow g (cur.toList.take o ++ (Builtin.zeroCells z.cells n).toList ++ cur.toList.drop (o + n * s)).toArray) := by
  have hl : (Builtin.zeroCells z.cells n).toList.length = n * s := by rw [Array.length_toList, size_zeroCells, hz]
  have hst := run_storeCells_at P g o t' (Builtin.zeroCells z.cells n).toList 0 cur w hg (by rw [hl]; simpa using hfit) (zeros_one n h1)
  rw [hl] at hst
  simp only [Nat.add_zero] at hst
  obtain ⟨k, rfl⟩ : ∃ k, n = k + 1 := ⟨n - 1, by omega⟩
  simp [Builtin.clear_, run_underlying ht, hv, hst]
theorem grown_row (w : World) (g : Nat) (R : Array Value) : w.grownBy (w.setRow g R) (some g) :=
  ⟨rfl, rfl, rfl, by simp [World.setRow], fun k _ hk => setRow_other w g k R (fun e => hk (by rw [e]))⟩
theorem Box4.grown {w w' : World} {b : Nat} {v0 v1 v2 v3 : Value} (h : Box4 w b v0 v1 v2 v3) {row : Option Nat} (hg : w.grownBy w' row) (hb : some b ≠ row) : Box4 w' b v0 v1 v2 v3 :=
  ⟨hg.cell h.c0 hb, hg.cell h.c1 hb, hg.cell h.c2 hb, hg.cell h.c3 hb, fun o => by
    have : w'.frozen? ⟨b, o, none⟩ = w.frozen? ⟨b, o, none⟩ := World.frozen?_of_block (hg.block b h.lt hb)
    rw [this]; exact h.fz o, Nat.lt_of_lt_of_le h.lt hg.size⟩
/-- The row is cut. -/
theorem FS.cut {w0 wr : World} {pb ga g n c1 k d1 : Nat} {M : List Int} {kk : Nat} {l : List Dw} {L : Int} {down : Bool} (h : FS w0 wr pb ga g n c1 k d1 M kk l L down) (i : Nat) (hi : i ≤ kk) (cur R : Array Value)
    (hg : wr.heap[g]? = some (.cells cur 44 (0, 0))) (hR : R.size = cur.size) (ht : R.toList.take (i * 3) = cur.toList.take (i * 3)) : FS w0 (wr.setRow g R) pb ga g n c1 k d1 M i (l.take i) L down := by
  have l1 := h.lo
  have l2 := h.g_le
  have l3 := h.ne
  have hgr := grown_row wr g R
  refine ⟨h.o.grown hgr (by simp; omega), h.r.grown hgr (by simp; omega), h.img.kept hgr (.inr (by simpa [Value.ownBlock] using l3)), ?_, h.x.grown hgr (fun k hk => by injection hk with hk; omega), l1⟩
  obtain ⟨hl, ⟨hv, _⟩ | ⟨g', cap, cur', hv, hb, hg', hn, hm, hs, htk⟩⟩ := h.row
  · cases hv
  · injection hv with e1 _ e3
    injection e1 with e1
    injection e1 with e1
    subst e1 e3
    rw [hg] at hg'
    injection hg' with hg'
    injection hg' with hg' _ _
    subst hg'
    refine ⟨by rw [fD_length, List.length_take, h.len]; omega, .inr ⟨g, d1, R, rfl, hb, setRow_heap wr g cur R _ _ hg, by omega, hm, by omega, ?_⟩⟩
    rw [ht, fD_take, ← htk, List.take_take, Nat.min_eq_left (by omega)]
theorem zeroD : ∀ w, (zeroValue 44).run Try.prog w = .ok (.agg #[.int .i64 0, .int .u64 0, .bool false]) w := by
  obtain ⟨i, hi, hz, _⟩ := info_parts (P := Try.prog) (e := 44) (z := .agg #[.int .i64 0, .int .u64 0, .bool false]) (size := 3) (bytes := 24) (by kernel_rfl)
  intro w
  simp [zeroValue, typeInfo, hi, hz]
/-- What the call returned, and what became of the device in the box. -/
def DelR (w0 : World) (pb ga g n c1 k d1 : Nat) (m : List Int) (q : List Dw) (L : Int) (down : Bool) (en : Ending) (w' : World) : Prop :=
  ∃ i : Nat, en = .returned (.slice (some ⟨g, 0, none⟩) i d1) ∧ FS w0 w' pb ga g n c1 k d1 (fenM m q) i (fenD q) L down
set_option maxRecDepth 100000 in
set_option maxHeartbeats 3200000 in
theorem del_any {w0 : World} {pb ga g n c1 k d1 : Nat} {m : List Int} {q : List Dw} {L : Int} {down : Bool} (w : World) (h : FS w0 w pb ga g n c1 k d1 m k q L down) (hasc : ascB m.length (-1) q = true) (hn : m.length ≤ 2048) (hk : k ≤ 100000) :
    Calls Try.prog 61 #[.slice (some ⟨g, 0, none⟩) k d1, .func (.func 62) #[] #[.pointer (some ⟨pb, 0, none⟩)]] w (DelR w0 pb ga g n c1 k d1 m q L down) := by
  have H0 := Lib.hid hasc
  have HQ := Lib.hid h.len
  have HI := Lib.hid (idx_any w h hasc hn hk)
  have hkd : k ≤ d1 := (own_sl4 h.row).le
  have hdm : d1 ≤ maxLen := (own_sl4 h.row).max
  unfold maxLen at hdm
  clear hasc
  go_enter Try.func61, Try.ntmps61
  go_wp2_with fail
  refine HI.out.mono ?_
  intro e w1 hR
  rcases hR with ⟨rfl, hq, hS⟩ | ⟨i0, x0, hx0, hxf, hq, rfl, hS⟩
  · have HF := Lib.hid hq
    clear hq h
    go_wp2_with fail
    go_ret
    exact ⟨k, rfl, by rw [fenM_none HF.out, HF.out]; exact hS⟩
  · have hi0 : i0 < k := by have := (List.getElem?_eq_some_iff.1 hx0).1; rw [HQ.out] at this; exact this
    have hst : q.take i0 = fenD (q.take (i0 + 1)) ∧ m.set x0.1.toNat x0.2.1 = fenM m (q.take (i0 + 1)) ∧ i0 = (fenD (q.take (i0 + 1))).length := by
      have := fen_take (m := m) hx0
      rw [if_pos hxf, hq, fenM_none hq] at this
      refine ⟨this.2.symm, this.1.symm, ?_⟩
      rw [this.2, List.length_take, HQ.out]
      omega
    have HST := Lib.hid hst
    have hne1 : ((i0 : Int) == -1) = false := beq_eq_false_iff_ne.2 (by omega)
    clear hx0 hxf hq hst h
    go_wp2_with fail
    go_loopw [5, 6] (fun i j wr => ∃ (ii jj : Nat) (M : List Int) (l : List Dw), i = .int .i64 ii ∧ j = .int .i64 jj ∧ jj ≤ k ∧ ii < jj ∧ FS w0 wr pb ga g n c1 k d1 M k l L down ∧ Hid (l.take ii = fenD (q.take jj) ∧ l.drop jj = q.drop jj ∧ M = fenM m (q.take jj) ∧ ii = (fenD (q.take jj)).length)) (fun _ j _ => k - (intOf j).toNat)
    case atStart => exact ⟨i0, i0 + 1, _, _, rfl, by go_num, by omega, by omega, hS, Lib.hid ⟨HST.out.1, rfl, HST.out.2⟩⟩
    case round =>
      clear hS HST
      obtain ⟨i, j, M, l, rfl, rfl, hj, hij, hS, hI⟩ := hrel
      have HS := Lib.hid hS
      have hll := hS.len
      by_cases hlt : j < k
      · obtain ⟨x, hat, g0, g1, g2, gf⟩ := own_at_D hS.row (i := j) (by rw [hll]; exact hlt)
        have hqx : q[j]? = some x := by
          have h1 : (l.drop j)[0]? = some x := by rw [List.getElem?_drop]; exact hat
          rw [hI.out.2.1, List.getElem?_drop] at h1
          exact h1
        have hML : M.length = m.length := by rw [hI.out.2.2.1, fenM_length]
        obtain ⟨r0, r1⟩ := ascB_mem H0.out x (List.mem_of_getElem? hqx)
        have hft := fen_take (m := m) hqx
        have HX := Lib.hid (And.intro hat (And.intro hqx (And.intro hft (And.intro hML hll))))
        have hgl : g < wr.heap.size := (hS.row.lt g rfl).2
        clear hat hqx hft hML hll hS
        cases hf : x.2.2 with
        | false =>
          rw [hf] at g2
          have HF := Lib.hid hf
          clear hf
          go_upto_region 8 with fail
          obtain ⟨W2, hW2⟩ : ∃ W, W = wr.alloc (Obj.cells #[.int .i64 x.1, .int .u64 x.2.1, .bool false] 44) := ⟨_, rfl⟩
          have v0 : W2.cell? ⟨wr.heap.size, 0, none⟩ = some (.int .i64 x.1) := by rw [hW2]; simp [go_sem]
          have v1 : W2.cell? ⟨wr.heap.size, 1, none⟩ = some (.int .u64 x.2.1) := by rw [hW2]; simp [go_sem]
          have v2 : W2.cell? ⟨wr.heap.size, 2, none⟩ = some (.bool false) := by rw [hW2]; simp [go_sem]
          have hx2 : Ext wr W2 := by rw [hW2]; exact (Ext.refl _).alloc _
          rw [← hW2]
          obtain ⟨gv, hgv⟩ : ∃ gv, wr.heap.size = gv := ⟨_, rfl⟩
          rw [hgv] at v0 v1 v2 hgl ⊢
          clear hW2 hgv g0 g1 g2 gf
          go_wp2_with fail
          refine (fenF_no _ _ _ _).mono ?_
          rintro e w3 ⟨rfl, hx3⟩
          replace v0 := hx3.cell v0
          replace v1 := hx3.cell v1
          replace v2 := hx3.cell v2
          have hS3 := HS.out.ext (hx2.trans hx3)
          obtain ⟨y, hy, g0, g1, g2, gf⟩ := own_at_D hS3.row (i := i) (by rw [HX.out.2.2.2.2]; omega)
          have HP := Lib.hid (hS3.put (i := i) (by rw [HX.out.2.2.2.2]; omega) (x.1, x.2.1, false))
          have hne : gv ≠ g := by omega
          have i1 : (i : Int) < k := by omega
          clear hS3 hy hx2 hx3
          go_wp2_with fail
          go_roundw
          case rel =>
            refine ⟨i + 1, j + 1, M, l.set i x, by go_num, by go_num, by omega, by omega, ?_, Lib.hid ?_⟩
            · have := HP.out
              rw [show (x.1, x.2.1, false) = x from by rw [← HF.out]] at this
              exact this
            · obtain ⟨a1, a2, a3, a4⟩ := hI.out
              have hft := HX.out.2.2.1
              rw [HF.out] at hft
              simp only [Bool.false_eq_true, if_false] at hft
              rw [hft.1, hft.2]
              refine ⟨?_, ?_, a3, by simp; omega⟩
              · rw [← a1, List.take_add_one, List.getElem?_set_self (by rw [HX.out.2.2.2.2]; omega), List.take_set_of_le (Nat.le_refl _)]
                rfl
              · rw [List.drop_set_of_lt (by omega), ← List.drop_drop, a2, List.drop_drop]
          case measure => simp [intOf]; omega
        | true =>
          rw [hf] at g2
          have HF := Lib.hid hf
          clear hf
          go_upto_region 8 with fail
          obtain ⟨W2, hW2⟩ : ∃ W, W = wr.alloc (Obj.cells #[.int .i64 x.1, .int .u64 x.2.1, .bool true] 44) := ⟨_, rfl⟩
          have v0 : W2.cell? ⟨wr.heap.size, 0, none⟩ = some (.int .i64 x.1) := by rw [hW2]; simp [go_sem]
          have v1 : W2.cell? ⟨wr.heap.size, 1, none⟩ = some (.int .u64 x.2.1) := by rw [hW2]; simp [go_sem]
          have v2 : W2.cell? ⟨wr.heap.size, 2, none⟩ = some (.bool true) := by rw [hW2]; simp [go_sem]
          have hx2 : Ext wr W2 := by rw [hW2]; exact (Ext.refl _).alloc _
          rw [← hW2]
          obtain ⟨gv, hgv⟩ : ∃ gv, wr.heap.size = gv := ⟨_, rfl⟩
          rw [hgv] at v0 v1 v2 hgl ⊢
          clear hW2 hgv g0 g1 g2 gf
          go_wp2_with fail
          refine (fenF_yes _ _ (by omega) _ (HS.out.ext hx2) (by rw [HX.out.2.2.2.1]; exact r1) (by rw [HX.out.2.2.2.1]; exact hn)).mono ?_
          rintro e w3 ⟨rfl, hS3⟩
          clear v0 v1 v2
          go_wp2_with fail
          go_roundw
          case rel =>
            refine ⟨i, j + 1, _, l, rfl, by go_num, by omega, by omega, hS3, Lib.hid ?_⟩
            obtain ⟨a1, a2, a3, a4⟩ := hI.out
            have hft := HX.out.2.2.1
            rw [if_pos HF.out] at hft
            rw [hft.1, hft.2, ← a3]
            exact ⟨a1, by rw [← List.drop_drop, a2, List.drop_drop], rfl, a4⟩
          case measure => simp [intOf]; omega
      · obtain rfl : j = k := by omega
        obtain ⟨a1, a2, a3, a4⟩ := hI.out
        rw [(List.take_of_length_le (by rw [HQ.out]; omega) : q.take j = q)] at a1 a3 a4
        obtain ⟨cur, hcur, hcs⟩ : ∃ cur : Array Value, wr.heap[g]? = some (.cells cur 44 (0, 0)) ∧ cur.size = d1 * 3 := by
          obtain ⟨hl, ⟨hv, _⟩ | ⟨g', cap, cur', hv, hb, hg', hn', hm, hs, htk⟩⟩ := hS.row
          · cases hv
          · injection hv with e1 _ e3
            injection e1 with e1
            injection e1 with e1
            subst e1 e3
            exact ⟨cur', hg', hs⟩
        have hcl := fun ty => run_clearS (P := Try.prog) wr 23 44 ty (.agg #[.int .i64 0, .int .u64 0, .bool false]) 3 Try.underlying23 zeroD rfl (by intro u hu; simp [Value.cells] at hu; rcases hu with rfl | rfl | rfl <;> rfl) g (i * 3) (j - i) (d1 - i) cur 44 hcur (by omega) (by omega)
        obtain ⟨R, hR⟩ : ∃ R, R = (cur.toList.take (i * 3) ++ (Builtin.zeroCells (Value.agg #[.int .i64 0, .int .u64 0, .bool false]).cells (j - i)).toList ++ cur.toList.drop (i * 3 + (j - i) * 3)).toArray := ⟨_, rfl⟩
        rw [← hR] at hcl
        have hRs : R.size = cur.size := by
          rw [hR]
          simp only [List.size_toArray, List.length_append, List.length_take, List.length_drop, Array.length_toList, size_zeroCells, hcs, show (Value.agg #[.int .i64 0, .int .u64 0, .bool false]).cells.size = 3 from rfl]
          omega
        have hRt : R.toList.take (i * 3) = cur.toList.take (i * 3) := by
          rw [hR]
          simp only [List.append_assoc]
          rw [List.take_append_of_le_length (by simp [hcs]; omega), List.take_take, Nat.min_self]
        have hS5 := hS.cut i (by omega) cur R hcur hRs hRt
        rw [a1, a3] at hS5
        have HZ := Lib.hid hS5
        have hdi : ¬ (d1 = i) := by omega
        have i1 : (i : Int) ≤ j := by omega
        clear hS5 hRs hRt hR hcur hcs a1 a2 a3 a4 hS hI hll
        go_wp2_with fail
        go_ret
        exact ⟨i, rfl, HZ.out⟩
end Go.Proofs.Ytmmcbleoglgamaa
