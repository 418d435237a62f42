/-
  How arguments open, and the row's last step: a law that returns true and leaves old memory alone.
-/
import Derived.Test.YtibeolemelmpcaaMem
import Derived.Test.YtibeolemelmpcaaPlain
import Derived.ProofKit
import Derived.OpenShut
import Derived.ChangeSame
import Derived.Deep.Slices
import Derived.Deep.Fields
import Derived.Lib.SmallJoins
namespace Go.Proofs.Ytibeolemelmpcaa
open Go.RowKit Go.ChangeShapes Go.WideShapes Go.Deep Go.Joins

section
variable {H : Type} {enc : TypeId × Value → H} {P : Program}

theorem trodAll_stays (hl : laidOutB P = true) {W W' : World} {sp' : Nat → Bool} : ∀ {ts : List TypeId} {vs : List Value} {ds : List (DataW H)} {ps : List MemPlace},
    (ts.all fun t => P.readableRec t && decide (t < P.types.size)) = true → DataW.TrodAll enc P W 0 (fun _ => true) true ts vs ds ps → (∀ p ∈ ps, W.sameAt W' p) → (∀ p ∈ ps, sp' p.block = true) →
    DataW.TrodAll enc P W' 0 sp' true ts vs ds ps
  | [], [], [], ps, _, h, _, _ => h
  | t :: ts, v :: vs, d :: ds, ps, hr, h, hs, hp => by
    obtain ⟨p, q, h1, h2, rfl⟩ := h
    simp only [List.all_cons, Bool.and_eq_true, decide_eq_true_eq] at hr
    exact ⟨p, q, WideElems.Trod_stays hl hr.1.1 hr.1.2 h1 (fun x hx => hs x (List.mem_append.2 (.inl hx))) (fun x hx => hp x (List.mem_append.2 (.inl hx))),
      trodAll_stays hl hr.2 h2 (fun x hx => hs x (List.mem_append.2 (.inr hx))) (fun x hx => hp x (List.mem_append.2 (.inr hx))), rfl⟩
  | [], _ :: _, _, _, _, h, _, _ => h.elim
  | [], [], _ :: _, _, _, h, _, _ => h.elim
  | _ :: _, [], _, _, _, h, _, _ => h.elim
  | _ :: _, _ :: _, [], _, _, h, _, _ => h.elim

/-- The row's last step. -/
theorem post_law {f : Func} {s : ChangeSpec} {apart fresh handsOn again : Bool} {W W' : World} {args : Array Value} {ds gs : List (DataW H)} {before : List MemPlace} {tb : TypeId}
    (hl : laidOutB P = true) (hr : (f.params.toList.all fun t => P.readableRec t && decide (t < P.types.size)) = true)
    (hW : DataW.Whole enc P f.params.toList s.vars apart W args.toList ds gs before) (hv : s.vars = []) (hfn : s.fn H (ds ++ gs) = { results := [.lit (.bool true)], args := ds })
    (ht : f.resultTypes = #[tb]) (hb : P.underlying tb = some .bool) (hx : Ext W W') :
    s.post enc P f apart fresh handsOn again W args (.bool true) W' := by
  have hlt : ∀ p ∈ before, p.block < W.heap.size := fun p hp => hW.lt p hp
  have hold : ∀ p ∈ before, (fun b => decide (b < W.heap.size)) p.block = true := fun p hp => by simpa using hlt p hp
  have hW' := hW
  obtain ⟨p, q, hA, hV, hps, hz, hn⟩ := hW'
  have hgq : gs = [] ∧ q = [] := by
    rw [hv] at hV
    cases gs with
    | nil => exact ⟨rfl, hV⟩
    | cons g gs => exact hV.elim
  obtain ⟨rfl, rfl⟩ := hgq
  have hps' : before = p := by simpa using hps
  subst hps'
  have hres : ∀ (b : Nat) (sp : Nat → Bool) (hd : Bool), DataW.TrodAll enc P W' b sp hd f.resultTypes.toList ((Value.bool true).resultList f.resultTypes.size) (s.fn H (ds ++ [])).results [] := by
    intro b sp hd
    rw [hfn, ht]
    exact trodAll_mk1 (shut_bool hb _)
  have hargs : ∀ sp : Nat → Bool, (∀ p ∈ before, sp p.block = true) → DataW.TrodAll enc P W' 0 sp true f.params.toList args.toList (s.fn H (ds ++ [])).args before := by
    intro sp hsp
    rw [hfn]
    exact trodAll_stays hl hr hA (fun x hx' => Below.same hx (hlt x hx')) hsp
  have hvars : ∀ sp : Nat → Bool, (∀ p ∈ before, sp p.block = true) → DataW.TrodVars enc P W' sp s.vars (s.fn H (ds ++ [])).vars [] := by
    intro sp _
    rw [hfn, hv]
    rfl
  refine ⟨ds, [], before, [], before, [], hW, hres _ _ _, hargs _ hold, hvars _ hold, World.keptBut_mono (fun p hp => ⟨hp, .inr (by simpa using hp)⟩) (Below.frame hx (· ∈ before)), fun _ => ?_⟩
  refine ⟨?_, _, _, ([] ++ before) ++ [], ⟨[] ++ before, [], trodAll_append (hargs _ (fun _ _ => rfl)) (hres _ _ _), hvars _ (fun _ _ => rfl), rfl, ?_, ?_⟩, ?_⟩
  · exact ok_one ht rfl (okWide_bool_mk hb _)
  · intro b off hp
    have hin : MemPlace.cell b off ∈ before := by simpa using hp
    rw [Below.frozen hx (hlt _ hin)]
    exact hz b off hin
  · intro ha
    have := hn ha
    simpa using this
  · intro p hp _
    simpa using hp
end

section
variable {H : Type} {enc : TypeId × Value → H} {P : Program} {w : World} {base : Nat} {spare : Nat → Bool} {held : Bool}
theorem inI_of {x : Int} (h : (Lit.int .i64 x).wf = true) : InI x := by
  simp [Lit.wf, IntKind.min, IntKind.max, IntKind.signed, IntKind.bits] at h
  exact ⟨by omega, by omega⟩
theorem inU_of {x : Int} (h : (Lit.int .u64 x).wf = true) : InU x := by
  simp [Lit.wf, IntKind.min, IntKind.max, IntKind.signed, IntKind.bits] at h
  exact ⟨by omega, by omega⟩

theorem rd_U {t e : TypeId} {fuel : Nat} {v : Value} {x : DataW H × List MemPlace} (ht : P.underlying t = some (.slice e)) (he : P.underlying e = some (.int .u64)) (hc : P.cellsOf e = 1)
    (h : DataW.trod enc P w base spare held fuel t [v] = some x) : ∃ A c m, v = .slice A m.length c ∧ Sl w A m.length c (fU m) ∧ WfU m := by
  rcases open_ints ht he hc h with ⟨hcs, _⟩ | ⟨a, len, cap, zs, hcs, _, hl, hm, hz, _, hcell, hwz⟩
  · simp only [List.cons.injEq, and_true] at hcs
    subst hcs
    exact ⟨none, 0, [], rfl, Sl.nil_ w, fun x hx => by cases hx⟩
  · simp only [List.cons.injEq, and_true] at hcs
    subst hcs
    have hlz : len ≤ zs.length := by rw [hz]; split <;> omega
    have hlen : (zs.take len).length = len := by simp; omega
    refine ⟨some a, cap, zs.take len, by rw [hlen], ⟨by omega, hm, (fun h => by cases h), fun _ => ⟨a, rfl, fun j u hu => ?_⟩⟩, fun x hx => inU_of (hwz x (List.mem_of_mem_take hx))⟩
    have hj : j < len := by
      have := (List.getElem?_eq_some_iff.1 hu).1
      simp at this
      omega
    rw [hcell j (by omega)]
    simp only [fU, List.getElem?_map, List.getElem?_take, if_pos hj] at hu
    rw [List.getElem?_eq_getElem (by omega)] at hu
    simp at hu
    simp [List.getD, List.getElem?_eq_getElem (show j < zs.length by omega), hu]
theorem rd_I {t e : TypeId} {fuel : Nat} {v : Value} {x : DataW H × List MemPlace} (ht : P.underlying t = some (.slice e)) (he : P.underlying e = some (.int .i64)) (hc : P.cellsOf e = 1)
    (h : DataW.trod enc P w base spare held fuel t [v] = some x) : ∃ A c m, v = .slice A m.length c ∧ Sl w A m.length c (fI m) ∧ WfI m := by
  rcases open_ints ht he hc h with ⟨hcs, _⟩ | ⟨a, len, cap, zs, hcs, _, hl, hm, hz, _, hcell, hwz⟩
  · simp only [List.cons.injEq, and_true] at hcs
    subst hcs
    exact ⟨none, 0, [], rfl, Sl.nil_ w, fun x hx => by cases hx⟩
  · simp only [List.cons.injEq, and_true] at hcs
    subst hcs
    have hlz : len ≤ zs.length := by rw [hz]; split <;> omega
    have hlen : (zs.take len).length = len := by simp; omega
    refine ⟨some a, cap, zs.take len, by rw [hlen], ⟨by omega, hm, (fun h => by cases h), fun _ => ⟨a, rfl, fun j u hu => ?_⟩⟩, fun x hx => inI_of (hwz x (List.mem_of_mem_take hx))⟩
    have hj : j < len := by
      have := (List.getElem?_eq_some_iff.1 hu).1
      simp at this
      omega
    rw [hcell j (by omega)]
    simp only [fI, List.getElem?_map, List.getElem?_take, if_pos hj] at hu
    rw [List.getElem?_eq_getElem (by omega)] at hu
    simp at hu
    simp [List.getD, List.getElem?_eq_getElem (show j < zs.length by omega), hu]

theorem open_slice_fields {t e : TypeId} {fs : Array Field} {fuel : Nat} {cs : List Value} {x : DataW H × List MemPlace} (ht : P.underlying t = some (.slice e)) (he : P.underlying e = some (.struct fs))
    (hone : oneCellFields P fs = true) (hC : P.cellsOf e = fs.size) (h : DataW.trod enc P w base spare held fuel t cs = some x) :
    cs = [.slice none 0 0] ∨
    ∃ (a : Addr) (len cap : Nat), cs = [.slice (some a) len cap] ∧ len ≤ cap ∧ cap ≤ maxLen ∧
      ∀ i, i < len → ∀ (j : Nat) (f : Field), fs[j]? = some f → ∃ (v : Value) (y : DataW H × List MemPlace) (n : Nat), w.cell? (a.add (i * fs.size + j)) = some v ∧ DataW.trod enc P w base spare held n f.type [v] = some y := by
  rcases open_slice ht h with h0 | ⟨a, len, cap, m, n, D, Pl, hcs, hb, hl, hm, hmm, hx, hi⟩
  · exact .inl h0.1
  · refine .inr ⟨a, len, cap, hcs, hl, hm, fun i him => ?_⟩
    obtain ⟨cs', hc, ht'⟩ := hi i (by rw [hmm]; split <;> omega)
    rw [hC] at hc
    obtain ⟨ys, n', hn', hy, hlen, hyl, hf⟩ := DataW.trod_struct he ht'
    obtain ⟨_, hcl, hat⟩ := World.cells?_some hc
    intro j f hj
    obtain ⟨ho, hk⟩ := hone_of hone j f hj
    have hjl : j < fs.size := (Array.getElem?_eq_some_iff.1 hj).1
    have hcell := hat j hjl
    have hv : cs'[j]? = some (cs'[j]'(by omega)) := List.getElem?_eq_getElem (by omega)
    have h1 := hf j f hj
    rw [ho, hk] at h1
    have hone' : (cs'.drop j).take 1 = [cs'[j]'(by omega)] := by
      rw [List.drop_eq_getElem_cons (by omega)]
      rfl
    rw [hone'] at h1
    have hys : ys[j]? = some (ys[j]'(by omega)) := List.getElem?_eq_getElem (by omega)
    refine ⟨_, _, n', ?_, h1.trans hys⟩
    rw [← Go.Deep.add_add, hcell, hv]

/-- The number in a cell. -/
def cellInt (w : World) (a : Addr) : Int := match w.cell? a with | some (.int _ n) => n | _ => 0
def cellBool (w : World) (a : Addr) : Bool := match w.cell? a with | some (.bool b) => b | _ => false

theorem rd_E {t e ti tu : TypeId} {f0 f1 : Field} {fuel : Nat} {v : Value} {x : DataW H × List MemPlace} (ht : P.underlying t = some (.slice e)) (he : P.underlying e = some (.struct #[f0, f1]))
    (hone : oneCellFields P #[f0, f1] = true) (hC : P.cellsOf e = 2) (h0 : f0.type = ti) (h1 : f1.type = tu) (hi : P.underlying ti = some (.int .i64)) (hu : P.underlying tu = some (.int .u64))
    (h : DataW.trod enc P w base spare held fuel t [v] = some x) : ∃ A c l, v = .slice A l.length c ∧ Sl w A l.length c (fE l) ∧ WfE l := by
  rcases open_slice_fields ht he hone hC h with hcs | ⟨a, len, cap, hcs, hl, hm, hat⟩
  · simp only [List.cons.injEq, and_true] at hcs
    subst hcs
    exact ⟨none, 0, [], rfl, Sl.nil_ w, fun x hx => by cases hx⟩
  · simp only [List.cons.injEq, and_true] at hcs
    subst hcs
    have hg : ∀ i, i < len → (w.cell? (a.add (i * 2)) = some (.int .i64 (cellInt w (a.add (i * 2)))) ∧ InI (cellInt w (a.add (i * 2)))) ∧
        (w.cell? (a.add (i * 2 + 1)) = some (.int .u64 (cellInt w (a.add (i * 2 + 1)))) ∧ InU (cellInt w (a.add (i * 2 + 1)))) := by
      intro i hil
      obtain ⟨v0, y0, n0, hc0, ht0⟩ := hat i hil 0 f0 rfl
      obtain ⟨v1, y1, n1, hc1, ht1⟩ := hat i hil 1 f1 rfl
      rw [h0] at ht0
      rw [h1] at ht1
      obtain ⟨z0, e0, _, w0⟩ := DataW.trod_int hi ht0
      obtain ⟨z1, e1, _, w1⟩ := DataW.trod_int hu ht1
      simp only [List.cons.injEq, and_true] at e0 e1
      subst e0 e1
      simp only [List.size_toArray, List.length_cons, List.length_nil, Nat.zero_add, Nat.reduceAdd, Nat.add_zero] at hc0 hc1
      exact ⟨⟨by simp [cellInt, hc0], by simpa [cellInt, hc0] using inI_of w0⟩, ⟨by simp [cellInt, hc1], by simpa [cellInt, hc1] using inU_of w1⟩⟩
    refine ⟨some a, cap, (List.range len).map fun i => (cellInt w (a.add (i * 2)), cellInt w (a.add (i * 2 + 1))), by simp, ⟨by simpa using hl, hm, (fun h => by cases h), fun _ => ⟨a, rfl, fun j u hj => ?_⟩⟩, fun x hx => ?_⟩
    · obtain ⟨k, x, hk, ⟨rfl, rfl⟩ | ⟨rfl, rfl⟩⟩ := fE_inv hj
      · simp only [List.getElem?_map, Option.map_eq_some_iff] at hk
        obtain ⟨i, hi', rfl⟩ := hk
        obtain ⟨hlt, rfl⟩ := List.getElem?_eq_some_iff.1 hi'
        simp at hlt
        simpa using (hg k hlt).1.1
      · simp only [List.getElem?_map, Option.map_eq_some_iff] at hk
        obtain ⟨i, hi', rfl⟩ := hk
        obtain ⟨hlt, rfl⟩ := List.getElem?_eq_some_iff.1 hi'
        simp at hlt
        simpa using (hg k hlt).2.1
    · obtain ⟨i, hi', rfl⟩ := List.mem_map.1 hx
      have := hg i (by simpa using hi')
      exact ⟨this.1.2, this.2.2⟩

theorem rd_D {t e ti tu tb : TypeId} {f0 f1 f2 : Field} {fuel : Nat} {v : Value} {x : DataW H × List MemPlace} (ht : P.underlying t = some (.slice e)) (he : P.underlying e = some (.struct #[f0, f1, f2]))
    (hone : oneCellFields P #[f0, f1, f2] = true) (hC : P.cellsOf e = 3) (h0 : f0.type = ti) (h1 : f1.type = tu) (h2 : f2.type = tb) (hi : P.underlying ti = some (.int .i64)) (hu : P.underlying tu = some (.int .u64)) (hb : P.underlying tb = some .bool)
    (h : DataW.trod enc P w base spare held fuel t [v] = some x) : ∃ A c l, v = .slice A l.length c ∧ Sl w A l.length c (fD l) ∧ WfD l := by
  rcases open_slice_fields ht he hone hC h with hcs | ⟨a, len, cap, hcs, hl, hm, hat⟩
  · simp only [List.cons.injEq, and_true] at hcs
    subst hcs
    exact ⟨none, 0, [], rfl, Sl.nil_ w, fun x hx => by cases hx⟩
  · simp only [List.cons.injEq, and_true] at hcs
    subst hcs
    have hg : ∀ i, i < len → (w.cell? (a.add (i * 3)) = some (.int .i64 (cellInt w (a.add (i * 3)))) ∧ InI (cellInt w (a.add (i * 3)))) ∧
        (w.cell? (a.add (i * 3 + 1)) = some (.int .u64 (cellInt w (a.add (i * 3 + 1)))) ∧ InU (cellInt w (a.add (i * 3 + 1)))) ∧ w.cell? (a.add (i * 3 + 2)) = some (.bool (cellBool w (a.add (i * 3 + 2)))) := by
      intro i hil
      obtain ⟨v0, y0, n0, hc0, ht0⟩ := hat i hil 0 f0 rfl
      obtain ⟨v1, y1, n1, hc1, ht1⟩ := hat i hil 1 f1 rfl
      obtain ⟨v2, y2, n2, hc2, ht2⟩ := hat i hil 2 f2 rfl
      rw [h0] at ht0
      rw [h1] at ht1
      rw [h2] at ht2
      obtain ⟨z0, e0, _, w0⟩ := DataW.trod_int hi ht0
      obtain ⟨z1, e1, _, w1⟩ := DataW.trod_int hu ht1
      obtain ⟨z2, e2, _⟩ := DataW.trod_bool hb ht2
      simp only [List.cons.injEq, and_true] at e0 e1 e2
      subst e0 e1 e2
      simp only [List.size_toArray, List.length_cons, List.length_nil, Nat.zero_add, Nat.reduceAdd, Nat.add_zero] at hc0 hc1 hc2
      exact ⟨⟨by simp [cellInt, hc0], by simpa [cellInt, hc0] using inI_of w0⟩, ⟨by simp [cellInt, hc1], by simpa [cellInt, hc1] using inU_of w1⟩, by simp [cellBool, hc2]⟩
    refine ⟨some a, cap, (List.range len).map fun i => (cellInt w (a.add (i * 3)), cellInt w (a.add (i * 3 + 1)), cellBool w (a.add (i * 3 + 2))), by simp, ⟨by simpa using hl, hm, (fun h => by cases h), fun _ => ⟨a, rfl, fun j u hj => ?_⟩⟩, fun x hx => ?_⟩
    · obtain ⟨k, x, hk, ⟨rfl, rfl⟩ | ⟨rfl, rfl⟩ | ⟨rfl, rfl⟩⟩ := fD_inv hj
      · simp only [List.getElem?_map, Option.map_eq_some_iff] at hk
        obtain ⟨i, hi', rfl⟩ := hk
        obtain ⟨hlt, rfl⟩ := List.getElem?_eq_some_iff.1 hi'
        simp at hlt
        simpa using (hg k hlt).1.1
      · simp only [List.getElem?_map, Option.map_eq_some_iff] at hk
        obtain ⟨i, hi', rfl⟩ := hk
        obtain ⟨hlt, rfl⟩ := List.getElem?_eq_some_iff.1 hi'
        simp at hlt
        simpa using (hg k hlt).2.1.1
      · simp only [List.getElem?_map, Option.map_eq_some_iff] at hk
        obtain ⟨i, hi', rfl⟩ := hk
        obtain ⟨hlt, rfl⟩ := List.getElem?_eq_some_iff.1 hi'
        simp at hlt
        simpa using (hg k hlt).2.2
    · obtain ⟨i, hi', rfl⟩ := List.mem_map.1 hx
      have := hg i (by simpa using hi')
      exact ⟨this.1.2, this.2.1.2⟩

/-- A slice argument, out of its reading. -/
theorem slice_cells {r : Reach} {b0 : Nat} {t e : TypeId} {v : Value} {d : DataW H} {p : List MemPlace} (ht : P.underlying t = some (.slice e)) (hv : Value.okWide P w r b0 t v) (h : DataW.Trod enc P w base spare held t v d p) :
    ∃ fuel, DataW.trod enc P w base spare held fuel t [v] = some (d, p) := by
  obtain ⟨a, len, cap, rfl⟩ := okWide_slice ht hv
  exact h
end
end Go.Proofs.Ytibeolemelmpcaa
