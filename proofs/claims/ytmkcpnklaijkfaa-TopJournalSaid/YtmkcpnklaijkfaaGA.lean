/-
  Several texts in one: Mem, Plain, Dev, Dev2, Tys, Row, Open, Leaf, Same, Same7, SameI, Copy, Own, DMem, Image, Image2, Make, MakeE, Ops.
-/
import Derived.WalkKit
import Derived.WalkSpells
import Derived.WalkLawsBesides
import Derived.Lib.Hide
import Derived.Deep.Draws
import Derived.Deep.AppendLies
import Derived.Maps.AppendAt
import Derived.RegionTactic
import Derived.BigQuiet
import Derived.Deep.QuietTactic
import Derived.Laws.BitsAllLaws
import Derived.Laws.BitsLemmas
import Derived.Laws.CopyOwn
import Derived.Test.YtmkcpnklaijkfaaRows
import Derived.ProofKit
import Derived.OpenShut
import Derived.ChangeSame
import Derived.Deep.Slices
import Derived.Deep.Fields
import Derived.Lib.SmallJoins
import Derived.Deep.Light
import Derived.Deep.RegionLaw
/-
  Memory words of this seat: a slice that reads as a list; it is kept over draws, new blocks, calls that leave old memory alone.
-/
namespace Go.Proofs.Ytmkcpnklaijkfaa
open Go.RowKit

theorem block_of_add (a : Addr) (n : Nat) : (a.add n).block = a.block := by unfold Addr.add; split <;> rfl
theorem add_of_add (a : Addr) (i j : Nat) : (a.add i).add j = a.add (i + j) := by
  unfold Addr.add
  by_cases hi : i = 0 <;> by_cases hj : j = 0 <;> simp [hi, hj, Nat.add_assoc]

theorem add_lit_ (a : Addr) (n : Nat) : a.add (n + 1) = ⟨a.block, a.off + (n + 1), none⟩ := by simp [Addr.add]
/-- The cells from A on are xs. -/
def Cells (w : World) (A : Option Addr) (xs : List Value) : Prop :=
  xs ≠ [] → ∃ ad, A = some ad ∧ ∀ j u, xs[j]? = some u → w.cell? (ad.add j) = some u

/-- The slice value '.slice A n c' holds the cells xs. -/
structure Sl (w : World) (A : Option Addr) (n c : Nat) (xs : List Value) : Prop where
  le : n ≤ c
  max : c ≤ maxLen
  nil : A = none → c = 0
  cells : Cells w A xs

/-- What stood in w stands in w'. -/
def Ext (w w' : World) : Prop := Below w.heap.size w w'
theorem Ext.refl (w : World) : Ext w w := Below.refl _ _
theorem Ext.trans {a b c : World} (h : Ext a b) (k : Ext b c) : Ext a c :=
  Below.trans h (Below.mono k (Below.size h))
theorem Ext.drew {a w : World} (h : Ext a w) : Ext a w.drew := Below.drew h
theorem Ext.drewN {a w : World} (h : Ext a w) (k : Nat) : Ext a (w.drewN k) := ⟨h.os, h.tape, h.output, h.size, h.block⟩
theorem Ext.alloc {a w : World} (h : Ext a w) (o : Obj) : Ext a (w.alloc o) := Below.alloc h (Below.size h) o
theorem Ext.grown {a w w' : World} (h : Ext a w) {row : Option Nat} (hg : w.grownBy w' row) (hr : ∀ k, row = some k → a.heap.size ≤ k) : Ext a w' :=
  Below.grown h hg (Below.size h) hr
theorem Ext.setCell {a w : World} (h : Ext a w) {p : Addr} (hp : a.heap.size ≤ p.block) (u : Value) : Ext a (w.setCell p u) := Below.setCell h hp u
theorem Ext.size {a w : World} (h : Ext a w) : a.heap.size ≤ w.heap.size := Below.size h
theorem Ext.heap {a w : World} (h : Ext a w) {k : Nat} {o : Obj} (hk : a.heap[k]? = some o) : w.heap[k]? = some o := by
  have : k < a.heap.size := by
    rcases Nat.lt_or_ge k a.heap.size with hlt | hge
    · exact hlt
    · rw [Array.getElem?_eq_none hge] at hk; cases hk
  rw [h.block k this]; exact hk
theorem Ext.cell {a w : World} (h : Ext a w) {p : Addr} {u : Value} (hp : a.cell? p = some u) : w.cell? p = some u := by
  rw [Below.cell h (block_lt_of_cell hp)]; exact hp
theorem ext_drewN (w : World) (k : Nat) : Ext w (w.drewN k) := (Ext.refl w).drewN k

theorem Cells.ext {w w' : World} {A : Option Addr} {xs : List Value} (h : Cells w A xs) (e : Ext w w') : Cells w' A xs := fun hx => by
  obtain ⟨ad, hA, hc⟩ := h hx
  exact ⟨ad, hA, fun j u hu => e.cell (hc j u hu)⟩
theorem Sl.ext {w w' : World} {A : Option Addr} {n c : Nat} {xs : List Value} (h : Sl w A n c xs) (e : Ext w w') : Sl w' A n c xs :=
  ⟨h.le, h.max, h.nil, h.cells.ext e⟩
theorem Sl.nil_ (w : World) : Sl w none 0 0 [] := ⟨Nat.le_refl _, Nat.zero_le _, fun _ => rfl, fun h => absurd rfl h⟩
theorem Sl.setCell {w : World} {A : Option Addr} {n c : Nat} {xs : List Value} (h : Sl w A n c xs) {p : Addr} (hp : ∀ ad, A = some ad → ad.block ≠ p.block) (u : Value) : Sl (w.setCell p u) A n c xs :=
  ⟨h.le, h.max, h.nil, fun hx => by
    obtain ⟨ad, hA, hc⟩ := h.cells hx
    refine ⟨ad, hA, fun j u' hu => ?_⟩
    rw [World.cell?_setCell_other]
    · exact hc j u' hu
    · intro e
      have h1 := hp ad hA
      rw [e] at h1
      exact h1 (block_of_add ad j).symm⟩
theorem Sl.of_own {w : World} {base : Nat} {e : TypeId} {size : Nat} {v : Value} {n : Nat} {xs : List Value} (h : w.ownsRow base e size v n xs) :
    ∃ A c, v = .slice A n c ∧ Sl w A n c xs := by
  obtain ⟨hl, ⟨rfl, rfl⟩ | ⟨g, cap, cur, rfl, hb, hg, hn, hm, hs, ht⟩⟩ := h
  · have hx : xs = [] := List.eq_nil_of_length_eq_zero (by simpa using hl)
    subst hx
    exact ⟨none, 0, rfl, Sl.nil_ w⟩
  · refine ⟨_, _, rfl, hn, hm, (fun h => by cases h), fun _ => ⟨_, rfl, ?_⟩⟩
    have ho : w.ownsRow base e size (.slice (some ⟨g, 0, none⟩) n cap) n xs := ⟨hl, .inr ⟨g, cap, cur, rfl, hb, hg, hn, hm, hs, ht⟩⟩
    exact ho.cells rfl
theorem own_ext {w w' : World} {base : Nat} {e : TypeId} {size : Nat} {v : Value} {n : Nat} {xs : List Value} (h : w.ownsRow base e size v n xs) (k : Ext w w') : w'.ownsRow base e size v n xs := by
  obtain ⟨hl, h2⟩ := h
  refine ⟨hl, ?_⟩
  rcases h2 with h2 | ⟨g, cap, cur, hv, hb, hg, r⟩
  · exact .inl h2
  · exact .inr ⟨g, cap, cur, hv, hb, k.heap hg, r⟩
theorem own_base {w : World} {base base' : Nat} {e : TypeId} {size : Nat} {v : Value} {n : Nat} {xs : List Value} (h : w.ownsRow base e size v n xs) (k : base' ≤ base) : w.ownsRow base' e size v n xs := by
  obtain ⟨hl, h2⟩ := h
  refine ⟨hl, ?_⟩
  rcases h2 with h2 | ⟨g, cap, cur, hv, hb, r⟩
  · exact .inl h2
  · exact .inr ⟨g, cap, cur, hv, by omega, r⟩

/- lists as cells: words, numbers, entries, dirty words -/
def fU (m : List Int) : List Value := m.map (Value.int .u64)
def fI (m : List Int) : List Value := m.map (Value.int .i64)
def fE : List (Int × Int) → List Value
  | [] => []
  | e :: l => .int .i64 e.1 :: .int .u64 e.2 :: fE l
def fD : List (Int × Int × Bool) → List Value
  | [] => []
  | e :: l => .int .i64 e.1 :: .int .u64 e.2.1 :: .bool e.2.2 :: fD l

theorem fU_length (m : List Int) : (fU m).length = m.length := by simp [fU]
theorem fI_length (m : List Int) : (fI m).length = m.length := by simp [fI]
attribute [simp] fU_length fI_length
theorem fE_length (l : List (Int × Int)) : (fE l).length = l.length * 2 := by induction l with | nil => rfl | cons _ _ ih => simp [fE, ih]; omega
theorem fD_length (l : List (Int × Int × Bool)) : (fD l).length = l.length * 3 := by induction l with | nil => rfl | cons _ _ ih => simp [fD, ih]; omega
theorem fU_append (a b : List Int) : fU (a ++ b) = fU a ++ fU b := by simp [fU]
theorem fI_append (a b : List Int) : fI (a ++ b) = fI a ++ fI b := by simp [fI]
theorem fE_append (a b : List (Int × Int)) : fE (a ++ b) = fE a ++ fE b := by induction a with | nil => rfl | cons _ _ ih => simp [fE, ih]
theorem fD_append (a b : List (Int × Int × Bool)) : fD (a ++ b) = fD a ++ fD b := by induction a with | nil => rfl | cons _ _ ih => simp [fD, ih]
theorem fU_get {m : List Int} {k : Nat} {x : Int} (h : m[k]? = some x) : (fU m)[k]? = some (.int .u64 x) := by simp [fU, h]
theorem fI_get {m : List Int} {k : Nat} {x : Int} (h : m[k]? = some x) : (fI m)[k]? = some (.int .i64 x) := by simp [fI, h]
theorem fE_get {l : List (Int × Int)} {k : Nat} {x : Int × Int} (h : l[k]? = some x) : (fE l)[k * 2]? = some (.int .i64 x.1) ∧ (fE l)[k * 2 + 1]? = some (.int .u64 x.2) := by
  induction l generalizing k with
  | nil => simp at h
  | cons e l ih =>
    cases k with
    | zero => simp at h; subst h; exact ⟨rfl, rfl⟩
    | succ k =>
      have := ih (k := k) (by simpa using h)
      rw [show (k + 1) * 2 = k * 2 + 1 + 1 from by omega]
      exact ⟨by simpa [fE] using this.1, by simpa [fE] using this.2⟩
theorem fD_get {l : List (Int × Int × Bool)} {k : Nat} {x : Int × Int × Bool} (h : l[k]? = some x) :
    (fD l)[k * 3]? = some (.int .i64 x.1) ∧ (fD l)[k * 3 + 1]? = some (.int .u64 x.2.1) ∧ (fD l)[k * 3 + 2]? = some (.bool x.2.2) := by
  induction l generalizing k with
  | nil => simp at h
  | cons e l ih =>
    cases k with
    | zero => simp at h; subst h; exact ⟨rfl, rfl, rfl⟩
    | succ k =>
      have := ih (k := k) (by simpa using h)
      rw [show (k + 1) * 3 = k * 3 + 1 + 1 + 1 from by omega]
      exact ⟨by simpa [fD] using this.1, by simpa [fD] using this.2.1, by simpa [fD] using this.2.2⟩
theorem fU_one (m : List Int) : ∀ u ∈ fU m, u.oneCell' = true := ints_oneCell _ _
theorem fI_one (m : List Int) : ∀ u ∈ fI m, u.oneCell' = true := ints_oneCell _ _
theorem fE_one (l : List (Int × Int)) : ∀ u ∈ fE l, u.oneCell' = true := by
  induction l with
  | nil => intro u h; cases h
  | cons e l ih => intro u h; simp only [fE, List.mem_cons] at h; rcases h with rfl | rfl | h; rfl; rfl; exact ih u h
theorem fD_one (l : List (Int × Int × Bool)) : ∀ u ∈ fD l, u.oneCell' = true := by
  induction l with
  | nil => intro u h; cases h
  | cons e l ih => intro u h; simp only [fD, List.mem_cons] at h; rcases h with rfl | rfl | rfl | h; rfl; rfl; rfl; exact ih u h

section
variable {w : World} {A : Option Addr} {n c : Nat}
/-- The word at an index. -/
theorem Sl.u_at {m : List Int} (h : Sl w A n c (fU m)) {k : Nat} (hk : k < m.length) : ∃ ad x, A = some ad ∧ m[k]? = some x ∧ w.cell? (ad.add k) = some (.int .u64 x) := by
  obtain ⟨ad, hA, hc⟩ := h.cells (by intro h0; have := congrArg List.length h0; simp at this; subst this; simp at hk)
  exact ⟨ad, m[k], hA, List.getElem?_eq_getElem hk, hc k _ (fU_get (List.getElem?_eq_getElem hk))⟩
theorem Sl.i_at {m : List Int} (h : Sl w A n c (fI m)) {k : Nat} (hk : k < m.length) : ∃ ad x, A = some ad ∧ m[k]? = some x ∧ w.cell? (ad.add k) = some (.int .i64 x) := by
  obtain ⟨ad, hA, hc⟩ := h.cells (by intro h0; have := congrArg List.length h0; simp at this; subst this; simp at hk)
  exact ⟨ad, m[k], hA, List.getElem?_eq_getElem hk, hc k _ (fI_get (List.getElem?_eq_getElem hk))⟩
theorem Sl.e_at {l : List (Int × Int)} (h : Sl w A n c (fE l)) {k : Nat} (hk : k < l.length) :
    ∃ ad x, A = some ad ∧ l[k]? = some x ∧ w.cell? (ad.add (k * 2)) = some (.int .i64 x.1) ∧ w.cell? ⟨(ad.add (k * 2)).block, (ad.add (k * 2)).off + 1, none⟩ = some (.int .u64 x.2) := by
  obtain ⟨ad, hA, hc⟩ := h.cells (by intro h0; have := congrArg List.length h0; simp [fE_length] at this; omega)
  have g := fE_get (List.getElem?_eq_getElem hk)
  exact ⟨ad, l[k], hA, List.getElem?_eq_getElem hk, hc _ _ g.1, by rw [← add_lit_, add_of_add]; exact hc _ _ g.2⟩
theorem Sl.d_at {l : List (Int × Int × Bool)} (h : Sl w A n c (fD l)) {k : Nat} (hk : k < l.length) :
    ∃ ad x, A = some ad ∧ l[k]? = some x ∧ w.cell? (ad.add (k * 3)) = some (.int .i64 x.1) ∧ w.cell? ⟨(ad.add (k * 3)).block, (ad.add (k * 3)).off + 1, none⟩ = some (.int .u64 x.2.1) ∧ w.cell? ⟨(ad.add (k * 3)).block, (ad.add (k * 3)).off + 2, none⟩ = some (.bool x.2.2) := by
  obtain ⟨ad, hA, hc⟩ := h.cells (by intro h0; have := congrArg List.length h0; simp [fD_length] at this; omega)
  have g := fD_get (List.getElem?_eq_getElem hk)
  exact ⟨ad, l[k], hA, List.getElem?_eq_getElem hk, hc _ _ g.1, by rw [← add_lit_, add_of_add]; exact hc _ _ g.2.1, by rw [← add_lit_, add_of_add]; exact hc _ _ g.2.2⟩
end

/-- Only draws lie between w and w'. -/
def Drew (w w' : World) : Prop := ∃ k, w' = w.drewN k
theorem Drew.refl (w : World) : Drew w w := ⟨0, rfl⟩
theorem drew_N (w : World) (k : Nat) : Drew w (w.drewN k) := ⟨k, rfl⟩
theorem drew_1 (w : World) : Drew w w.drew := ⟨1, rfl⟩
theorem Drew.trans {a b c : World} (h : Drew a b) (k : Drew b c) : Drew a c := by
  obtain ⟨n, rfl⟩ := h
  obtain ⟨m, rfl⟩ := k
  exact ⟨n + m, by rw [World.drewN_drewN]⟩
theorem Drew.ext {a b : World} (h : Drew a b) : Ext a b := by
  obtain ⟨n, rfl⟩ := h
  exact ext_drewN a n
theorem Sl.drewN {w : World} {A : Option Addr} {n c : Nat} {xs : List Value} (h : Sl w A n c xs) (k : Nat) : Sl (w.drewN k) A n c xs := h.ext (ext_drewN w k)
theorem Sl.drew {w : World} {A : Option Addr} {n c : Nat} {xs : List Value} (h : Sl w A n c xs) : Sl w.drew A n c xs := h.ext ((Ext.refl w).drew)
theorem Sl.alloc {w : World} {A : Option Addr} {n c : Nat} {xs : List Value} (h : Sl w A n c xs) (o : Obj) : Sl (w.alloc o) A n c xs := h.ext ((Ext.refl w).alloc o)
theorem Sl.lit (w : World) (cs : Array Value) (e : TypeId) (n : Nat) (hn : n ≤ maxLen) : Sl (w.alloc (.cells cs e)) (some ⟨w.heap.size, 0, none⟩) n n cs.toList :=
  ⟨Nat.le_refl _, hn, (fun h => by cases h), fun _ => ⟨_, rfl, fun j u hu => by
    rw [Addr.add_lit, cell_of_row _ _ _ cs e (0, 0) (heap_alloc_new w _)]
    simpa using hu⟩⟩

theorem ret_bool {a b : Bool} (h : a = b) : Ending.returned (.bool a) = .returned (.bool b) := by rw [h]
theorem ret_int {k : IntKind} {a b : Int} (h : a = b) : Ending.returned (.int k a) = .returned (.int k b) := by rw [h]

/-- The call returned a slice of its own. -/
def RetOwn (w0 : World) (e : TypeId) (size n : Nat) (xs : List Value) (en : Ending) (w' : World) : Prop :=
  ∃ A c, en = .returned (.slice A n c) ∧ w'.ownsRow w0.heap.size e size (.slice A n c) n xs ∧ Sl w' A n c xs ∧ Ext w0 w'
/-- The call returned a slice of its own, and a number. -/
def RetOwn2 (w0 : World) (e : TypeId) (size n : Nat) (xs : List Value) (er : Int) (en : Ending) (w' : World) : Prop :=
  ∃ A c, en = .returned (.tuple #[.slice A n c, .int .i64 er]) ∧ w'.ownsRow w0.heap.size e size (.slice A n c) n xs ∧ Sl w' A n c xs ∧ Ext w0 w'
theorem retOwn_mk {w0 w' : World} {e : TypeId} {size n : Nat} {xs : List Value} {v : Value} (h : w'.ownsRow w0.heap.size e size v n xs) (hx : Ext w0 w') : RetOwn w0 e size n xs (.returned v) w' := by
  obtain ⟨A, c, rfl, hs⟩ := Sl.of_own h
  exact ⟨A, c, rfl, h, hs, hx⟩
theorem retOwn2_mk {w0 w' : World} {e : TypeId} {size n : Nat} {xs : List Value} {v : Value} {er : Int} (h : w'.ownsRow w0.heap.size e size v n xs) (hx : Ext w0 w') : RetOwn2 w0 e size n xs er (.returned (.tuple #[v, .int .i64 er])) w' := by
  obtain ⟨A, c, rfl, hs⟩ := Sl.of_own h
  exact ⟨A, c, rfl, h, hs, hx⟩

/-- t is the slice type of e; an element has size cells, bytes bytes. -/
structure ElT (P : Program) (t e : TypeId) (size bytes : Nat) : Prop where
  und : P.underlying t = some (.slice e)
  inf : ∃ i z, P.info? e = some i ∧ i.zero = some z ∧ i.size = size ∧ i.bytes = bytes ∧ z.cells.size = size
  pos : 0 < size
  byt : 0 < bytes
theorem ElT.mk' {P : Program} {t e : TypeId} {size bytes : Nat} {z : Value} (h : P.underlying t = some (.slice e)) (hi : (P.info? e).map (fun i => (i.zero, i.size, i.bytes)) = some (some z, size, bytes))
    (hz : z.cells.size = size) (h1 : 0 < size) (h2 : 0 < bytes) : ElT P t e size bytes := by
  obtain ⟨i, a, b, c, d⟩ := info_parts hi
  exact ⟨h, ⟨i, z, a, b, c, d, hz⟩, h1, h2⟩

section
variable {P : Program} {w : World} {t e : TypeId} {size bytes : Nat}
theorem run_app (E : ElT P t e size bytes) (ty : TypeId) {base n : Nat} {v : Value} {xs : List Value} (hown : w.ownsRow base e size v n xs)
    {A : Option Addr} {m c : Nat} {news : List Value} (hr : Sl w A m c news) (hl : news.length = m * size) (h1 : ∀ u ∈ news, u.oneCell' = true)
    (hb : (n + m) * bytes ≤ 140737488355328) (hbase : base ≤ w.heap.size) :
    ∃ v' w', (Builtin.append_ #[t, t] ty #[v, .slice A m c]).run P w = .ok v' w' ∧ w'.ownsRow base e size v' (n + m) (xs ++ news) ∧ Below base w w' ∧
      (v'.ownBlock = v.ownBlock ∨ v'.ownBlock = some w.heap.size) ∧ w.grownBy w' v.ownBlock := by
  obtain ⟨i, z, hi, hz, hsize, hby, hzs⟩ := E.inf
  have h63 : n + m ≤ maxLen := by
    have : n + m ≤ (n + m) * bytes := Nat.le_mul_of_pos_right _ E.byt
    unfold maxLen
    omega
  rcases A with _ | ad
  · have hc := hr.nil rfl
    have hm : m = 0 := by have := hr.le; omega
    subst hm
    have hn : news = [] := List.eq_nil_of_length_eq_zero (by simpa using hl)
    subst hn
    refine ⟨v, w, ?_, by simpa using hown, Below.refl _ _, .inl rfl, World.grownBy.refl w _⟩
    rcases hown.2 with ⟨rfl, rfl⟩ | ⟨g, cap, cur, rfl, _, _, hnc, _⟩
    · simp [Builtin.append_, run_underlying E.und, sizeOf, typeInfo, hi, Builtin.lenOf, Builtin.firstCells]
    · simp [Builtin.append_, run_underlying E.und, sizeOf, typeInfo, hi, Builtin.lenOf, Builtin.firstCells, hnc, storeCells]
  · have hcells : ∀ j u, news[j]? = some u → w.cell? (ad.add j) = some u := by
      intro j u hu
      rcases Nat.eq_zero_or_pos m with h0 | h0
      · subst h0
        have hn : news = [] := List.eq_nil_of_length_eq_zero (by simpa using hl)
        subst hn
        simp at hu
      · obtain ⟨ad', h, hc⟩ := hr.cells (by intro hn; subst hn; have := E.pos; have : 0 < m * size := Nat.mul_pos h0 this; simp at hl; omega)
        injection h with h
        subst h
        exact hc j u hu
    obtain ⟨v', w', hrun, h2, h3, _, h5⟩ := run_append_own_at (P := P) w base t ty e i z size bytes E.und hi hz hsize hby hzs E.pos v n xs hown ad m c news hl hcells h1 h63 hb hbase
    refine ⟨v', w', hrun, h2, (Below.refl base w).grown h3 hbase (fun k hk => (hown.lt k hk).1), h5, h3⟩

theorem wp_app (E : ElT P t e size bytes) {o : Oper} {a : Act} {K : Act → World → Prop} {Q : Exit → Act → World → Prop} (s x : Operand)
    (ho : o.op = .call { callee := .builtin .append, args := #[s, x], argTypes := #[t, t] })
    {base n : Nat} {v : Value} {xs : List Value} (hs : a.eval s = v) (hown : w.ownsRow base e size v n xs)
    {A : Option Addr} {m c : Nat} {news : List Value} (hx : a.eval x = .slice A m c) (hr : Sl w A m c news) (hl : news.length = m * size) (h1 : ∀ u ∈ news, u.oneCell' = true)
    (hb : (n + m) * bytes ≤ 140737488355328) (hbase : base ≤ w.heap.size)
    (h : ∀ v' w', w'.ownsRow base e size v' (n + m) (xs ++ news) → Below base w w' → (v'.ownBlock = v.ownBlock ∨ v'.ownBlock = some w.heap.size) → w.grownBy w' v.ownBlock → K (a.put o.dst v') w') : o.wp P a w K Q := by
  obtain ⟨v', w', hrun, h2, h3, h4, h5⟩ := run_app E o.type hown hr hl h1 hb hbase
  unfold Oper.wp execOp
  simp only [ho, resolve, invoke, builtin, Sem.run_bind, Sem.run_pure, Result.andThen_ok, List.map_toArray, List.map_cons, List.map_nil, hs, hx, hrun]
  exact h v' w' h2 h3 h4 h5

theorem wpList_app (E : ElT P t e size bytes) {ops : Array Oper} {rest : List Oper} {o : Oper} {a : Act} {Q : Exit → Act → World → Prop} (hgd : o.guard = none) (s x : Operand)
    (ho : o.op = .call { callee := .builtin .append, args := #[s, x], argTypes := #[t, t] })
    {base n : Nat} {v : Value} {xs : List Value} (hs : a.eval s = v) (hown : w.ownsRow base e size v n xs)
    {A : Option Addr} {m c : Nat} {news : List Value} (hx : a.eval x = .slice A m c) (hr : Sl w A m c news) (hl : news.length = m * size) (h1 : ∀ u ∈ news, u.oneCell' = true)
    (hb : (n + m) * bytes ≤ 140737488355328) (hbase : base ≤ w.heap.size)
    (h : ∀ v' w', w'.ownsRow base e size v' (n + m) (xs ++ news) → Below base w w' → (v'.ownBlock = v.ownBlock ∨ v'.ownBlock = some w.heap.size) → w.grownBy w' v.ownBlock → wpList P ops Q rest (a.put o.dst v') w') : wpList P ops Q (o :: rest) a w :=
  wpList_plain hgd fun _ hK => wp_app E s x ho hs hown hx hr hl h1 hb hbase fun v' w' h2 h3 h4 h5 => hK _ _ (h v' w' h2 h3 h4 h5)

theorem step_app (E : ElT P t e size bytes) {ops : Array Oper} {o : Oper} {a : Act} {K : Act → World → Prop} {Q : Exit → Act → World → Prop} {F : Prop} (hgd : o.guard = none) (s x : Operand)
    (ho : o.op = .call { callee := .builtin .append, args := #[s, x], argTypes := #[t, t] })
    {base n : Nat} {v : Value} {xs : List Value} (hs : a.eval s = v) (hown : w.ownsRow base e size v n xs)
    {A : Option Addr} {m c : Nat} {news : List Value} (hx : a.eval x = .slice A m c) (hr : Sl w A m c news) (hl : news.length = m * size) (h1 : ∀ u ∈ news, u.oneCell' = true)
    (hb : (n + m) * bytes ≤ 140737488355328) (hbase : base ≤ w.heap.size)
    (h : ∀ v' w', w'.ownsRow base e size v' (n + m) (xs ++ news) → Below base w w' → (v'.ownBlock = v.ownBlock ∨ v'.ownBlock = some w.heap.size) → w.grownBy w' v.ownBlock → K (a.put o.dst v') w') :
    if Region.wanted o (yielded ops a.tmps) = true then Oper.wp P o a w K Q else F := by
  have hw : Region.wanted o (yielded ops a.tmps) = true := by simp [Region.wanted, hgd]
  rw [if_pos hw]
  exact wp_app E s x ho hs hown hx hr hl h1 hb hbase h
end

theorem own_lit {w : World} {base : Nat} {e : TypeId} {size : Nat} (cs : Array Value) (g n : Nat) (hg : g = w.heap.size) (hb : base ≤ w.heap.size) (hm : n ≤ maxLen) (hs : cs.size = n * size) :
    (w.alloc (.cells cs e)).ownsRow base e size (.slice (some ⟨g, 0, none⟩) n n) n cs.toList := by
  subst hg
  exact World.ownsRow_lit w cs n hb hm hs
theorem own_nil (w : World) (base : Nat) (e : TypeId) (size : Nat) : w.ownsRow base e size (.slice none 0 0) 0 [] := World.ownsRow_nil w base e size
theorem Sl.lit' {w : World} (cs : Array Value) (e : TypeId) (g n : Nat) (hg : g = w.heap.size) (hn : n ≤ maxLen) : Sl (w.alloc (.cells cs e)) (some ⟨g, 0, none⟩) n n cs.toList := by
  subst hg
  exact Sl.lit w cs e n hn

theorem Ext.bcell {W w1 : World} (h : Ext W w1) : (∀ b o, b < W.heap.size → w1.cell? ⟨b, o, none⟩ = W.cell? ⟨b, o, none⟩) ∧ (∀ b o, b < W.heap.size → w1.frozen? ⟨b, o, none⟩ = W.frozen? ⟨b, o, none⟩) :=
  ⟨fun b o hb => Below.cell (p := ⟨b, o, none⟩) h hb, fun b o hb => Below.frozen (p := ⟨b, o, none⟩) h hb⟩

theorem quiet_D {P : Program} {f : FuncId} {args : Array Value} {w : World} {n : Nat} {v : Value}
    (h : Calls P f args (w.drewN n) fun e w' => e = .returned v ∧ Drew (w.drewN n) w') : Calls P f args (w.drewN n) fun e w'' => e = .returned v ∧ ∃ m, w'' = w.drewN m :=
  h.mono fun _ _ ⟨he, m, hm⟩ => ⟨he, n + m, by rw [hm, World.drewN_drewN]⟩
theorem quiet_S {P : Program} {f : FuncId} {args : Array Value} {w : World} {n : Nat} {v : Value}
    (h : Calls P f args (w.drewN n) fun e w' => e = .returned v ∧ w.drewN n = w') : Calls P f args (w.drewN n) fun e w'' => e = .returned v ∧ ∃ m, w'' = w.drewN m :=
  h.mono fun _ _ ⟨he, hm⟩ => ⟨he, n, hm.symm⟩

theorem fE_inv {l : List (Int × Int)} {j : Nat} {u : Value} (h : (fE l)[j]? = some u) :
    ∃ k x, l[k]? = some x ∧ ((j = k * 2 ∧ u = .int .i64 x.1) ∨ (j = k * 2 + 1 ∧ u = .int .u64 x.2)) := by
  induction l generalizing j with
  | nil => simp [fE] at h
  | cons e l ih =>
    match j with
    | 0 => exact ⟨0, e, rfl, .inl ⟨rfl, by simpa [fE] using h.symm⟩⟩
    | 1 => exact ⟨0, e, rfl, .inr ⟨rfl, by simpa [fE] using h.symm⟩⟩
    | j + 2 =>
      obtain ⟨k, x, hx, hh⟩ := ih (j := j) (by simpa [fE] using h)
      exact ⟨k + 1, x, by simpa using hx, hh.imp (fun ⟨a, b⟩ => ⟨by omega, b⟩) (fun ⟨a, b⟩ => ⟨by omega, b⟩)⟩
theorem fD_inv {l : List (Int × Int × Bool)} {j : Nat} {u : Value} (h : (fD l)[j]? = some u) :
    ∃ k x, l[k]? = some x ∧ ((j = k * 3 ∧ u = .int .i64 x.1) ∨ (j = k * 3 + 1 ∧ u = .int .u64 x.2.1) ∨ (j = k * 3 + 2 ∧ u = .bool x.2.2)) := by
  induction l generalizing j with
  | nil => simp [fD] at h
  | cons e l ih =>
    match j with
    | 0 => exact ⟨0, e, rfl, .inl ⟨rfl, by simpa [fD] using h.symm⟩⟩
    | 1 => exact ⟨0, e, rfl, .inr (.inl ⟨rfl, by simpa [fD] using h.symm⟩)⟩
    | 2 => exact ⟨0, e, rfl, .inr (.inr ⟨rfl, by simpa [fD] using h.symm⟩)⟩
    | j + 3 =>
      obtain ⟨k, x, hx, hh⟩ := ih (j := j) (by simpa [fD] using h)
      exact ⟨k + 1, x, by simpa using hx, hh.imp (fun ⟨a, b⟩ => ⟨by omega, b⟩) (fun hh => hh.imp (fun ⟨a, b⟩ => ⟨by omega, b⟩) (fun ⟨a, b⟩ => ⟨by omega, b⟩))⟩
end Go.Proofs.Ytmkcpnklaijkfaa
/-
  The plain functions: what the program's functions compute, on lists and integers. No Go here.
-/
namespace Go.Proofs.Ytmkcpnklaijkfaa

/-- Is n a number of words of an image? -/
def sizeB (n : Int) : Bool := decide (256 ≤ n) && decide (n ≤ 2048) && decide (n % 8 = 0)
def imgE (n : Int) : Int := if sizeB n then 0 else 8
def szE (n : Int) : Int := if sizeB n then 0 else 2
/-- May the address be changed? -/
def mayB (at_ words : Int) : Bool := decide (16 ≤ at_) && decide (at_ < words) && (decide (at_ < 24) || decide (96 ≤ at_))
/-- Are n words from an address there? -/
def rngE (len at_ n : Int) : Int := if sizeB len then (if at_ < 0 ∨ n < 0 ∨ at_ > len ∨ n > len - at_ then 2 else 0) else 8
/-- Is n a cursor of the heap? -/
def curB (n : Int) : Bool := decide (128 ≤ n) && decide (n ≤ 2048) && decide (n % 2 = 0)
/-- Is the phase valid? -/
def phB (a b c : Int) : Bool :=
  if a = 4 then curB b && curB c && decide (c ≤ b) else if c ≠ 0 then false else if a = 3 then b == 0 || curB b else decide (0 ≤ a) && decide (a < 3) && b == 0
def phE (a b c : Int) : Int := if phB a b c then 0 else 8

/-- Is there an entry at an address? -/
def hasAt (l : List (Int × Int)) (x : Int) : Bool := l.any fun e => e.1 == x
/-- Are the addresses all free, and different (from those seen, too)? -/
def okFrom (words : Int) : List Int → List (Int × Int) → Bool
  | _, [] => true
  | seen, e :: l => mayB e.1 words && !seen.contains e.1 && okFrom words (e.1 :: seen) l
/-- The error of a list of entries as a change. -/
def chkE (l : List (Int × Int)) (words : Int) : Int := if sizeB words then (if l.length > 32 then 4 else if okFrom words [] l then 0 else 8) else 2
/-- The words of entries. -/
def listed : List (Int × Int) → List Int
  | [] => []
  | e :: l => e.1 :: e.2 :: listed l
/-- An image with the values of entries. -/
def applied (m : List Int) (l : List (Int × Int)) : List Int := l.foldl (fun m e => m.set e.1.toNat e.2) m

theorem sizeB_bd {n : Int} (h : sizeB n = true) : 256 ≤ n ∧ n ≤ 2048 ∧ n % 8 = 0 := by
  simp [sizeB] at h; omega
theorem mayB_bd {a n : Int} (h : mayB a n = true) : 16 ≤ a ∧ a < n ∧ (a < 24 ∨ 96 ≤ a) := by
  simp [mayB] at h; omega
theorem curB_bd {n : Int} (h : curB n = true) : 128 ≤ n ∧ n ≤ 2048 ∧ n % 2 = 0 := by
  simp [curB] at h; omega
theorem phE_of {a b c : Int} {v : Bool} (h : phB a b c = v) : phE a b c = if v then 0 else 8 := by unfold phE; rw [h]
theorem phE_cases (a b c : Int) : phE a b c = 0 ∨ phE a b c = 8 := by unfold phE; split <;> simp
theorem imgE_cases (n : Int) : imgE n = 0 ∨ imgE n = 8 := by unfold imgE; split <;> simp
theorem szE_cases (n : Int) : szE n = 0 ∨ szE n = 2 := by unfold szE; split <;> simp
theorem listed_length (l : List (Int × Int)) : (listed l).length = 2 * l.length := by
  induction l with
  | nil => rfl
  | cons e l ih => simp [listed, ih]; omega
theorem listed_append (a b : List (Int × Int)) : listed (a ++ b) = listed a ++ listed b := by
  induction a with
  | nil => rfl
  | cons e l ih => simp [listed, ih]
theorem applied_length (l : List (Int × Int)) : ∀ m, (applied m l).length = m.length := by
  induction l with
  | nil => intro m; rfl
  | cons e l ih => intro m; simp only [applied, List.foldl_cons] at ih ⊢; rw [ih]; simp
theorem applied_snoc (m : List Int) (l : List (Int × Int)) (e : Int × Int) : applied m (l ++ [e]) = (applied m l).set e.1.toNat e.2 := by
  simp [applied]

/-- Equality of entries, of phases, of dirty words, as Go tells it. -/
def eqE (a b c d : Int) : Bool := a == c && b == d
def neE (a b c d : Int) : Bool := !(a == c && b == d)
def eqP (a b c d e f : Int) : Bool := a == d && b == e && c == f
def neP (a b c d e f : Int) : Bool := !(a == d && b == e && c == f)
def eqD (a b : Int) (c : Bool) (d e : Int) (f : Bool) : Bool := a == d && b == e && c == f
def neD (a b : Int) (c : Bool) (d e : Int) (f : Bool) : Bool := !(a == d && b == e && c == f)
theorem neE_self (x : Int × Int) : neE x.1 x.2 x.1 x.2 = false := by simp [neE]
theorem neE_of {x y : Int × Int} (h : x ≠ y) : neE x.1 x.2 y.1 y.2 = true := by
  simp only [neE, Bool.not_eq_true', Bool.and_eq_false_iff, beq_eq_false_iff_ne]
  by_cases h1 : x.1 = y.1
  · exact .inr fun h2 => h (Prod.ext h1 h2)
  · exact .inl h1
theorem eqE_self (a b : Int) : eqE a b a b = true := by simp [eqE]
theorem eqP_self (a b c : Int) : eqP a b c a b c = true := by simp [eqP]
theorem neD_self (x : Int × Int × Bool) : neD x.1 x.2.1 x.2.2 x.1 x.2.1 x.2.2 = false := by simp [neD]
theorem neD_of {x y : Int × Int × Bool} (h : x ≠ y) : neD x.1 x.2.1 x.2.2 y.1 y.2.1 y.2.2 = true := by
  simp only [neD, Bool.not_eq_true', Bool.and_eq_false_iff, beq_eq_false_iff_ne]
  by_cases h1 : x.1 = y.1
  · by_cases h2 : x.2.1 = y.2.1
    · exact .inr fun h3 => h (Prod.ext h1 (Prod.ext h2 h3))
    · exact .inl (.inr h2)
  · exact .inl (.inl h1)

/-- The numbers fit their kinds. -/
def InI (x : Int) : Prop := -9223372036854775808 ≤ x ∧ x ≤ 9223372036854775807
def InU (x : Int) : Prop := 0 ≤ x ∧ x ≤ 18446744073709551615
def WfU (m : List Int) : Prop := ∀ x ∈ m, InU x
def WfI (m : List Int) : Prop := ∀ x ∈ m, InI x
def WfE (l : List (Int × Int)) : Prop := ∀ x ∈ l, InI x.1 ∧ InU x.2
def WfD (l : List (Int × Int × Bool)) : Prop := ∀ x ∈ l, InI x.1 ∧ InU x.2.1
end Go.Proofs.Ytmkcpnklaijkfaa
/-
  Devices, in plain terms: the words that are safe, the dirty ones, how many operations are left, and whether it is down.
-/
namespace Go.Proofs.Ytmkcpnklaijkfaa

/-- A dirty word: address, value, flushed. -/
abbrev Dw := Int × Int × Bool
/-- Do the addresses go up from behind 'last', below n? -/
def ascB (n : Int) : Int → List Dw → Bool
  | _, [] => true
  | last, x :: l => decide (last < x.1) && decide (x.1 < n) && ascB n x.1 l
/-- Is the device valid? -/
def devB (m : List Int) (q : List Dw) (left : Int) (down : Bool) : Bool :=
  sizeB m.length && decide (-1 ≤ left) && decide (left ≤ 1000000) && (!down || decide (left = 0)) && ascB m.length (-1) q
def devE (m : List Int) (q : List Dw) (left : Int) (down : Bool) : Int := if devB m q left down then 0 else 8
/-- The error of a device and an address. -/
def askE (m : List Int) (q : List Dw) (left : Int) (down : Bool) (a : Int) : Int := if devB m q left down then (if a < 0 ∨ (m.length : Int) ≤ a then 2 else 0) else 8
/-- All words as they are loaded. -/
def wrd (m : List Int) (q : List Dw) : List Int := q.foldl (fun m x => m.set x.1.toNat x.2.1) m
/-- What an operation leaves of Left. -/
def spL (left : Int) : Int := if 0 < left then left - 1 else left
/-- The dirty words with a word stored. -/
def insD (a v : Int) : List Dw → List Dw
  | [] => [(a, v, false)]
  | x :: l => if x.1 < a then x :: insD a v l else if x.1 = a then (a, v, false) :: l else (a, v, false) :: x :: l
/-- The dirty words with the line of an address flushed. -/
def fluD (a : Int) (q : List Dw) : List Dw := q.map fun x => if x.1 / 8 = a / 8 then (x.1, x.2.1, true) else x
/-- The safe words behind a fence. -/
def fenM (m : List Int) (q : List Dw) : List Int := q.foldl (fun m x => if x.2.2 then m.set x.1.toNat x.2.1 else m) m
/-- The dirty words behind a fence. -/
def fenD (q : List Dw) : List Dw := q.filter fun x => !x.2.2

theorem devB_bd {m : List Int} {q : List Dw} {left : Int} {down : Bool} (h : devB m q left down = true) :
    sizeB m.length = true ∧ -1 ≤ left ∧ left ≤ 1000000 ∧ (down = true → left = 0) ∧ ascB m.length (-1) q = true := by
  simp only [devB, Bool.and_eq_true, decide_eq_true_eq, Bool.or_eq_true, Bool.not_eq_true'] at h
  exact ⟨h.1.1.1.1, h.1.1.1.2, h.1.1.2, fun hd => by rcases h.1.2 with h | h; simp [hd] at h; exact h, h.2⟩
theorem devB_mk {m : List Int} {q : List Dw} {left : Int} {down : Bool} (h1 : sizeB m.length = true) (h2 : -1 ≤ left) (h3 : left ≤ 1000000) (h4 : down = true → left = 0) (h5 : ascB m.length (-1) q = true) : devB m q left down = true := by
  simp only [devB, Bool.and_eq_true, decide_eq_true_eq, Bool.or_eq_true, Bool.not_eq_true']
  refine ⟨⟨⟨⟨h1, h2⟩, h3⟩, ?_⟩, h5⟩
  cases down
  · exact .inl rfl
  · exact .inr (h4 rfl)

/- addresses that go up -/
theorem ascB_weak {n : Int} : ∀ {q : List Dw} {a b : Int}, a ≤ b → ascB n b q = true → ascB n a q = true
  | [], _, _, _, _ => rfl
  | x :: l, a, b, h, hq => by
    simp only [ascB, Bool.and_eq_true, decide_eq_true_eq] at hq ⊢
    exact ⟨⟨by omega, hq.1.2⟩, hq.2⟩
theorem ascB_mem {n : Int} : ∀ {q : List Dw} {a : Int}, ascB n a q = true → ∀ x ∈ q, a < x.1 ∧ x.1 < n
  | [], _, _, x, hx => by cases hx
  | y :: l, a, hq, x, hx => by
    simp only [ascB, Bool.and_eq_true, decide_eq_true_eq] at hq
    rcases List.mem_cons.1 hx with rfl | hx
    · exact ⟨hq.1.1, hq.1.2⟩
    · have := ascB_mem hq.2 x hx
      exact ⟨by omega, this.2⟩
theorem ascB_append {n : Int} : ∀ {q o : List Dw} {a : Int}, ascB n a (q ++ o) = true ↔ ascB n a q = true ∧ ∀ b, (b = a ∧ q = [] ∨ (∃ x, q.getLast? = some x ∧ x.1 = b)) → ascB n b o = true
  | [], o, a => by simp [ascB]
  | y :: l, o, a => by
    simp only [List.cons_append, ascB, Bool.and_eq_true, decide_eq_true_eq, ascB_append (q := l)]
    constructor
    · rintro ⟨h1, h2, h3⟩
      refine ⟨⟨h1, h2⟩, fun b hb => ?_⟩
      rcases hb with ⟨_, h⟩ | ⟨x, hx, rfl⟩
      · cases h
      · cases l with
        | nil => simp at hx; subst hx; exact h3 _ (.inl ⟨rfl, rfl⟩)
        | cons z l => exact h3 _ (.inr ⟨x, by simpa using hx, rfl⟩)
    · rintro ⟨⟨h1, h2⟩, h3⟩
      refine ⟨h1, h2, fun b hb => ?_⟩
      rcases hb with ⟨rfl, rfl⟩ | ⟨x, hx, rfl⟩
      · exact h3 _ (.inr ⟨y, rfl, rfl⟩)
      · exact h3 _ (.inr ⟨x, by cases l with | nil => simp at hx | cons z l => simpa using hx, rfl⟩)
theorem ascB_sub {n : Int} : ∀ {q o : List Dw} {a : Int}, o.Sublist q → ascB n a q = true → ascB n a o = true
  | _, _, _, .slnil, h => h
  | _, _, _, .cons y s, h => by
    simp only [ascB, Bool.and_eq_true, decide_eq_true_eq] at h
    exact ascB_weak (by omega) (ascB_sub s h.2)
  | _, _, _, .cons_cons y s, h => by
    simp only [ascB, Bool.and_eq_true, decide_eq_true_eq] at h ⊢
    exact ⟨h.1, ascB_sub s h.2⟩
theorem ascB_ins {n a v : Int} : ∀ {q : List Dw} {b : Int}, b < a → a < n → ascB n b q = true → ascB n b (insD a v q) = true
  | [], b, h1, h2, _ => by simp [insD, ascB]; omega
  | x :: l, b, h1, h2, h => by
    simp only [ascB, Bool.and_eq_true, decide_eq_true_eq] at h
    unfold insD
    split
    · simp only [ascB, Bool.and_eq_true, decide_eq_true_eq]
      exact ⟨h.1, ascB_ins (by omega) h2 h.2⟩
    · split
      · rename_i h3 h4
        simp only [ascB, Bool.and_eq_true, decide_eq_true_eq]
        refine ⟨⟨by omega, h2⟩, ?_⟩
        rw [← h4]; exact h.2
      · simp only [ascB, Bool.and_eq_true, decide_eq_true_eq]
        exact ⟨⟨h1, h2⟩, ⟨by omega, h.1.2⟩, h.2⟩
theorem ascB_flu {n a : Int} : ∀ {q : List Dw} {b : Int}, ascB n b q = true → ascB n b (fluD a q) = true
  | [], _, _ => rfl
  | x :: l, b, h => by
    simp only [ascB, Bool.and_eq_true, decide_eq_true_eq] at h
    have e : fluD a (x :: l) = (if x.1 / 8 = a / 8 then (x.1, x.2.1, true) else x) :: fluD a l := rfl
    have e1 : (if x.1 / 8 = a / 8 then ((x.1, x.2.1, true) : Dw) else x).1 = x.1 := by split <;> rfl
    rw [e]
    simp only [ascB, Bool.and_eq_true, decide_eq_true_eq, e1]
    exact ⟨h.1, ascB_flu h.2⟩
theorem ascB_fen {n b : Int} {q : List Dw} (h : ascB n b q = true) : ascB n b (fenD q) = true := ascB_sub List.filter_sublist h

/- lengths -/
theorem wrd_length (q : List Dw) : ∀ m, (wrd m q).length = m.length := by
  induction q with
  | nil => intro m; rfl
  | cons x l ih => intro m; simp only [wrd, List.foldl_cons] at ih ⊢; rw [ih]; simp
theorem fenM_length (q : List Dw) : ∀ m, (fenM m q).length = m.length := by
  induction q with
  | nil => intro m; rfl
  | cons x l ih => intro m; simp only [fenM, List.foldl_cons] at ih ⊢; rw [ih]; split <;> simp
theorem fluD_length (a : Int) (q : List Dw) : (fluD a q).length = q.length := by simp [fluD]
theorem insD_length (a v : Int) : ∀ q : List Dw, (insD a v q).length ≤ q.length + 1
  | [] => by simp [insD]
  | x :: l => by
    have := insD_length a v l
    unfold insD; split
    · simp; omega
    · split <;> simp
theorem fenD_length (q : List Dw) : (fenD q).length ≤ q.length := List.length_filter_le _ _
theorem asc_length {n : Int} : ∀ {q : List Dw} {a : Int}, ascB n a q = true → a < n → (q.length : Int) ≤ n - 1 - a
  | [], a, _, h => by simp; omega
  | x :: l, a, hq, h => by
    simp only [ascB, Bool.and_eq_true, decide_eq_true_eq] at hq
    have := asc_length hq.2 hq.1.2
    simp; omega
theorem dirty_le {m : List Int} {q : List Dw} {left : Int} {down : Bool} (h : devB m q left down = true) : q.length ≤ 2048 := by
  obtain ⟨h1, _, _, _, h5⟩ := devB_bd h
  have h2 := sizeB_bd h1
  have := asc_length h5 (by omega)
  omega

/- numbers that fit -/
theorem wfD_ins {a v : Int} (ha : InI a) (hv : InU v) : ∀ {q : List Dw}, WfD q → WfD (insD a v q)
  | [], _, x, hx => by simp [insD] at hx; subst hx; exact ⟨ha, hv⟩
  | y :: l, h, x, hx => by
    unfold insD at hx
    split at hx
    · rcases List.mem_cons.1 hx with rfl | hx
      · exact h _ (List.mem_cons_self ..)
      · exact wfD_ins ha hv (fun z hz => h z (List.mem_cons_of_mem _ hz)) x hx
    · split at hx
      · rcases List.mem_cons.1 hx with rfl | hx
        · exact ⟨ha, hv⟩
        · exact h x (List.mem_cons_of_mem _ hx)
      · rcases List.mem_cons.1 hx with rfl | hx
        · exact ⟨ha, hv⟩
        · exact h x hx
theorem wfD_flu {a : Int} {q : List Dw} (h : WfD q) : WfD (fluD a q) := by
  intro x hx
  obtain ⟨y, hy, rfl⟩ := List.mem_map.1 hx
  have := h y hy
  split
  · exact this
  · exact this
theorem wfD_fen {q : List Dw} (h : WfD q) : WfD (fenD q) := fun x hx => h x ((List.mem_filter.1 hx).1)
theorem wfU_set {m : List Int} {i : Nat} {v : Int} (h : WfU m) (hv : InU v) : WfU (m.set i v) := fun x hx => by
  rcases List.mem_or_eq_of_mem_set hx with hx | rfl
  · exact h x hx
  · exact hv
theorem wfU_wrd : ∀ {q : List Dw} {m : List Int}, WfD q → WfU m → WfU (wrd m q)
  | [], _, _, h => h
  | x :: l, m, hq, h => wfU_wrd (q := l) (m := m.set x.1.toNat x.2.1) (fun y hy => hq y (List.mem_cons_of_mem _ hy)) (wfU_set h (hq x (List.mem_cons_self ..)).2)
theorem wfU_fen : ∀ {q : List Dw} {m : List Int}, WfD q → WfU m → WfU (fenM m q)
  | [], _, _, h => h
  | x :: l, m, hq, h => by
    have e : fenM m (x :: l) = fenM (if x.2.2 then m.set x.1.toNat x.2.1 else m) l := rfl
    rw [e]
    refine wfU_fen (fun y hy => hq y (List.mem_cons_of_mem _ hy)) ?_
    split
    · exact wfU_set h (hq x (List.mem_cons_self ..)).2
    · exact h
theorem wfU_applied : ∀ {l : List (Int × Int)} {m : List Int}, WfE l → WfU m → WfU (applied m l)
  | [], _, _, h => h
  | x :: l, m, hq, h => wfU_applied (l := l) (m := m.set x.1.toNat x.2) (fun y hy => hq y (List.mem_cons_of_mem _ hy)) (wfU_set h (hq x (List.mem_cons_self ..)).2)
end Go.Proofs.Ytmkcpnklaijkfaa
/-
  Devices, in plain terms: where an address is among the dirty words; what a load, a store, a crash gives.
-/
namespace Go.Proofs.Ytmkcpnklaijkfaa

/-- How many dirty words at the front lie below an address. -/
def cntLt (a : Int) : List Dw → Nat
  | [] => 0
  | x :: l => if x.1 < a then cntLt a l + 1 else 0
/-- Is the address dirty? -/
def fndD (a : Int) : List Dw → Bool
  | [] => false
  | x :: l => if x.1 < a then fndD a l else x.1 == a
theorem cntLt_le (a : Int) : ∀ q : List Dw, cntLt a q ≤ q.length
  | [] => Nat.le_refl _
  | x :: l => by
    have := cntLt_le a l
    unfold cntLt; split
    · simp; omega
    · simp
theorem cntLt_iff {n a : Int} : ∀ {q : List Dw} {b : Int}, ascB n b q = true → ∀ {h : Nat} {x : Dw}, q[h]? = some x → (x.1 < a ↔ h < cntLt a q)
  | [], _, _, h, x, hx => by simp at hx
  | y :: l, b, hq, h, x, hx => by
    simp only [ascB, Bool.and_eq_true, decide_eq_true_eq] at hq
    unfold cntLt
    cases h with
    | zero =>
      simp at hx; subst hx
      by_cases c : y.1 < a
      · simp [c]
      · simp [c]
    | succ h =>
      have hx' : l[h]? = some x := by simpa using hx
      by_cases c : y.1 < a
      · rw [if_pos c, cntLt_iff hq.2 hx']; omega
      · rw [if_neg c]
        have := (ascB_mem hq.2 x (List.mem_of_getElem? hx')).1
        constructor
        · intro; omega
        · intro h; cases h
theorem fnd_at {a : Int} : ∀ {q : List Dw}, fndD a q = true → ∃ x, q[cntLt a q]? = some x ∧ x.1 = a
  | [], h => by simp [fndD] at h
  | y :: l, h => by
    unfold fndD at h
    unfold cntLt
    by_cases c : y.1 < a
    · rw [if_pos c] at h ⊢
      obtain ⟨x, h1, h2⟩ := fnd_at h
      exact ⟨x, by simpa using h1, h2⟩
    · rw [if_neg c] at h ⊢
      exact ⟨y, rfl, by simpa using h⟩
theorem fnd_not {a : Int} : ∀ {q : List Dw} {x : Dw}, fndD a q = false → q[cntLt a q]? = some x → x.1 ≠ a
  | [], x, _, h => by simp at h
  | y :: l, x, h, hx => by
    unfold fndD at h
    unfold cntLt at hx
    by_cases c : y.1 < a
    · rw [if_pos c] at h hx
      exact fnd_not h (by simpa using hx)
    · rw [if_neg c] at h hx
      simp at hx; subst hx
      simpa using h
theorem fnd_iff {n a : Int} : ∀ {q : List Dw} {b : Int}, ascB n b q = true → (fndD a q = true ↔ ∃ x ∈ q, x.1 = a)
  | [], _, _ => by simp [fndD]
  | y :: l, b, hq => by
    simp only [ascB, Bool.and_eq_true, decide_eq_true_eq] at hq
    unfold fndD
    by_cases c : y.1 < a
    · rw [if_pos c, fnd_iff hq.2]
      constructor
      · rintro ⟨x, h1, h2⟩; exact ⟨x, List.mem_cons_of_mem _ h1, h2⟩
      · rintro ⟨x, h1, h2⟩
        rcases List.mem_cons.1 h1 with rfl | h1
        · omega
        · exact ⟨x, h1, h2⟩
    · rw [if_neg c]
      constructor
      · intro h; exact ⟨y, List.mem_cons_self .., by simpa using h⟩
      · rintro ⟨x, h1, h2⟩
        rcases List.mem_cons.1 h1 with rfl | h1
        · simpa using h2
        · have := (ascB_mem hq.2 x h1).1
          omega
/-- A store at an address that is dirty, and at one that is not. -/
theorem insD_fnd {a v : Int} : ∀ {q : List Dw}, fndD a q = true → insD a v q = q.set (cntLt a q) (a, v, false)
  | [], h => by simp [fndD] at h
  | y :: l, h => by
    unfold fndD at h
    unfold cntLt insD
    by_cases c : y.1 < a
    · rw [if_pos c] at h ⊢
      rw [if_pos c, insD_fnd h]; rfl
    · rw [if_neg c] at h ⊢
      rw [if_neg c, if_pos (by simpa using h)]; rfl
theorem insD_not {a v : Int} : ∀ {q : List Dw}, fndD a q = false → insD a v q = q.take (cntLt a q) ++ (a, v, false) :: q.drop (cntLt a q)
  | [], _ => rfl
  | y :: l, h => by
    unfold fndD at h
    unfold cntLt insD
    by_cases c : y.1 < a
    · rw [if_pos c] at h ⊢
      rw [if_pos c, insD_not h]; rfl
    · rw [if_neg c] at h ⊢
      rw [if_neg c, if_neg (by simpa using h)]; rfl

/- what is loaded -/
theorem wrd_cons (m : List Int) (x : Dw) (l : List Dw) : wrd m (x :: l) = wrd (m.set x.1.toNat x.2.1) l := rfl
theorem wrd_append (m : List Int) (q o : List Dw) : wrd m (q ++ o) = wrd (wrd m q) o := by simp [wrd]
theorem wrd_take {m : List Int} {q : List Dw} {k : Nat} {x : Dw} (h : q[k]? = some x) : wrd m (q.take (k + 1)) = (wrd m (q.take k)).set x.1.toNat x.2.1 := by
  rw [List.take_add_one, h, wrd_append]; rfl
theorem wrd_far : ∀ {q : List Dw} {m : List Int} {i : Nat}, (∀ x ∈ q, x.1.toNat ≠ i) → (wrd m q)[i]? = m[i]?
  | [], _, _, _ => rfl
  | x :: l, m, i, h => by
    rw [wrd_cons, wrd_far (fun y hy => h y (List.mem_cons_of_mem _ hy)), List.getElem?_set_ne (h x (List.mem_cons_self ..))]
theorem wrd_at {n : Int} : ∀ {q : List Dw} {b : Int} {m : List Int}, -1 ≤ b → ascB n b q = true → (m.length : Int) = n → ∀ x ∈ q, (wrd m q)[x.1.toNat]? = some x.2.1
  | [], _, _, _, _, _, x, hx => by cases hx
  | y :: l, b, m, hb, hq, hm, x, hx => by
    simp only [ascB, Bool.and_eq_true, decide_eq_true_eq] at hq
    rw [wrd_cons]
    rcases List.mem_cons.1 hx with rfl | hx
    · rw [wrd_far, List.getElem?_set_self (by omega)]
      intro z hz
      have := ascB_mem hq.2 z hz
      omega
    · exact wrd_at (by omega) hq.2 (by simpa using hm) x hx
/-- The word that is loaded at an address. -/
def ldV (m : List Int) (q : List Dw) (a : Int) : Int := (wrd m q).getD a.toNat 0
theorem ld_fnd {n a : Int} {q : List Dw} {b : Int} {m : List Int} (hb : -1 ≤ b) (hq : ascB n b q = true) (hm : (m.length : Int) = n) {x : Dw} (h : fndD a q = true) (hx : q[cntLt a q]? = some x) : ldV m q a = x.2.1 := by
  obtain ⟨y, h1, h2⟩ := fnd_at h
  rw [hx] at h1; injection h1 with h1; subst h1
  have := wrd_at hb hq hm x (List.mem_of_getElem? hx)
  rw [h2] at this
  simp [ldV, List.getD, this]
theorem ld_not {n a : Int} {q : List Dw} {b : Int} {m : List Int} (hb : -1 ≤ b) (hq : ascB n b q = true) (ha : 0 ≤ a) (h : fndD a q = false) : ldV m q a = m.getD a.toNat 0 := by
  have : (wrd m q)[a.toNat]? = m[a.toNat]? := by
    refine wrd_far fun x hx he => ?_
    have h1 := ascB_mem hq x hx
    have h2 : fndD a q = true := (fnd_iff hq).2 ⟨x, hx, by omega⟩
    rw [h] at h2; cases h2
  simp [ldV, List.getD, this]

/- the reference's store: one pass -/
def stG (a v : Int) : Bool → List Dw → List Dw
  | p, [] => if p then [] else [(a, v, false)]
  | p, x :: l => (if !p && decide (a ≤ x.1) then [(a, v, false)] else []) ++ ((if x.1 ≠ a then [x] else []) ++ stG a v (p || decide (a ≤ x.1)) l)
theorem stG_past {n a v : Int} : ∀ {q : List Dw} {b : Int}, a ≤ b → ascB n b q = true → stG a v true q = q
  | [], _, _, _ => rfl
  | x :: l, b, h, hq => by
    simp only [ascB, Bool.and_eq_true, decide_eq_true_eq] at hq
    have : x.1 ≠ a := by omega
    simp only [stG, Bool.not_true, Bool.false_and, Bool.false_eq_true, if_false, List.nil_append, this, ne_eq, not_false_eq_true, if_true, Bool.true_or]
    rw [stG_past (q := l) (by omega) hq.2]; rfl
theorem stG_ins {n a v : Int} : ∀ {q : List Dw} {b : Int}, ascB n b q = true → stG a v false q = insD a v q
  | [], _, _ => rfl
  | x :: l, b, hq => by
    simp only [ascB, Bool.and_eq_true, decide_eq_true_eq] at hq
    unfold insD
    by_cases c : x.1 < a
    · have h1 : ¬ a ≤ x.1 := by omega
      have h2 : x.1 ≠ a := by omega
      simp only [stG, h1, h2, decide_false, Bool.and_false, Bool.false_eq_true, if_false, List.nil_append, ne_eq, not_false_eq_true, if_true, Bool.or_false, c]
      rw [stG_ins hq.2]; rfl
    · have h1 : a ≤ x.1 := by omega
      rw [if_neg c]
      by_cases h2 : x.1 = a
      · have := stG_past (v := v) (a := a) (q := l) (b := x.1) (by omega) hq.2
        simp [stG, h2, this]
      · have := stG_past (v := v) (a := a) (q := l) (b := x.1) (by omega) hq.2
        simp [stG, h1, h2, this]

/- crashes -/
/-- Does a mask keep the dirty word with an index? -/
def kpB (mask : Int) (i : Nat) : Bool := decide (mask / 2 ^ (i % 64) % 2 = 1)
/-- The indices that a mask keeps, among the first n. -/
def keptN (mask : Int) (n : Nat) : List Int := ((List.range n).filter (kpB mask)).map Int.ofNat
/-- The image behind a crash: the dirty words have the indices from i on. -/
def crM (mask : Int) : Nat → List Int → List Dw → List Int
  | _, m, [] => m
  | i, m, x :: l => crM mask (i + 1) (if kpB mask i then m.set x.1.toNat x.2.1 else m) l
theorem keptN_succ (mask : Int) (k : Nat) : keptN mask (k + 1) = keptN mask k ++ if kpB mask k then [(k : Int)] else [] := by
  simp only [keptN, List.range_succ, List.filter_append, List.map_append]
  congr 1
  cases h : kpB mask k <;> simp [h]
theorem keptN_length (mask : Int) (k : Nat) : (keptN mask k).length ≤ k := by
  simp only [keptN, List.length_map]
  exact Nat.le_trans (List.length_filter_le _ _) (by simp)
theorem crM_length (mask : Int) : ∀ (q : List Dw) (i : Nat) (m : List Int), (crM mask i m q).length = m.length
  | [], _, _ => rfl
  | x :: l, i, m => by unfold crM; rw [crM_length mask l]; split <;> simp
theorem crM_snoc (mask : Int) (x : Dw) : ∀ (q : List Dw) (i : Nat) (m : List Int), crM mask i m (q ++ [x]) = if kpB mask (i + q.length) then (crM mask i m q).set x.1.toNat x.2.1 else crM mask i m q
  | [], i, m => by simp [crM]
  | y :: l, i, m => by
    simp only [List.cons_append, crM, List.length_cons]
    rw [crM_snoc mask x l, show i + 1 + l.length = i + (l.length + 1) from by omega]
theorem crM_take {mask : Int} {m : List Int} {q : List Dw} {k : Nat} {x : Dw} (h : q[k]? = some x) : crM mask 0 m (q.take (k + 1)) = if kpB mask k then (crM mask 0 m (q.take k)).set x.1.toNat x.2.1 else crM mask 0 m (q.take k) := by
  have hk : (q.take k).length = k := by
    have := (List.getElem?_eq_some_iff.1 h).1
    simp; omega
  rw [List.take_add_one, h, Option.toList_some, crM_snoc, Nat.zero_add, hk]
theorem wfU_cr {mask : Int} : ∀ {q : List Dw} {i : Nat} {m : List Int}, WfD q → WfU m → WfU (crM mask i m q)
  | [], _, _, _, h => h
  | x :: l, i, m, hq, h => by
    unfold crM
    refine wfU_cr (fun y hy => hq y (List.mem_cons_of_mem _ hy)) ?_
    split
    · exact wfU_set h (hq x (List.mem_cons_self ..)).2
    · exact h
end Go.Proofs.Ytmkcpnklaijkfaa
/-
  The element types of the slices, read off the program's tables.
-/
namespace Go.Proofs.Ytmkcpnklaijkfaa
theorem EU : ElT Try.prog 29 24 1 8 := ElT.mk' (z := .int .u64 0) Try.underlying29 (by kernel_rfl) rfl (by decide) (by decide)
theorem EI : ElT Try.prog 112 3 1 8 := ElT.mk' (z := .int .i64 0) Try.underlying112 (by kernel_rfl) rfl (by decide) (by decide)
theorem EE : ElT Try.prog 34 38 2 16 := ElT.mk' (z := .agg #[.int .i64 0, .int .u64 0]) Try.underlying34 (by kernel_rfl) rfl (by decide) (by decide)
theorem ED : ElT Try.prog 44 88 3 24 := ElT.mk' (z := .agg #[.int .i64 0, .int .u64 0, .bool false]) Try.underlying44 (by kernel_rfl) rfl (by decide) (by decide)

theorem run_equalE (a b c d : Int) (w : World) : (Op.equalIn 10000 38 (.agg #[.int .i64 a, .int .u64 b]) (.agg #[.int .i64 c, .int .u64 d])).run Try.prog w = .ok (a == c && b == d) w := by
  go_simp
  by_cases h : a = c <;> by_cases h' : b = d <;> simp [h, h']
theorem run_eqlE (a b c d : Int) (w : World) : (binOp .eql 38 (.agg #[.int .i64 a, .int .u64 b]) (.agg #[.int .i64 c, .int .u64 d])).run Try.prog w = .ok (.bool (eqE a b c d)) w := by
  simp only [run_eql_struct, run_equalE, Result.andThen_ok, eqE]
theorem run_neqE (a b c d : Int) (w : World) : (binOp .neq 38 (.agg #[.int .i64 a, .int .u64 b]) (.agg #[.int .i64 c, .int .u64 d])).run Try.prog w = .ok (.bool (neE a b c d)) w := by
  simp only [run_neq_struct, run_equalE, Result.andThen_ok, neE]
theorem run_equalP (a b c d e f : Int) (w : World) : (Op.equalIn 10000 23 (.agg #[.int .i64 a, .int .i64 b, .int .i64 c]) (.agg #[.int .i64 d, .int .i64 e, .int .i64 f])).run Try.prog w = .ok (a == d && b == e && c == f) w := by
  go_simp
  by_cases h : a = d <;> by_cases h' : b = e <;> by_cases h'' : c = f <;> simp [h, h', h'']
theorem run_eqlP (a b c d e f : Int) (w : World) : (binOp .eql 23 (.agg #[.int .i64 a, .int .i64 b, .int .i64 c]) (.agg #[.int .i64 d, .int .i64 e, .int .i64 f])).run Try.prog w = .ok (.bool (eqP a b c d e f)) w := by
  simp only [run_eql_struct, run_equalP, Result.andThen_ok, eqP]
theorem run_neqP (a b c d e f : Int) (w : World) : (binOp .neq 23 (.agg #[.int .i64 a, .int .i64 b, .int .i64 c]) (.agg #[.int .i64 d, .int .i64 e, .int .i64 f])).run Try.prog w = .ok (.bool (neP a b c d e f)) w := by
  simp only [run_neq_struct, run_equalP, Result.andThen_ok, neP]
theorem run_equalD (a b d e : Int) (c f : Bool) (w : World) : (Op.equalIn 10000 88 (.agg #[.int .i64 a, .int .u64 b, .bool c]) (.agg #[.int .i64 d, .int .u64 e, .bool f])).run Try.prog w = .ok (a == d && b == e && c == f) w := by
  go_simp
  by_cases h : a = d <;> by_cases h' : b = e <;> by_cases h'' : c = f <;> simp [h, h', h'']
theorem run_eqlD (a b : Int) (c : Bool) (d e : Int) (f : Bool) (w : World) : (binOp .eql 88 (.agg #[.int .i64 a, .int .u64 b, .bool c]) (.agg #[.int .i64 d, .int .u64 e, .bool f])).run Try.prog w = .ok (.bool (eqD a b c d e f)) w := by
  simp only [run_eql_struct, run_equalD, Result.andThen_ok, eqD]
theorem run_neqD (a b : Int) (c : Bool) (d e : Int) (f : Bool) (w : World) : (binOp .neq 88 (.agg #[.int .i64 a, .int .u64 b, .bool c]) (.agg #[.int .i64 d, .int .u64 e, .bool f])).run Try.prog w = .ok (.bool (neD a b c d e f)) w := by
  simp only [run_neq_struct, run_equalD, Result.andThen_ok, neD]
end Go.Proofs.Ytmkcpnklaijkfaa
/-
  How arguments open, and the row's last step: a law that returns true and leaves old memory alone.
-/
namespace Go.Proofs.Ytmkcpnklaijkfaa
open Go.RowKit Go.ChangeShapes Go.WideShapes Go.Deep Go.Joins

section
variable {H : Type} {enc : TypeId × Value → H} {P : Program}

theorem trodAll_stays (hl : laidOutB P = true) {W W' : World} {sp' : Nat → Bool} : ∀ {ts : List TypeId} {vs : List Value} {ds : List (DataW H)} {ps : List MemPlace},
    (ts.all fun t => P.readableRec t && decide (t < P.types.size)) = true → DataW.TrodAll enc P W 0 (fun _ => true) true ts vs ds ps → (∀ p ∈ ps, W.sameAt W' p) → (∀ p ∈ ps, sp' p.block = true) →
    DataW.TrodAll enc P W' 0 sp' true ts vs ds ps
  | [], [], [], ps, _, h, _, _ => h
  | t :: ts, v :: vs, d :: ds, ps, hr, h, hs, hp => by
    obtain ⟨p, q, h1, h2, rfl⟩ := h
    simp only [List.all_cons, Bool.and_eq_true, decide_eq_true_eq] at hr
    exact ⟨p, q, WideElems.Trod_stays hl hr.1.1 hr.1.2 h1 (fun x hx => hs x (List.mem_append.2 (.inl hx))) (fun x hx => hp x (List.mem_append.2 (.inl hx))),
      trodAll_stays hl hr.2 h2 (fun x hx => hs x (List.mem_append.2 (.inr hx))) (fun x hx => hp x (List.mem_append.2 (.inr hx))), rfl⟩
  | [], _ :: _, _, _, _, h, _, _ => h.elim
  | [], [], _ :: _, _, _, h, _, _ => h.elim
  | _ :: _, [], _, _, _, h, _, _ => h.elim
  | _ :: _, _ :: _, [], _, _, h, _, _ => h.elim

/-- The row's last step. -/
theorem post_law {f : Func} {s : ChangeSpec} {apart fresh handsOn again : Bool} {W W' : World} {args : Array Value} {ds gs : List (DataW H)} {before : List MemPlace} {tb : TypeId}
    (hl : laidOutB P = true) (hr : (f.params.toList.all fun t => P.readableRec t && decide (t < P.types.size)) = true)
    (hW : DataW.Whole enc P f.params.toList s.vars apart W args.toList ds gs before) (hv : s.vars = []) (hfn : s.fn H (ds ++ gs) = { results := [.lit (.bool true)], args := ds })
    (ht : f.resultTypes = #[tb]) (hb : P.underlying tb = some .bool) (hx : Ext W W') :
    s.post enc P f apart fresh handsOn again W args (.bool true) W' := by
  have hlt : ∀ p ∈ before, p.block < W.heap.size := fun p hp => hW.lt p hp
  have hold : ∀ p ∈ before, (fun b => decide (b < W.heap.size)) p.block = true := fun p hp => by simpa using hlt p hp
  have hW' := hW
  obtain ⟨p, q, hA, hV, hps, hz, hn⟩ := hW'
  have hgq : gs = [] ∧ q = [] := by
    rw [hv] at hV
    cases gs with
    | nil => exact ⟨rfl, hV⟩
    | cons g gs => exact hV.elim
  obtain ⟨rfl, rfl⟩ := hgq
  have hps' : before = p := by simpa using hps
  subst hps'
  have hres : ∀ (b : Nat) (sp : Nat → Bool) (hd : Bool), DataW.TrodAll enc P W' b sp hd f.resultTypes.toList ((Value.bool true).resultList f.resultTypes.size) (s.fn H (ds ++ [])).results [] := by
    intro b sp hd
    rw [hfn, ht]
    exact trodAll_mk1 (shut_bool hb _)
  have hargs : ∀ sp : Nat → Bool, (∀ p ∈ before, sp p.block = true) → DataW.TrodAll enc P W' 0 sp true f.params.toList args.toList (s.fn H (ds ++ [])).args before := by
    intro sp hsp
    rw [hfn]
    exact trodAll_stays hl hr hA (fun x hx' => Below.same hx (hlt x hx')) hsp
  have hvars : ∀ sp : Nat → Bool, (∀ p ∈ before, sp p.block = true) → DataW.TrodVars enc P W' sp s.vars (s.fn H (ds ++ [])).vars [] := by
    intro sp _
    rw [hfn, hv]
    rfl
  refine ⟨ds, [], before, [], before, [], hW, hres _ _ _, hargs _ hold, hvars _ hold, World.keptBut_mono (fun p hp => ⟨hp, .inr (by simpa using hp)⟩) (Below.frame hx (· ∈ before)), fun _ => ?_⟩
  refine ⟨?_, _, _, ([] ++ before) ++ [], ⟨[] ++ before, [], trodAll_append (hargs _ (fun _ _ => rfl)) (hres _ _ _), hvars _ (fun _ _ => rfl), rfl, ?_, ?_⟩, ?_⟩
  · exact ok_one ht rfl (okWide_bool_mk hb _)
  · intro b off hp
    have hin : MemPlace.cell b off ∈ before := by simpa using hp
    rw [Below.frozen hx (hlt _ hin)]
    exact hz b off hin
  · intro ha
    have := hn ha
    simpa using this
  · intro p hp _
    simpa using hp
end

section
variable {H : Type} {enc : TypeId × Value → H} {P : Program} {w : World} {base : Nat} {spare : Nat → Bool} {held : Bool}
theorem inI_of {x : Int} (h : (Lit.int .i64 x).wf = true) : InI x := by
  simp [Lit.wf, IntKind.min, IntKind.max, IntKind.signed, IntKind.bits] at h
  exact ⟨by omega, by omega⟩
theorem inU_of {x : Int} (h : (Lit.int .u64 x).wf = true) : InU x := by
  simp [Lit.wf, IntKind.min, IntKind.max, IntKind.signed, IntKind.bits] at h
  exact ⟨by omega, by omega⟩

theorem rd_U {t e : TypeId} {fuel : Nat} {v : Value} {x : DataW H × List MemPlace} (ht : P.underlying t = some (.slice e)) (he : P.underlying e = some (.int .u64)) (hc : P.cellsOf e = 1)
    (h : DataW.trod enc P w base spare held fuel t [v] = some x) : ∃ A c m, v = .slice A m.length c ∧ Sl w A m.length c (fU m) ∧ WfU m := by
  rcases open_ints ht he hc h with ⟨hcs, _⟩ | ⟨a, len, cap, zs, hcs, _, hl, hm, hz, _, hcell, hwz⟩
  · simp only [List.cons.injEq, and_true] at hcs
    subst hcs
    exact ⟨none, 0, [], rfl, Sl.nil_ w, fun x hx => by cases hx⟩
  · simp only [List.cons.injEq, and_true] at hcs
    subst hcs
    have hlz : len ≤ zs.length := by rw [hz]; split <;> omega
    have hlen : (zs.take len).length = len := by simp; omega
    refine ⟨some a, cap, zs.take len, by rw [hlen], ⟨by omega, hm, (fun h => by cases h), fun _ => ⟨a, rfl, fun j u hu => ?_⟩⟩, fun x hx => inU_of (hwz x (List.mem_of_mem_take hx))⟩
    have hj : j < len := by
      have := (List.getElem?_eq_some_iff.1 hu).1
      simp at this
      omega
    rw [hcell j (by omega)]
    simp only [fU, List.getElem?_map, List.getElem?_take, if_pos hj] at hu
    rw [List.getElem?_eq_getElem (by omega)] at hu
    simp at hu
    simp [List.getD, List.getElem?_eq_getElem (show j < zs.length by omega), hu]
theorem rd_I {t e : TypeId} {fuel : Nat} {v : Value} {x : DataW H × List MemPlace} (ht : P.underlying t = some (.slice e)) (he : P.underlying e = some (.int .i64)) (hc : P.cellsOf e = 1)
    (h : DataW.trod enc P w base spare held fuel t [v] = some x) : ∃ A c m, v = .slice A m.length c ∧ Sl w A m.length c (fI m) ∧ WfI m := by
  rcases open_ints ht he hc h with ⟨hcs, _⟩ | ⟨a, len, cap, zs, hcs, _, hl, hm, hz, _, hcell, hwz⟩
  · simp only [List.cons.injEq, and_true] at hcs
    subst hcs
    exact ⟨none, 0, [], rfl, Sl.nil_ w, fun x hx => by cases hx⟩
  · simp only [List.cons.injEq, and_true] at hcs
    subst hcs
    have hlz : len ≤ zs.length := by rw [hz]; split <;> omega
    have hlen : (zs.take len).length = len := by simp; omega
    refine ⟨some a, cap, zs.take len, by rw [hlen], ⟨by omega, hm, (fun h => by cases h), fun _ => ⟨a, rfl, fun j u hu => ?_⟩⟩, fun x hx => inI_of (hwz x (List.mem_of_mem_take hx))⟩
    have hj : j < len := by
      have := (List.getElem?_eq_some_iff.1 hu).1
      simp at this
      omega
    rw [hcell j (by omega)]
    simp only [fI, List.getElem?_map, List.getElem?_take, if_pos hj] at hu
    rw [List.getElem?_eq_getElem (by omega)] at hu
    simp at hu
    simp [List.getD, List.getElem?_eq_getElem (show j < zs.length by omega), hu]

theorem open_slice_fields {t e : TypeId} {fs : Array Field} {fuel : Nat} {cs : List Value} {x : DataW H × List MemPlace} (ht : P.underlying t = some (.slice e)) (he : P.underlying e = some (.struct fs))
    (hone : oneCellFields P fs = true) (hC : P.cellsOf e = fs.size) (h : DataW.trod enc P w base spare held fuel t cs = some x) :
    cs = [.slice none 0 0] ∨
    ∃ (a : Addr) (len cap : Nat), cs = [.slice (some a) len cap] ∧ len ≤ cap ∧ cap ≤ maxLen ∧
      ∀ i, i < len → ∀ (j : Nat) (f : Field), fs[j]? = some f → ∃ (v : Value) (y : DataW H × List MemPlace) (n : Nat), w.cell? (a.add (i * fs.size + j)) = some v ∧ DataW.trod enc P w base spare held n f.type [v] = some y := by
  rcases open_slice ht h with h0 | ⟨a, len, cap, m, n, D, Pl, hcs, hb, hl, hm, hmm, hx, hi⟩
  · exact .inl h0.1
  · refine .inr ⟨a, len, cap, hcs, hl, hm, fun i him => ?_⟩
    obtain ⟨cs', hc, ht'⟩ := hi i (by rw [hmm]; split <;> omega)
    rw [hC] at hc
    obtain ⟨ys, n', hn', hy, hlen, hyl, hf⟩ := DataW.trod_struct he ht'
    obtain ⟨_, hcl, hat⟩ := World.cells?_some hc
    intro j f hj
    obtain ⟨ho, hk⟩ := hone_of hone j f hj
    have hjl : j < fs.size := (Array.getElem?_eq_some_iff.1 hj).1
    have hcell := hat j hjl
    have hv : cs'[j]? = some (cs'[j]'(by omega)) := List.getElem?_eq_getElem (by omega)
    have h1 := hf j f hj
    rw [ho, hk] at h1
    have hone' : (cs'.drop j).take 1 = [cs'[j]'(by omega)] := by
      rw [List.drop_eq_getElem_cons (by omega)]
      rfl
    rw [hone'] at h1
    have hys : ys[j]? = some (ys[j]'(by omega)) := List.getElem?_eq_getElem (by omega)
    refine ⟨_, _, n', ?_, h1.trans hys⟩
    rw [← Go.Deep.add_add, hcell, hv]

/-- The number in a cell. -/
def cellInt (w : World) (a : Addr) : Int := match w.cell? a with | some (.int _ n) => n | _ => 0
def cellBool (w : World) (a : Addr) : Bool := match w.cell? a with | some (.bool b) => b | _ => false

theorem rd_E {t e ti tu : TypeId} {f0 f1 : Field} {fuel : Nat} {v : Value} {x : DataW H × List MemPlace} (ht : P.underlying t = some (.slice e)) (he : P.underlying e = some (.struct #[f0, f1]))
    (hone : oneCellFields P #[f0, f1] = true) (hC : P.cellsOf e = 2) (h0 : f0.type = ti) (h1 : f1.type = tu) (hi : P.underlying ti = some (.int .i64)) (hu : P.underlying tu = some (.int .u64))
    (h : DataW.trod enc P w base spare held fuel t [v] = some x) : ∃ A c l, v = .slice A l.length c ∧ Sl w A l.length c (fE l) ∧ WfE l := by
  rcases open_slice_fields ht he hone hC h with hcs | ⟨a, len, cap, hcs, hl, hm, hat⟩
  · simp only [List.cons.injEq, and_true] at hcs
    subst hcs
    exact ⟨none, 0, [], rfl, Sl.nil_ w, fun x hx => by cases hx⟩
  · simp only [List.cons.injEq, and_true] at hcs
    subst hcs
    have hg : ∀ i, i < len → (w.cell? (a.add (i * 2)) = some (.int .i64 (cellInt w (a.add (i * 2)))) ∧ InI (cellInt w (a.add (i * 2)))) ∧
        (w.cell? (a.add (i * 2 + 1)) = some (.int .u64 (cellInt w (a.add (i * 2 + 1)))) ∧ InU (cellInt w (a.add (i * 2 + 1)))) := by
      intro i hil
      obtain ⟨v0, y0, n0, hc0, ht0⟩ := hat i hil 0 f0 rfl
      obtain ⟨v1, y1, n1, hc1, ht1⟩ := hat i hil 1 f1 rfl
      rw [h0] at ht0
      rw [h1] at ht1
      obtain ⟨z0, e0, _, w0⟩ := DataW.trod_int hi ht0
      obtain ⟨z1, e1, _, w1⟩ := DataW.trod_int hu ht1
      simp only [List.cons.injEq, and_true] at e0 e1
      subst e0 e1
      simp only [List.size_toArray, List.length_cons, List.length_nil, Nat.zero_add, Nat.reduceAdd, Nat.add_zero] at hc0 hc1
      exact ⟨⟨by simp [cellInt, hc0], by simpa [cellInt, hc0] using inI_of w0⟩, ⟨by simp [cellInt, hc1], by simpa [cellInt, hc1] using inU_of w1⟩⟩
    refine ⟨some a, cap, (List.range len).map fun i => (cellInt w (a.add (i * 2)), cellInt w (a.add (i * 2 + 1))), by simp, ⟨by simpa using hl, hm, (fun h => by cases h), fun _ => ⟨a, rfl, fun j u hj => ?_⟩⟩, fun x hx => ?_⟩
    · obtain ⟨k, x, hk, ⟨rfl, rfl⟩ | ⟨rfl, rfl⟩⟩ := fE_inv hj
      · simp only [List.getElem?_map, Option.map_eq_some_iff] at hk
        obtain ⟨i, hi', rfl⟩ := hk
        obtain ⟨hlt, rfl⟩ := List.getElem?_eq_some_iff.1 hi'
        simp at hlt
        simpa using (hg k hlt).1.1
      · simp only [List.getElem?_map, Option.map_eq_some_iff] at hk
        obtain ⟨i, hi', rfl⟩ := hk
        obtain ⟨hlt, rfl⟩ := List.getElem?_eq_some_iff.1 hi'
        simp at hlt
        simpa using (hg k hlt).2.1
    · obtain ⟨i, hi', rfl⟩ := List.mem_map.1 hx
      have := hg i (by simpa using hi')
      exact ⟨this.1.2, this.2.2⟩

theorem rd_D {t e ti tu tb : TypeId} {f0 f1 f2 : Field} {fuel : Nat} {v : Value} {x : DataW H × List MemPlace} (ht : P.underlying t = some (.slice e)) (he : P.underlying e = some (.struct #[f0, f1, f2]))
    (hone : oneCellFields P #[f0, f1, f2] = true) (hC : P.cellsOf e = 3) (h0 : f0.type = ti) (h1 : f1.type = tu) (h2 : f2.type = tb) (hi : P.underlying ti = some (.int .i64)) (hu : P.underlying tu = some (.int .u64)) (hb : P.underlying tb = some .bool)
    (h : DataW.trod enc P w base spare held fuel t [v] = some x) : ∃ A c l, v = .slice A l.length c ∧ Sl w A l.length c (fD l) ∧ WfD l := by
  rcases open_slice_fields ht he hone hC h with hcs | ⟨a, len, cap, hcs, hl, hm, hat⟩
  · simp only [List.cons.injEq, and_true] at hcs
    subst hcs
    exact ⟨none, 0, [], rfl, Sl.nil_ w, fun x hx => by cases hx⟩
  · simp only [List.cons.injEq, and_true] at hcs
    subst hcs
    have hg : ∀ i, i < len → (w.cell? (a.add (i * 3)) = some (.int .i64 (cellInt w (a.add (i * 3)))) ∧ InI (cellInt w (a.add (i * 3)))) ∧
        (w.cell? (a.add (i * 3 + 1)) = some (.int .u64 (cellInt w (a.add (i * 3 + 1)))) ∧ InU (cellInt w (a.add (i * 3 + 1)))) ∧ w.cell? (a.add (i * 3 + 2)) = some (.bool (cellBool w (a.add (i * 3 + 2)))) := by
      intro i hil
      obtain ⟨v0, y0, n0, hc0, ht0⟩ := hat i hil 0 f0 rfl
      obtain ⟨v1, y1, n1, hc1, ht1⟩ := hat i hil 1 f1 rfl
      obtain ⟨v2, y2, n2, hc2, ht2⟩ := hat i hil 2 f2 rfl
      rw [h0] at ht0
      rw [h1] at ht1
      rw [h2] at ht2
      obtain ⟨z0, e0, _, w0⟩ := DataW.trod_int hi ht0
      obtain ⟨z1, e1, _, w1⟩ := DataW.trod_int hu ht1
      obtain ⟨z2, e2, _⟩ := DataW.trod_bool hb ht2
      simp only [List.cons.injEq, and_true] at e0 e1 e2
      subst e0 e1 e2
      simp only [List.size_toArray, List.length_cons, List.length_nil, Nat.zero_add, Nat.reduceAdd, Nat.add_zero] at hc0 hc1 hc2
      exact ⟨⟨by simp [cellInt, hc0], by simpa [cellInt, hc0] using inI_of w0⟩, ⟨by simp [cellInt, hc1], by simpa [cellInt, hc1] using inU_of w1⟩, by simp [cellBool, hc2]⟩
    refine ⟨some a, cap, (List.range len).map fun i => (cellInt w (a.add (i * 3)), cellInt w (a.add (i * 3 + 1)), cellBool w (a.add (i * 3 + 2))), by simp, ⟨by simpa using hl, hm, (fun h => by cases h), fun _ => ⟨a, rfl, fun j u hj => ?_⟩⟩, fun x hx => ?_⟩
    · obtain ⟨k, x, hk, ⟨rfl, rfl⟩ | ⟨rfl, rfl⟩ | ⟨rfl, rfl⟩⟩ := fD_inv hj
      · simp only [List.getElem?_map, Option.map_eq_some_iff] at hk
        obtain ⟨i, hi', rfl⟩ := hk
        obtain ⟨hlt, rfl⟩ := List.getElem?_eq_some_iff.1 hi'
        simp at hlt
        simpa using (hg k hlt).1.1
      · simp only [List.getElem?_map, Option.map_eq_some_iff] at hk
        obtain ⟨i, hi', rfl⟩ := hk
        obtain ⟨hlt, rfl⟩ := List.getElem?_eq_some_iff.1 hi'
        simp at hlt
        simpa using (hg k hlt).2.1.1
      · simp only [List.getElem?_map, Option.map_eq_some_iff] at hk
        obtain ⟨i, hi', rfl⟩ := hk
        obtain ⟨hlt, rfl⟩ := List.getElem?_eq_some_iff.1 hi'
        simp at hlt
        simpa using (hg k hlt).2.2
    · obtain ⟨i, hi', rfl⟩ := List.mem_map.1 hx
      have := hg i (by simpa using hi')
      exact ⟨this.1.2, this.2.1.2⟩

/-- A slice argument, out of its reading. -/
theorem slice_cells {r : Reach} {b0 : Nat} {t e : TypeId} {v : Value} {d : DataW H} {p : List MemPlace} (ht : P.underlying t = some (.slice e)) (hv : Value.okWide P w r b0 t v) (h : DataW.Trod enc P w base spare held t v d p) :
    ∃ fuel, DataW.trod enc P w base spare held fuel t [v] = some (d, p) := by
  obtain ⟨a, len, cap, rfl⟩ := okWide_slice ht hv
  exact h
end
end Go.Proofs.Ytmkcpnklaijkfaa
/-
  The arguments of this seat's laws, opened.
-/
namespace Go.Proofs.Ytmkcpnklaijkfaa
open Go.RowKit Go.ChangeShapes Go.WideShapes Go.ChangeAt Go.Deep Go.Joins
set_option maxRecDepth 100000

theorem own_knob : ownKnob Try.prog.godebug = none := by kernel_rfl
theorem laid_out : laidOutB Try.prog = true := by kernel_rfl
section
variable {H : Type} {enc : TypeId × Value → H} {w : World} {base : Nat} {spare : Nat → Bool} {held : Bool} {r : Reach} {b0 : Nat} {v : Value} {d : DataW H} {p : List MemPlace}
theorem op_i (hv : Value.okWide Try.prog w r b0 3 v) (h : DataW.Trod enc Try.prog w base spare held 3 v d p) : ∃ x, v = .int .i64 x ∧ InI x := by
  obtain ⟨x, rfl, rfl, rfl, wx⟩ := open_int Try.underlying3 hv h
  exact ⟨x, rfl, inI_of wx⟩
theorem op_u (hv : Value.okWide Try.prog w r b0 24 v) (h : DataW.Trod enc Try.prog w base spare held 24 v d p) : ∃ x, v = .int .u64 x ∧ InU x := by
  obtain ⟨x, rfl, rfl, rfl, wx⟩ := open_int Try.underlying24 hv h
  exact ⟨x, rfl, inU_of wx⟩
theorem op_y (hv : Value.okWide Try.prog w r b0 5 v) (h : DataW.Trod enc Try.prog w base spare held 5 v d p) : ∃ x, v = .int .u8 x ∧ 0 ≤ x ∧ x ≤ 255 := by
  obtain ⟨x, rfl, rfl, rfl, wx⟩ := open_int Try.underlying5 hv h
  refine ⟨x, rfl, ?_⟩
  simp [Lit.wf, IntKind.min, IntKind.max, IntKind.signed, IntKind.bits] at wx
  exact ⟨by omega, by omega⟩
theorem op_U (hv : Value.okWide Try.prog w r b0 29 v) (h : DataW.Trod enc Try.prog w base spare held 29 v d p) : ∃ A c m, v = .slice A m.length c ∧ Sl w A m.length c (fU m) ∧ WfU m := by
  obtain ⟨fuel, hf⟩ := slice_cells Try.underlying29 hv h
  exact rd_U Try.underlying29 Try.underlying24 (by kernel_rfl) hf
theorem op_I (hv : Value.okWide Try.prog w r b0 112 v) (h : DataW.Trod enc Try.prog w base spare held 112 v d p) : ∃ A c m, v = .slice A m.length c ∧ Sl w A m.length c (fI m) ∧ WfI m := by
  obtain ⟨fuel, hf⟩ := slice_cells Try.underlying112 hv h
  exact rd_I Try.underlying112 Try.underlying3 (by kernel_rfl) hf
theorem op_E (hv : Value.okWide Try.prog w r b0 34 v) (h : DataW.Trod enc Try.prog w base spare held 34 v d p) : ∃ A c l, v = .slice A l.length c ∧ Sl w A l.length c (fE l) ∧ WfE l := by
  obtain ⟨fuel, hf⟩ := slice_cells Try.underlying34 hv h
  exact rd_E Try.underlying34 Try.underlying38 (by kernel_rfl) (by kernel_rfl) rfl rfl Try.underlying3 Try.underlying24 hf
theorem op_P (hv : Value.okWide Try.prog w r b0 23 v) (h : DataW.Trod enc Try.prog w base spare held 23 v d p) : ∃ a b c, v = .agg #[.int .i64 a, .int .i64 b, .int .i64 c] ∧ InI a ∧ InI b ∧ InI c := by
  obtain ⟨c0, c1, c2, y0, y1, y2, m, rfl, rfl, rfl, h0, h1, h2⟩ := open_agg3 Try.underlying23 (by kernel_rfl) (by kernel_rfl) hv h
  obtain ⟨a, e0, _, w0⟩ := DataW.trod_int Try.underlying3 h0
  obtain ⟨b, e1, _, w1⟩ := DataW.trod_int Try.underlying3 h1
  obtain ⟨c, e2, _, w2⟩ := DataW.trod_int Try.underlying3 h2
  simp only [List.cons.injEq, and_true] at e0 e1 e2
  subst e0 e1 e2
  exact ⟨a, b, c, rfl, inI_of w0, inI_of w1, inI_of w2⟩
theorem op_V (hv : Value.okWide Try.prog w r b0 46 v) (h : DataW.Trod enc Try.prog w base spare held 46 v d p) :
    ∃ A c m B k ds left down, v = .agg #[.slice A m.length c, .slice B ds.length k, .int .i64 left, .bool down] ∧ Sl w A m.length c (fU m) ∧ WfU m ∧ Sl w B ds.length k (fD ds) ∧ WfD ds ∧ InI left := by
  obtain ⟨c0, c1, c2, c3, y0, y1, y2, y3, n, rfl, rfl, rfl, h0, h1, h2, h3⟩ := open_agg4 Try.underlying46 (by kernel_rfl) (by kernel_rfl) hv h
  obtain ⟨A, c, m, rfl, hA, wA⟩ := rd_U Try.underlying29 Try.underlying24 (by kernel_rfl) h0
  obtain ⟨B, k, ds, rfl, hB, wB⟩ := rd_D Try.underlying44 Try.underlying88 (by kernel_rfl) (by kernel_rfl) rfl rfl rfl Try.underlying3 Try.underlying24 Try.underlying4 h1
  obtain ⟨a, e2, _, w2⟩ := DataW.trod_int Try.underlying3 h2
  obtain ⟨b, e3, _⟩ := DataW.trod_bool Try.underlying4 h3
  simp only [List.cons.injEq, and_true] at e2 e3
  subst e2 e3
  exact ⟨A, c, m, B, k, ds, a, b, rfl, hA, wA, hB, wB, inI_of w2⟩
end
end Go.Proofs.Ytmkcpnklaijkfaa
/-
  Contracts of the small functions: sizes, checks of images, comparisons, copies.
-/
namespace Go.Proofs.Ytmkcpnklaijkfaa
open Go.RowKit

set_option maxHeartbeats 400000 in
theorem imageSize_any (n : Int) (w : World) :
    Calls Try.prog 103 #[.int .i64 n] w fun e w' => e = .returned (.bool (sizeB n)) ∧ w = w' := by
  go_enter Try.func103, Try.ntmps103
  go_wp2
  all_goals go_ret
  all_goals refine ⟨ret_bool (Bool.eq_iff_iff.2 ?_), rfl⟩
  all_goals simp [sizeB]
  all_goals omega
set_option maxHeartbeats 400000 in
theorem refSize_any (n : Int) (w : World) :
    Calls Try.prog 72 #[.int .i64 n] w fun e w' => e = .returned (.bool (sizeB n)) ∧ w = w' := by
  go_enter Try.func72, Try.ntmps72
  go_wp2
  all_goals go_ret
  all_goals refine ⟨ret_bool (Bool.eq_iff_iff.2 ?_), rfl⟩
  all_goals simp [sizeB]
  all_goals omega
set_option maxHeartbeats 400000 in
theorem entrySize_any (n : Int) (w : World) :
    Calls Try.prog 107 #[.int .i64 n] w fun e w' => e = .returned (.int .i64 (szE n)) ∧ w = w' := by
  go_enter Try.func107, Try.ntmps107
  go_wp2
  all_goals go_ret
  all_goals refine ⟨ret_int ?_, rfl⟩
  all_goals simp_all [szE, sizeB]
  all_goals omega
set_option maxHeartbeats 400000 in
theorem entryMay_any (a n : Int) (w : World) :
    Calls Try.prog 108 #[.int .i64 a, .int .i64 n] w fun e w' => e = .returned (.bool (mayB a n)) ∧ w = w' := by
  go_enter Try.func108, Try.ntmps108
  go_wp2
  all_goals go_ret
  all_goals refine ⟨ret_bool (Bool.eq_iff_iff.2 ?_), rfl⟩
  all_goals simp [mayB]
  all_goals omega
set_option maxHeartbeats 400000 in
theorem refFree_any (a n : Int) (w : World) :
    Calls Try.prog 73 #[.int .i64 a, .int .i64 n] w fun e w' => e = .returned (.bool (mayB a n)) ∧ w = w' := by
  go_enter Try.func73, Try.ntmps73
  go_wp2
  all_goals go_ret
  all_goals refine ⟨ret_bool (Bool.eq_iff_iff.2 ?_), rfl⟩
  all_goals simp [mayB]
  all_goals omega
set_option maxHeartbeats 400000 in
theorem imageCheck_any (A : Option Addr) (n c : Nat) (w : World) :
    Calls Try.prog 68 #[.slice A n c] w fun e w' => e = .returned (.int .i64 (imgE n)) ∧ w = w' := by
  go_enter Try.func68, Try.ntmps68
  go_wp2_with (go_at_call 103; refine (imageSize_any _ _).mono ?_; rintro e w' ⟨rfl, rfl⟩)
  all_goals go_ret
  all_goals refine ⟨ret_int ?_, rfl⟩
  all_goals simp_all [imgE]
set_option maxHeartbeats 400000 in
theorem refCheck2_any (A : Option Addr) (n c : Nat) (w : World) :
    Calls Try.prog 46 #[.slice A n c] w fun e w' => e = .returned (.int .i64 (imgE n)) ∧ w = w' := by
  go_enter Try.func46, Try.ntmps46
  go_wp2_with (go_at_call 72; refine (refSize_any _ _).mono ?_; rintro e w' ⟨rfl, rfl⟩)
  all_goals go_ret
  all_goals refine ⟨ret_int ?_, rfl⟩
  all_goals simp_all [imgE]
set_option maxHeartbeats 400000 in
theorem great2_any (A : Option Addr) (n c : Nat) (w : World) :
    Calls Try.prog 39 #[.slice A n c] w fun e w' => e = .returned (.bool (decide (2100 < n))) ∧ w = w' := by
  go_enter Try.func39, Try.ntmps39
  go_wp2
  go_ret
  refine ⟨ret_bool (Bool.eq_iff_iff.2 ?_), rfl⟩
  simp
  omega
set_option maxHeartbeats 400000 in
theorem great8_any (A : Option Addr) (n c : Nat) (w : World) :
    Calls Try.prog 40 #[.slice A n c] w fun e w' => e = .returned (.bool (decide (50 < n))) ∧ w = w' := by
  go_enter Try.func40, Try.ntmps40
  go_wp2
  go_ret
  refine ⟨ret_bool (Bool.eq_iff_iff.2 ?_), rfl⟩
  simp
  omega
end Go.Proofs.Ytmkcpnklaijkfaa
/-
  Contracts of the comparisons of lists and of the copies.
-/
namespace Go.Proofs.Ytmkcpnklaijkfaa
open Go.RowKit

theorem take_eq_snoc {α : Type} {m o : List α} {k : Nat} {x : α} (h : m.take k = o.take k) (hx : m[k]? = some x) (hy : o[k]? = some x) : m.take (k + 1) = o.take (k + 1) := by
  rw [List.take_add_one, List.take_add_one, h, hx, hy]
theorem ne_of_at {α : Type} {m o : List α} {k : Nat} {x y : α} (hx : m[k]? = some x) (hy : o[k]? = some y) (h : x ≠ y) : m ≠ o := by
  rintro rfl
  rw [hx] at hy
  exact h (Option.some.inj hy)
theorem eq_of_take {α : Type} {m o : List α} {k : Nat} (h : m.take k = o.take k) (hm : m.length ≤ k) (ho : o.length ≤ k) : m = o := by
  rw [List.take_of_length_le hm, List.take_of_length_le ho] at h
  exact h

set_option maxHeartbeats 400000 in
theorem same2_any (m o : List Int) (A B : Option Addr) (c c' : Nat) (w : World) (hA : Sl w A m.length c (fU m)) (hB : Sl w B o.length c' (fU o)) :
    Calls Try.prog 38 #[.slice A m.length c, .slice B o.length c'] w fun e w' => e = .returned (.bool (decide (m = o))) ∧ Drew w w' := by
  have hm1 := hA.le
  have hm2 := hA.max
  unfold maxLen at hm2
  by_cases hl : m.length = o.length
  · go_enter Try.func38, Try.ntmps38
    have hb : ((m.length : Int) != (o.length : Int)) = false := by simp [hl]
    have H := Lib.hid hl
    clear hl
    go_wp2
    go_loopw [5] (fun i wr => ∃ k : Nat, k ≤ m.length ∧ i = .int .i64 k ∧ m.take k = o.take k ∧ Drew w wr) (fun i _ => m.length - (intOf i).toNat)
    case atStart => exact ⟨0, Nat.zero_le _, rfl, rfl, Drew.refl w⟩
    case round =>
      obtain ⟨k, hk, rfl, hh, n, rfl⟩ := hrel
      by_cases hlt : k < m.length
      · obtain ⟨a, x, rfl, hx, g1⟩ := hA.u_at hlt
        obtain ⟨b, y, rfl, hy, g2⟩ := hB.u_at (k := k) (by have := H.out; omega)
        have hlt2 : k < o.length := by have := H.out; omega
        have Hx := Lib.hid hx; have Hy := Lib.hid hy; have Hh := Lib.hid hh
        clear hx hy hA hB hh
        by_cases hxy : x = y
        · subst hxy
          go_wp2
          go_quiet (fail)
          go_wp2
          go_roundw
          case rel => exact ⟨k + 1, by omega, by go_num, take_eq_snoc Hh.out Hx.out Hy.out, drew_N w _⟩
          case measure => simp [intOf]; omega
        · go_wp2
          go_quiet (fail)
          have hxy' : (x != y) = true := by simpa using hxy
          go_wp2
          go_ret
          exact ⟨ret_bool (decide_eq_false (ne_of_at Hx.out Hy.out hxy)).symm, (drew_N w _).trans (drew_N _ _)⟩
      · go_wp2
        go_ret
        exact ⟨ret_bool (decide_eq_true (eq_of_take hh (by omega) (by have := H.out; omega))).symm, drew_N w _⟩
  · have hb : ((m.length : Int) != (o.length : Int)) = true := by simp; omega
    have hd : decide (m = o) = false := decide_eq_false (fun e => hl (by rw [e]))
    clear hA hB
    go_enter Try.func38, Try.ntmps38
    go_wp2
    go_ret
    exact ⟨ret_bool hd.symm, Drew.refl w⟩
theorem same2_yes (m o : List Int) (h : m = o) (A B : Option Addr) (c c' : Nat) (w : World) (hA : Sl w A m.length c (fU m)) (hB : Sl w B o.length c' (fU o)) :
    Calls Try.prog 38 #[.slice A m.length c, .slice B o.length c'] w fun e w' => e = .returned (.bool true) ∧ Drew w w' :=
  (same2_any m o A B c c' w hA hB).mono fun _ _ ⟨a, b⟩ => ⟨by rw [a, decide_eq_true h], b⟩
theorem same2_no (m o : List Int) (h : m ≠ o) (A B : Option Addr) (c c' : Nat) (w : World) (hA : Sl w A m.length c (fU m)) (hB : Sl w B o.length c' (fU o)) :
    Calls Try.prog 38 #[.slice A m.length c, .slice B o.length c'] w fun e w' => e = .returned (.bool false) ∧ Drew w w' :=
  (same2_any m o A B c c' w hA hB).mono fun _ _ ⟨a, b⟩ => ⟨by rw [a, decide_eq_false h], b⟩
end Go.Proofs.Ytmkcpnklaijkfaa
/-
  The comparison of lists of entries.
-/
namespace Go.Proofs.Ytmkcpnklaijkfaa
open Go.RowKit
end Go.Proofs.Ytmkcpnklaijkfaa
/-
  The contract of comparing lists of numbers.
-/
namespace Go.Proofs.Ytmkcpnklaijkfaa
open Go.RowKit

end Go.Proofs.Ytmkcpnklaijkfaa
/-
  The contracts of the copies of lists.
-/
namespace Go.Proofs.Ytmkcpnklaijkfaa
open Go.RowKit

set_option maxHeartbeats 400000 in
theorem twin2_any (m : List Int) (A : Option Addr) (c : Nat) (w : World) (hA : Sl w A m.length c (fU m)) (hl : m.length ≤ 100000) :
    Calls Try.prog 27 #[.slice A m.length c] w (RetOwn w 24 1 m.length (fU m)) := by
  go_enter Try.func27, Try.ntmps27
  go_wp2_with (at_builtin; refine wpList_app EU rfl (.tmp 3) (.tmp 4) rfl rfl (own_lit (w := w) (base := w.heap.size) (e := 24) (size := 1) #[] _ 0 (by simp) (Nat.le_refl _) (by decide) rfl) rfl (hA.alloc _) (by simp) (fU_one m) (by omega) (by simp) ?_; intro v' w' hown' hbel hat hgr)
  go_ret
  have h : w'.ownsRow w.heap.size 24 1 v' m.length (fU m) := by simpa using hown'
  exact retOwn_mk h (Below.trans ((Ext.refl w).alloc _) hbel)
theorem eql_nil_U (w : World) (A : Option Addr) (n c : Nat) : (binOp .eql 29 (.slice A n c) (.slice none 0 0)).run Try.prog w = .ok (.bool A.isNone) w :=
  Lib.run_eql_slice_nil w _ _ _ _ _ _ _ Try.underlying29
/-- A copy of a list of words: nil stays nil, whatever else is of the call's own. -/
theorem cloneU_any (m : List Int) (A : Option Addr) (c : Nat) (w : World) (hA : Sl w A m.length c (fU m)) (hl : m.length ≤ 100000) :
    Calls Try.prog 71 #[.slice A m.length c] w (RetOwn w 24 1 m.length (fU m)) := by
  have hq := eql_nil_U
  rcases A with _ | ad
  · have hc := hA.nil rfl
    have hm : m = [] := List.eq_nil_of_length_eq_zero (by have := hA.le; omega)
    subst hm
    go_enter Try.func71, Try.ntmps71
    go_wp2
    go_ret
    exact retOwn_mk (own_nil _ _ _ _) (Ext.refl w)
  · go_enter Try.func71, Try.ntmps71
    go_wp2_with (at_builtin; refine wpList_app EU rfl (.tmp 5) (.tmp 6) rfl rfl (own_lit (w := w) (base := w.heap.size) (e := 24) (size := 1) #[] _ 0 (by simp) (Nat.le_refl _) (by decide) rfl) rfl (hA.alloc _) (by simp) (fU_one m) (by omega) (by simp) ?_; intro v' w' hown' hbel hat hgr)
    go_ret
    have h : w'.ownsRow w.heap.size 24 1 v' m.length (fU m) := by simpa using hown'
    exact retOwn_mk h (Below.trans ((Ext.refl w).alloc _) hbel)
end Go.Proofs.Ytmkcpnklaijkfaa
/-
  Rows of words of the call's own: reading and storing.
-/
namespace Go.Proofs.Ytmkcpnklaijkfaa
open Go.RowKit

/-- A slice of the call's own that is not empty begins at the head of a row. -/
theorem own_head {w : World} {base : Nat} {e : TypeId} {size n : Nat} {A : Option Addr} {c : Nat} {xs : List Value} (h : w.ownsRow base e size (.slice A n c) n xs) (hn : 0 < n) : ∃ g, A = some ⟨g, 0, none⟩ ∧ base ≤ g := by
  rcases h.2 with ⟨hv, hz⟩ | ⟨g, cap, cur, hv, hb, _⟩
  · omega
  · injection hv with h1 h2 h3
    exact ⟨g, h1, hb⟩
theorem fU_set (m : List Int) (i : Nat) (y : Int) : (fU m).set i (.int .u64 y) = fU (m.set i y) := by simp [fU, List.map_set]
/-- A store into a row of words of the call's own. -/
theorem own_set_U {w : World} {base : Nat} {e : TypeId} {g n c : Nat} {m : List Int} (h : w.ownsRow base e 1 (.slice (some ⟨g, 0, none⟩) n c) n (fU m)) (i : Nat) (y : Int) :
    (w.setCell ⟨g, i, none⟩ (.int .u64 y)).ownsRow base e 1 (.slice (some ⟨g, 0, none⟩) n c) n (fU (m.set i y)) := by
  have := (h.stored i (.int .u64 y)).1
  rwa [fU_set] at this
theorem own_at_U {w : World} {base : Nat} {e : TypeId} {g n c : Nat} {m : List Int} (h : w.ownsRow base e 1 (.slice (some ⟨g, 0, none⟩) n c) n (fU m)) {i : Nat} (hi : i < m.length) :
    ∃ y, m[i]? = some y ∧ w.cell? ⟨g, i, none⟩ = some (.int .u64 y) ∧ w.frozen? ⟨g, i, none⟩ = false := by
  have hl := h.1
  simp at hl
  refine ⟨m[i], List.getElem?_eq_getElem hi, ?_, h.frozenAt i⟩
  rw [h.cellAt i (by omega)]
  exact fU_get (List.getElem?_eq_getElem hi)
end Go.Proofs.Ytmkcpnklaijkfaa
/-
  Dirty words in memory: cuts, stores into a row of the call's own, and copies.
-/
namespace Go.Proofs.Ytmkcpnklaijkfaa
open Go.RowKit
theorem fD_take (l : List Dw) (k : Nat) : fD (l.take k) = (fD l).take (k * 3) := by
  induction l generalizing k with
  | nil => simp [fD]
  | cons e l ih =>
    cases k with
    | zero => simp [fD]
    | succ k => rw [show (k + 1) * 3 = k * 3 + 1 + 1 + 1 from by omega]; simp [fD, ih]
theorem fD_drop (l : List Dw) (k : Nat) : fD (l.drop k) = (fD l).drop (k * 3) := by
  induction l generalizing k with
  | nil => simp [fD]
  | cons e l ih =>
    cases k with
    | zero => simp
    | succ k => rw [show (k + 1) * 3 = k * 3 + 1 + 1 + 1 from by omega]; simp [fD, ih]
/-- The dirty word at an index, in the walk's spelling of addresses. -/
theorem Sl.d_at' {w : World} {A : Option Addr} {n c : Nat} {l : List Dw} (h : Sl w A n c (fD l)) {k : Nat} (hk : k < l.length) :
    ∃ ad x, A = some ad ∧ l[k]? = some x ∧ w.cell? (ad.add (k * 3)) = some (.int .i64 x.1) ∧ w.cell? ⟨(ad.add (k * 3)).block, (ad.add (k * 3)).off + 1, none⟩ = some (.int .u64 x.2.1) ∧ w.cell? ⟨(ad.add (k * 3)).block, (ad.add (k * 3)).off + 2, none⟩ = some (.bool x.2.2) := h.d_at hk
theorem retOwn_ext {w0 w' w'' : World} {e : TypeId} {size n : Nat} {xs : List Value} {A : Option Addr} {c : Nat} (h : w'.ownsRow w0.heap.size e size (.slice A n c) n xs) (x : Ext w' w'') : w''.ownsRow w0.heap.size e size (.slice A n c) n xs := own_ext h x
theorem eql_nil_D (w : World) (A : Option Addr) (n c : Nat) : (binOp .eql 44 (.slice A n c) (.slice none 0 0)).run Try.prog w = .ok (.bool A.isNone) w :=
  Lib.run_eql_slice_nil w _ _ _ _ _ _ _ Try.underlying44
/-- A copy of a list of dirty words: nil stays nil, whatever else is of the call's own. -/
theorem cloneD_any (q : List Dw) (A : Option Addr) (c : Nat) (w : World) (hA : Sl w A q.length c (fD q)) (hl : q.length ≤ 100000) :
    Calls Try.prog 87 #[.slice A q.length c] w (RetOwn w 88 3 q.length (fD q)) := by
  have hq := eql_nil_D
  rcases A with _ | ad
  · have hc := hA.nil rfl
    have hm : q = [] := List.eq_nil_of_length_eq_zero (by have := hA.le; omega)
    subst hm
    go_enter Try.func87, Try.ntmps87
    go_wp2
    go_ret
    exact retOwn_mk (own_nil _ _ _ _) (Ext.refl w)
  · go_enter Try.func87, Try.ntmps87
    go_wp2_with (at_builtin; refine wpList_app ED rfl (.tmp 5) (.tmp 6) rfl rfl (own_lit (w := w) (base := w.heap.size) (e := 88) (size := 3) #[] _ 0 (by simp) (Nat.le_refl _) (by decide) rfl) rfl (hA.alloc _) (fD_length q) (fD_one q) (by omega) (by simp) ?_; intro v' w' hown' hbel hat hgr)
    go_ret
    have h : w'.ownsRow w.heap.size 88 3 v' q.length (fD q) := by simpa using hown'
    exact retOwn_mk h (Below.trans ((Ext.refl w).alloc _) hbel)
end Go.Proofs.Ytmkcpnklaijkfaa
/-
  The contracts of the words of an image: copying, getting, putting, comparing.
-/
namespace Go.Proofs.Ytmkcpnklaijkfaa
open Go.RowKit

/-- A slice of the call's own that is not empty begins at the head of a row. -/
theorem own_head' {w : World} {base : Nat} {e : TypeId} {size n : Nat} {A : Option Addr} {c : Nat} {xs : List Value} (h : w.ownsRow base e size (.slice A n c) n xs) (hn : 0 < n) : ∃ g, A = some ⟨g, 0, none⟩ ∧ base ≤ g := by
  rcases h.2 with ⟨hv, hz⟩ | ⟨g, cap, cur, hv, hb, _⟩
  · omega
  · injection hv with h1 h2 h3
    exact ⟨g, h1, hb⟩
theorem splice_take {α : Type} (cur : List α) (off n : Nat) (cs : List α) (h : off + cs.length ≤ n) (hn : n ≤ cur.length) : (splice cur off cs).take n = splice (cur.take n) off cs := by
  apply List.ext_getElem?
  intro i
  simp only [splice, List.getElem?_take, List.getElem?_append, List.getElem?_drop, List.length_take]
  rw [Nat.min_eq_left (by omega), Nat.min_eq_left (by omega)]
  (repeat' split) <;> first | rfl | omega | (congr 1; omega)

/-- 'copy' into a row of the call's own, cells one by one. -/
theorem wpList_copyU {P : Program} {w : World} {t e : TypeId} {bytes : Nat} (E : ElT P t e 1 bytes) {ops : Array Oper} {rest : List Oper} {o : Oper} {a : Act} {Q : Exit → Act → World → Prop} (hgd : o.guard = none) (d s : Operand) (sT : TypeId)
    (ho : o.op = .call { callee := .builtin .copy, args := #[d, s], argTypes := #[t, sT] })
    {base g n cap : Nat} {xs : List Value} (hown : w.ownsRow base e 1 (.slice (some ⟨g, 0, none⟩) n cap) n xs)
    {dp : Option Addr} {dLen dCap : Nat} (hd : a.eval d = .slice dp dLen dCap) {A : Option Addr} {m c : Nat} {news : List Value} (hs : a.eval s = .slice A m c) (hr : Sl w A m c news)
    (off : Nat) (hl : news.length = m) (hm : m ≤ dLen) (hdp : 0 < dLen → dp = some ⟨g, off, none⟩) (hoff : off + dLen ≤ n) (h1 : ∀ u ∈ news, u.oneCell' = true) (hbg : base ≤ g)
    (h : ∀ w', w'.ownsRow base e 1 (.slice (some ⟨g, 0, none⟩) n cap) n (splice xs off news) → Below base w w' → wpList P ops Q rest (a.put o.dst (goInt m)) w') :
    wpList P ops Q (o :: rest) a w := by
  obtain ⟨i, z, hi, hz, hsize, hby, hzs⟩ := E.inf
  obtain ⟨hxl, ⟨hv, _⟩ | ⟨g', cap', cur, hv, hb, hg, hn, hmx, hcs, htake⟩⟩ := hown
  · cases hv
  · injection hv with e1 e2 e3
    injection e1 with e1
    injection e1 with e1
    subst e1 e3
    refine wpList_copy_splice hgd d s t sT ho e E.und (by simp [hi, hsize]) dp A dLen dCap m c hd hs g off cur.toList e (by simpa using hg) news (by rw [hl]; exact (Nat.min_eq_left hm).symm)
      (fun h0 => ⟨hdp (by omega), hr.cells (by intro h2; subst h2; simp at h0)⟩) (by rw [hl]; simp [hcs]; omega) h1 base w (Below.refl _ _) hbg ?_
    intro w' hw' hb'
    rw [hl]
    refine h w' ⟨?_, .inr ⟨g, cap, (splice cur.toList off news).toArray, rfl, hb, hw'.out, hn, hmx, ?_, ?_⟩⟩ hb'
    · rw [length_splice _ _ _ (by rw [hl, hxl]; omega)]; exact hxl
    · simp only [List.size_toArray]
      rw [length_splice _ _ _ (by rw [hl]; simp [hcs]; omega)]
      simpa using hcs
    · simp only
      rw [← htake]
      refine splice_take _ _ _ _ (by rw [hl]; omega) ?_
      simp [hcs]; omega
theorem splice_all {α : Type} (Z cs : List α) (h : cs.length = Z.length) : splice Z 0 cs = cs := by simp [splice, h]
theorem fU_splice (m : List Int) (off : Nat) (l : List Int) : splice (fU m) off (fU l) = fU (splice m off l) := by simp [splice, fU, List.map_take, List.map_drop]

end Go.Proofs.Ytmkcpnklaijkfaa
/-
  The contracts of 'Get', 'Put' and 'Diff' on images.
-/
namespace Go.Proofs.Ytmkcpnklaijkfaa
open Go.RowKit

/-- A slice of its own and 0; or nothing, and the error. -/
def RetS' (w : World) (T size n : Nat) (xs : List Value) (er : Int) (en : Ending) (w' : World) : Prop :=
  (er = 0 ∧ RetOwn2 w T size n xs 0 en w') ∨ (er ≠ 0 ∧ en = .returned (.tuple #[.slice none 0 0, .int .i64 er]) ∧ Ext w w')
theorem rngE_ok {n a k : Int} (h : rngE n a k = 0) : sizeB n = true ∧ 0 ≤ a ∧ 0 ≤ k ∧ a ≤ n ∧ a + k ≤ n := by
  unfold rngE at h
  split at h
  · split at h
    · simp at h
    · refine ⟨by assumption, ?_⟩; omega
  · simp at h
theorem cutU {w : World} {A : Option Addr} {c : Nat} {m : List Int} (h : Sl w A m.length c (fU m)) {a k : Nat} (hk : a + k ≤ m.length) :
    Sl w (if c = a then A else A.map (·.add (a * 1))) k (c - a) (fU ((m.drop a).take k)) := by
  have hle := h.le
  have hmax := h.max
  refine ⟨by omega, by unfold maxLen at *; omega, fun h0 => ?_, fun hx => ?_⟩
  · by_cases hc : c = a
    · omega
    · rw [if_neg hc] at h0
      have := h.nil (by simpa using h0)
      omega
  · have hpos : a < m.length := by
      rcases Nat.lt_or_ge a m.length with h1 | h1
      · exact h1
      · rw [List.drop_eq_nil_of_le h1] at hx
        exact absurd (by simp [fU]) hx
    obtain ⟨ad, rfl, hc⟩ := h.cells (by intro h0; have := congrArg List.length h0; simp at this; subst this; simp at hpos)
    rw [if_neg (by omega)]
    refine ⟨ad.add (a * 1), rfl, fun j u hu => ?_⟩
    rw [add_of_add, Nat.mul_one]
    refine hc _ u ?_
    have hj : j < k := by
      have := (List.getElem?_eq_some_iff.1 hu).1
      simp at this
      omega
    simp only [fU, List.getElem?_map, List.getElem?_take, if_pos hj, List.getElem?_drop] at hu
    simpa [fU] using hu
/-- The addresses at which two images differ, among the first k. -/
def diffN (a b : List Int) (k : Nat) : List Int := ((List.range k).filter fun i => a[i]? != b[i]?).map Int.ofNat
theorem diffN_succ (a b : List Int) (k : Nat) : diffN a b (k + 1) = diffN a b k ++ if a[k]? != b[k]? then [(k : Int)] else [] := by
  simp only [diffN, List.range_succ, List.filter_append, List.map_append]
  congr 1
  by_cases h : a[k]? != b[k]? <;> simp [h]
theorem diffN_length (a b : List Int) (k : Nat) : (diffN a b k).length ≤ k := by
  simp only [diffN, List.length_map]
  exact Nat.le_trans (List.length_filter_le _ _) (by simp)
theorem mem_diffN {a b : List Int} {k : Nat} {x : Int} : x ∈ diffN a b k ↔ ∃ i, i < k ∧ x = (i : Int) ∧ a[i]? ≠ b[i]? := by
  simp only [diffN, List.mem_map, List.mem_filter, List.mem_range]
  constructor
  · rintro ⟨i, ⟨h1, h2⟩, rfl⟩
    exact ⟨i, h1, rfl, by simpa using h2⟩
  · rintro ⟨i, h1, rfl, h2⟩
    exact ⟨i, ⟨h1, by simpa using h2⟩, rfl⟩

end Go.Proofs.Ytmkcpnklaijkfaa
/-
  'make' of words: a row of the call's own, all zero.
-/
namespace Go.Proofs.Ytmkcpnklaijkfaa
open Go.RowKit
/-- So many words 0. -/
def zerosU (n : Nat) : List Int := List.replicate n 0
theorem zerosU_length (n : Nat) : (zerosU n).length = n := by simp [zerosU]
theorem wf_zeros (n : Nat) : WfU (zerosU n) := fun x hx => by
  have := List.eq_of_mem_replicate hx
  subst this
  unfold InU; decide
theorem wpList_zeros {w : World} {ops : Array Oper} {rest : List Oper} {o : Oper} {a : Act} {Q : Exit → Act → World → Prop}
    (hg : o.guard = none) (l c : Operand) (hop : o.op = Op.makeSlice 29 l c) (n : Nat) (hn : n ≤ 100000) (kl kc : IntKind) (L C : Int) (hl : a.eval l = .int kl L) (hc : a.eval c = .int kc C) (hL : L = (n : Int)) (hC : C = (n : Int))
    (hK : ∀ w', w'.ownsRow w.heap.size 24 1 (.slice (some ⟨w.heap.size, 0, none⟩) n n) n (fU (zerosU n)) → Ext w w' → w'.heap.size = w.heap.size + 1 → wpList Try.prog ops Q rest (a.put o.dst (.slice (some ⟨w.heap.size, 0, none⟩) n n)) w') :
    wpList Try.prog ops Q (o :: rest) a w := by
  obtain ⟨i, hi, hz, hs, hb⟩ := info_parts (show (Try.prog.info? 24).map (fun i => (i.zero, i.size, i.bytes)) = some (some (.int .u64 0), 1, 8) by kernel_rfl)
  have h63 : (n : Int) ≤ 9223372036854775807 := by omega
  have hbb : (i.bytes : Int) * (n : Int) ≤ 281474976710656 := by rw [hb]; omega
  have hr := run_make (P := Try.prog) w 29 24 i (.int .u64 0) Try.underlying29 hi hz kl kc n n (by omega) (Int.le_refl _) hbb h63
  simp only [Int.toNat_natCast] at hr
  have e1 : (madeCells (Value.int .u64 0).cells (n * i.size)).toList = fU (zerosU n) := by
    rw [hs]
    have : (Value.int .u64 0).cells = #[Value.int .u64 0] := rfl
    rw [this, toList_madeCells_one, zerosU, fU, List.map_replicate, Nat.mul_one]
  refine wpList_plain hg fun K hK' => ?_
  subst hL
  subst hC
  unfold Oper.wp
  simp [execOp, hop, hl, hc, hr, Result.andThen]
  refine hK' _ _ (hK _ ?_ ((Ext.refl w).alloc _) (by simp))
  rw [← e1]
  exact World.ownsRow_lit w _ n (Nat.le_refl _) (by unfold maxLen; omega) (by rw [size_madeCells, hs])
theorem own_sl {w : World} {base : Nat} {e : TypeId} {size : Nat} {A : Option Addr} {c n : Nat} {xs : List Value} (h : w.ownsRow base e size (.slice A n c) n xs) : Sl w A n c xs := by
  obtain ⟨A', c', hv, hs⟩ := Sl.of_own h
  injection hv with h1 h2 h3
  subst h1 h3
  exact hs
end Go.Proofs.Ytmkcpnklaijkfaa
/-
  'make' of entries: a row of the call's own, all zero.
-/
namespace Go.Proofs.Ytmkcpnklaijkfaa
open Go.RowKit
/-- So many entries 0. -/
def zerosE (n : Nat) : List (Int × Int) := List.replicate n (0, 0)
theorem zerosE_length (n : Nat) : (zerosE n).length = n := by simp [zerosE]
theorem wf_zerosE (n : Nat) : WfE (zerosE n) := fun x hx => by
  have := List.eq_of_mem_replicate hx
  subst this
  unfold InI InU; decide
theorem wpList_zerosE {w : World} {ops : Array Oper} {rest : List Oper} {o : Oper} {a : Act} {Q : Exit → Act → World → Prop}
    (hg : o.guard = none) (l c : Operand) (hop : o.op = Op.makeSlice 34 l c) (n : Nat) (hn : n ≤ 100000) (kl kc : IntKind) (L C : Int) (hl : a.eval l = .int kl L) (hc : a.eval c = .int kc C) (hL : L = (n : Int)) (hC : C = (n : Int))
    (e1 : (madeCells #[Value.int .i64 0, Value.int .u64 0] (n * 2)).toList = fE (zerosE n))
    (hK : ∀ w', w'.ownsRow w.heap.size 38 2 (.slice (some ⟨w.heap.size, 0, none⟩) n n) n (fE (zerosE n)) → Ext w w' → w'.heap.size = w.heap.size + 1 → wpList Try.prog ops Q rest (a.put o.dst (.slice (some ⟨w.heap.size, 0, none⟩) n n)) w') :
    wpList Try.prog ops Q (o :: rest) a w := by
  obtain ⟨i, hi, hz, hs, hb⟩ := info_parts (show (Try.prog.info? 38).map (fun i => (i.zero, i.size, i.bytes)) = some (some (.agg #[.int .i64 0, .int .u64 0]), 2, 16) by kernel_rfl)
  have h63 : (n : Int) ≤ 9223372036854775807 := by omega
  have hbb : (i.bytes : Int) * (n : Int) ≤ 281474976710656 := by rw [hb]; omega
  have hr := run_make (P := Try.prog) w 34 38 i (.agg #[.int .i64 0, .int .u64 0]) Try.underlying34 hi hz kl kc n n (by omega) (Int.le_refl _) hbb h63
  simp only [Int.toNat_natCast] at hr
  have e2 : (madeCells (Value.agg #[.int .i64 0, .int .u64 0]).cells (n * i.size)).toList = fE (zerosE n) := by
    rw [hs]
    exact e1
  refine wpList_plain hg fun K hK' => ?_
  subst hL
  subst hC
  unfold Oper.wp
  simp [execOp, hop, hl, hc, hr, Result.andThen]
  refine hK' _ _ (hK _ ?_ ((Ext.refl w).alloc _) (by simp))
  rw [← e2]
  exact World.ownsRow_lit w _ n (Nat.le_refl _) (by unfold maxLen; omega) (by rw [size_madeCells, hs])
theorem zerosE_at : ∀ (n j : Nat), (fE (zerosE n))[j]? = if j < n * 2 then some (if j % 2 = 0 then Value.int .i64 0 else Value.int .u64 0) else none
  | 0, j => by simp [zerosE, fE]
  | n + 1, 0 => by simp [zerosE, List.replicate_succ, fE]
  | n + 1, 1 => by simp [zerosE, List.replicate_succ, fE]; omega
  | n + 1, j + 2 => by
    have h := zerosE_at n j
    have e : fE (zerosE (n + 1)) = .int .i64 0 :: .int .u64 0 :: fE (zerosE n) := by simp [zerosE, List.replicate_succ, fE]
    rw [e, List.getElem?_cons_succ, List.getElem?_cons_succ, h, show (j + 2) % 2 = j % 2 from by omega]
    by_cases hj : j < n * 2
    · rw [if_pos hj, if_pos (show j + 2 < (n + 1) * 2 by omega)]
    · rw [if_neg hj, if_neg (show ¬ j + 2 < (n + 1) * 2 by omega)]
theorem madeE (n : Nat) : (madeCells #[Value.int .i64 0, Value.int .u64 0] (n * 2)).toList = fE (zerosE n) := by
  apply List.ext_getElem?
  intro j
  rw [zerosE_at]
  by_cases hj : j < n * 2
  · rcases (by omega : j % 2 = 0 ∨ j % 2 = 1) with h | h <;> simp [madeCells, hj, h]
  · simp [madeCells, hj]
end Go.Proofs.Ytmkcpnklaijkfaa
/-
  Operations of devices, in plain terms: what a list of them makes of a device, what is loaded then, and Put as such a list.
-/
namespace Go.Proofs.Ytmkcpnklaijkfaa

/-- An operation: a store, a flush, a fence. -/
inductive Dop where
  | st (a v : Int)
  | fl (a : Int)
  | fe
/-- What an operation that is made does to the safe words and the dirty ones. -/
def effD (s : List Int × List Dw) : Dop → List Int × List Dw
  | .st a v => (s.1, insD a v s.2)
  | .fl a => (s.1, fluD a s.2)
  | .fe => (fenM s.1 s.2, fenD s.2)
def effs (s : List Int × List Dw) (os : List Dop) : List Int × List Dw := os.foldl effD s
/-- What an operation makes of a device. -/
def stepD (D : List Int × List Dw × Int × Bool) (o : Dop) : List Int × List Dw × Int × Bool :=
  if D.2.2.1 = 0 then (D.1, D.2.1, 0, true) else ((effD (D.1, D.2.1) o).1, (effD (D.1, D.2.1) o).2, spL D.2.2.1, D.2.2.2)
def runD (D : List Int × List Dw × Int × Bool) (os : List Dop) : List Int × List Dw × Int × Bool := os.foldl stepD D
/-- The lines of entries, among the first n. -/
def lineL (l : List (Int × Int)) (n : Nat) : List Nat := (List.range n).filter fun i => l.any fun e => decide (e.1 / 8 = (i : Int))
def stOps (l : List (Int × Int)) : List Dop := l.map fun e => Dop.st e.1 e.2
def flOps (l : List (Int × Int)) (n : Nat) : List Dop := (lineL l n).map fun i : Nat => Dop.fl (8 * (i : Int))
def putOps (l : List (Int × Int)) (n : Nat) : List Dop := stOps l ++ (flOps l n ++ [Dop.fe])

theorem runD_append (D : List Int × List Dw × Int × Bool) (a b : List Dop) : runD D (a ++ b) = runD (runD D a) b := by simp [runD]
theorem runD_cons (D : List Int × List Dw × Int × Bool) (o : Dop) (b : List Dop) : runD D (o :: b) = runD (stepD D o) b := rfl
theorem effs_append (s : List Int × List Dw) (a b : List Dop) : effs s (a ++ b) = effs (effs s a) b := by simp [effs]
theorem effs_cons (s : List Int × List Dw) (o : Dop) (b : List Dop) : effs s (o :: b) = effs (effD s o) b := rfl

/- a device that is down, one that never stops, one that has operations left -/
theorem runD_down (m : List Int) (q : List Dw) : ∀ (os : List Dop), runD (m, q, 0, true) os = (m, q, 0, true)
  | [] => rfl
  | o :: os => by rw [runD_cons, show stepD (m, q, 0, true) o = (m, q, 0, true) from by simp [stepD]]; exact runD_down m q os
theorem runD_free (m : List Int) (q : List Dw) (down : Bool) {left : Int} (h : left < 0) : ∀ (os : List Dop) , runD (m, q, left, down) os = ((effs (m, q) os).1, (effs (m, q) os).2, left, down) := by
  intro os
  induction os generalizing m q with
  | nil => rfl
  | cons o os ih =>
    have h1 : left ≠ 0 := by omega
    have h2 : ¬ 0 < left := by omega
    rw [runD_cons, show stepD (m, q, left, down) o = ((effD (m, q) o).1, (effD (m, q) o).2, left, down) from by simp [stepD, h1, spL, h2], ih]; rfl
theorem runD_left (m : List Int) (q : List Dw) (down : Bool) : ∀ (os : List Dop) (left : Nat), os.length ≤ left → runD (m, q, (left : Int), down) os = ((effs (m, q) os).1, (effs (m, q) os).2, (left : Int) - os.length, down) := by
  intro os
  induction os generalizing m q with
  | nil => intro left _; simp [runD, effs]
  | cons o os ih =>
    intro left h
    simp only [List.length_cons] at h
    obtain ⟨k, rfl⟩ : ∃ k, left = k + 1 := ⟨left - 1, by omega⟩
    have h1 : ((k + 1 : Nat) : Int) ≠ 0 := by omega
    have h2 : (0 : Int) < ((k + 1 : Nat) : Int) := by omega
    rw [runD_cons, show stepD (m, q, ((k + 1 : Nat) : Int), down) o = ((effD (m, q) o).1, (effD (m, q) o).2, (k : Int), down) from by
      simp only [stepD, spL]
      rw [if_neg h1, if_pos h2]
      rw [show ((k + 1 : Nat) : Int) - 1 = k from by omega], ih _ _ k (by omega)]
    rw [show (k : Int) - os.length = ((k + 1 : Nat) : Int) - (o :: os).length from by simp only [List.length_cons]; omega]
    rfl
theorem runD_stop (m : List Int) (q : List Dw) (down : Bool) (os : List Dop) (left : Nat) (h : left < os.length) : runD (m, q, (left : Int), down) os = ((effs (m, q) (os.take left)).1, (effs (m, q) (os.take left)).2, 0, true) := by
  have h1 := List.take_append_drop left os
  conv => lhs; rw [← h1]
  rw [runD_append, runD_left _ _ _ _ _ (by simp; omega)]
  rw [show (left : Int) - (os.take left).length = 0 from by simp only [List.length_take]; omega]
  obtain ⟨o, r, hr⟩ : ∃ o r, os.drop left = o :: r := ⟨_, _, List.drop_eq_getElem_cons h⟩
  rw [hr, runD_cons]
  rw [show stepD ((effs (m, q) (os.take left)).1, (effs (m, q) (os.take left)).2, 0, down) o = ((effs (m, q) (os.take left)).1, (effs (m, q) (os.take left)).2, 0, true) from by simp [stepD]]
  exact runD_down _ _ _

/- what is loaded -/
theorem wrd_set : ∀ {q : List Dw} {m : List Int} {i : Nat} {v : Int}, (∀ x ∈ q, x.1.toNat ≠ i) → wrd (m.set i v) q = (wrd m q).set i v
  | [], _, _, _, _ => rfl
  | x :: l, m, i, v, h => by
    rw [wrd_cons, wrd_cons, List.set_comm _ _ (Ne.symm (h x (List.mem_cons_self ..))), wrd_set (fun y hy => h y (List.mem_cons_of_mem _ hy))]
theorem wrd_ins {n a v : Int} (ha : 0 ≤ a) : ∀ {q : List Dw} {b : Int} {m : List Int}, -1 ≤ b → ascB n b q = true → wrd m (insD a v q) = (wrd m q).set a.toNat v
  | [], _, _, _, _ => rfl
  | x :: l, b, m, hb, hq => by
    simp only [ascB, Bool.and_eq_true, decide_eq_true_eq] at hq
    have hl : ∀ y ∈ l, x.1 < y.1 := fun y hy => (ascB_mem hq.2 y hy).1
    unfold insD
    split
    · rw [wrd_cons, wrd_cons]; exact wrd_ins ha (by omega) hq.2
    · split
      · rename_i h1 h2
        have hf : ∀ y ∈ l, y.1.toNat ≠ a.toNat := fun y hy => by have := hl y hy; omega
        rw [wrd_cons, wrd_cons, ← wrd_set hf]
        simp only [h2]
        rw [List.set_set]
      · rename_i h1 h2
        have hf : ∀ y ∈ x :: l, y.1.toNat ≠ a.toNat := fun y hy => by
          rcases List.mem_cons.1 hy with rfl | hy
          · omega
          · have := hl y hy; omega
        rw [wrd_cons (x := (a, v, false))]
        exact wrd_set hf
theorem wrd_flu (a : Int) : ∀ (q : List Dw) (m : List Int), wrd m (fluD a q) = wrd m q
  | [], _ => rfl
  | x :: l, m => by
    have e : fluD a (x :: l) = (if x.1 / 8 = a / 8 then (x.1, x.2.1, true) else x) :: fluD a l := rfl
    rw [e, wrd_cons, wrd_cons, wrd_flu a l]
    split <;> rfl
theorem fenM_cons (m : List Int) (x : Dw) (l : List Dw) : fenM m (x :: l) = fenM (if x.2.2 then m.set x.1.toNat x.2.1 else m) l := rfl
theorem fenM_far : ∀ {q : List Dw} {m : List Int} {i : Nat}, (∀ x ∈ q, x.2.2 = true → x.1.toNat ≠ i) → (fenM m q)[i]? = m[i]?
  | [], _, _, _ => rfl
  | x :: l, m, i, h => by
    rw [fenM_cons, fenM_far (fun y hy => h y (List.mem_cons_of_mem _ hy))]
    split
    · rename_i hf
      rw [List.getElem?_set_ne (h x (List.mem_cons_self ..) hf)]
    · rfl
theorem fenM_at {n : Int} : ∀ {q : List Dw} {b : Int} {m : List Int}, -1 ≤ b → ascB n b q = true → (m.length : Int) = n → ∀ x ∈ q, x.2.2 = true → (fenM m q)[x.1.toNat]? = some x.2.1
  | [], _, _, _, _, _, x, hx, _ => by cases hx
  | y :: l, b, m, hb, hq, hm, x, hx, hf => by
    simp only [ascB, Bool.and_eq_true, decide_eq_true_eq] at hq
    rw [fenM_cons]
    rcases List.mem_cons.1 hx with rfl | hx
    · rw [if_pos hf, fenM_far, List.getElem?_set_self (by omega)]
      intro z hz _
      have := ascB_mem hq.2 z hz
      omega
    · exact fenM_at (by omega) hq.2 (by split <;> simpa using hm) x hx hf
theorem asc_inj {n : Int} : ∀ {q : List Dw} {b : Int}, ascB n b q = true → ∀ x ∈ q, ∀ y ∈ q, x.1 = y.1 → x = y
  | [], _, _, x, hx, _, _, _ => by cases hx
  | z :: l, b, hq, x, hx, y, hy, h => by
    simp only [ascB, Bool.and_eq_true, decide_eq_true_eq] at hq
    rcases List.mem_cons.1 hx with e1 | h1
    · rcases List.mem_cons.1 hy with e2 | h2
      · rw [e1, e2]
      · have := (ascB_mem hq.2 y h2).1; rw [e1] at h; omega
    · rcases List.mem_cons.1 hy with e2 | h2
      · have := (ascB_mem hq.2 x h1).1; rw [e2] at h; omega
      · exact asc_inj hq.2 x h1 y h2 h
theorem wrd_fen {n : Int} {q : List Dw} {b : Int} {m : List Int} (hb : -1 ≤ b) (hq : ascB n b q = true) (hm : (m.length : Int) = n) : wrd (fenM m q) (fenD q) = wrd m q := by
  have hq2 := ascB_fen hq
  have hm2 : ((fenM m q).length : Int) = n := by rw [fenM_length]; exact hm
  apply List.ext_getElem?
  intro i
  by_cases h : ∃ x ∈ q, x.1.toNat = i
  · obtain ⟨x, hx, rfl⟩ := h
    rw [wrd_at hb hq hm x hx]
    cases hf : x.2.2 with
    | false => exact wrd_at hb hq2 hm2 x (List.mem_filter.2 ⟨hx, by simp [hf]⟩)
    | true =>
      rw [wrd_far, fenM_at hb hq hm x hx hf]
      intro y hy he
      obtain ⟨hy1, hy2⟩ := List.mem_filter.1 hy
      have k1 := ascB_mem hq x hx
      have k2 := ascB_mem hq y hy1
      have := asc_inj hq y hy1 x hx (by omega)
      subst this
      simp [hf] at hy2
  · have h' : ∀ x ∈ q, x.1.toNat ≠ i := fun x hx he => h ⟨x, hx, he⟩
    rw [wrd_far h', wrd_far (q := fenD q) (fun x hx => h' x (List.mem_filter.1 hx).1), fenM_far (fun x hx _ => h' x hx)]

/- a list of operations keeps the device's form -/
def OpIn (n : Int) : Dop → Prop
  | .st a v => 0 ≤ a ∧ a < n ∧ InU v
  | .fl a => 0 ≤ a ∧ a < n
  | .fe => True
/-- The safe words and the dirty ones of a device of n words. -/
def DevS (n : Int) (s : List Int × List Dw) : Prop := (s.1.length : Int) = n ∧ ascB n (-1) s.2 = true
def DevW (s : List Int × List Dw) : Prop := WfU s.1 ∧ WfD s.2
theorem effD_S {n : Int} {s : List Int × List Dw} {o : Dop} (h : DevS n s) (ho : OpIn n o) : DevS n (effD s o) := by
  obtain ⟨h1, h2⟩ := h
  cases o with
  | st a v => exact ⟨h1, ascB_ins (by have := ho.1; omega) ho.2.1 h2⟩
  | fl a => exact ⟨h1, ascB_flu h2⟩
  | fe => exact ⟨by simpa [effD, fenM_length] using h1, ascB_fen h2⟩
theorem effs_S {n : Int} : ∀ {os : List Dop} {s : List Int × List Dw}, DevS n s → (∀ o ∈ os, OpIn n o) → DevS n (effs s os)
  | [], _, h, _ => h
  | o :: os, _, h, ho => effs_S (os := os) (effD_S h (ho o (List.mem_cons_self ..))) fun x hx => ho x (List.mem_cons_of_mem _ hx)
theorem effD_W {n : Int} {s : List Int × List Dw} {o : Dop} (hn : n ≤ 2048) (h : DevW s) (ho : OpIn n o) : DevW (effD s o) := by
  obtain ⟨h1, h2⟩ := h
  cases o with
  | st a v => exact ⟨h1, wfD_ins (by have := ho.1; have := ho.2.1; unfold InI; omega) ho.2.2 h2⟩
  | fl a => exact ⟨h1, wfD_flu h2⟩
  | fe => exact ⟨wfU_fen h2 h1, wfD_fen h2⟩
theorem effs_W {n : Int} (hn : n ≤ 2048) : ∀ {os : List Dop} {s : List Int × List Dw}, DevW s → (∀ o ∈ os, OpIn n o) → DevW (effs s os)
  | [], _, h, _ => h
  | o :: os, _, h, ho => effs_W hn (os := os) (effD_W hn h (ho o (List.mem_cons_self ..))) fun x hx => ho x (List.mem_cons_of_mem _ hx)
/-- What an operation changes of what is loaded. -/
theorem wrd_eff {n : Int} {s : List Int × List Dw} {o : Dop} (h : DevS n s) (ho : OpIn n o) : wrd (effD s o).1 (effD s o).2 = match o with | .st a v => (wrd s.1 s.2).set a.toNat v | _ => wrd s.1 s.2 := by
  obtain ⟨h1, h2⟩ := h
  cases o with
  | st a v => exact wrd_ins ho.1 (by decide) h2
  | fl a => exact wrd_flu a _ _
  | fe => exact wrd_fen (by decide) h2 h1
end Go.Proofs.Ytmkcpnklaijkfaa
