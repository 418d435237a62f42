/-
  Memory words of this seat: a slice that reads as a list; it is kept over draws, new blocks, calls that leave old memory alone.
-/
import Derived.WalkKit
import Derived.WalkSpells
import Derived.WalkLawsBesides
import Derived.Lib.Hide
import Derived.Deep.Draws
import Derived.Deep.AppendLies
import Derived.Maps.AppendAt
import Derived.RegionTactic
import Derived.BigQuiet
import Derived.Deep.QuietTactic
import Derived.Laws.BitsAllLaws
import Derived.Laws.BitsLemmas
import Derived.Laws.CopyOwn
namespace Go.Proofs.Ytibeolemelmpcaa
open Go.RowKit

theorem block_of_add (a : Addr) (n : Nat) : (a.add n).block = a.block := by unfold Addr.add; split <;> rfl
theorem add_of_add (a : Addr) (i j : Nat) : (a.add i).add j = a.add (i + j) := by
  unfold Addr.add
  by_cases hi : i = 0 <;> by_cases hj : j = 0 <;> simp [hi, hj, Nat.add_assoc]

theorem add_lit_ (a : Addr) (n : Nat) : a.add (n + 1) = ⟨a.block, a.off + (n + 1), none⟩ := by simp [Addr.add]
/-- The cells from A on are xs. -/
def Cells (w : World) (A : Option Addr) (xs : List Value) : Prop :=
  xs ≠ [] → ∃ ad, A = some ad ∧ ∀ j u, xs[j]? = some u → w.cell? (ad.add j) = some u

/-- The slice value '.slice A n c' holds the cells xs. -/
structure Sl (w : World) (A : Option Addr) (n c : Nat) (xs : List Value) : Prop where
  le : n ≤ c
  max : c ≤ maxLen
  nil : A = none → c = 0
  cells : Cells w A xs

/-- What stood in w stands in w'. -/
def Ext (w w' : World) : Prop := Below w.heap.size w w'
theorem Ext.refl (w : World) : Ext w w := Below.refl _ _
theorem Ext.trans {a b c : World} (h : Ext a b) (k : Ext b c) : Ext a c :=
  Below.trans h (Below.mono k (Below.size h))
theorem Ext.drew {a w : World} (h : Ext a w) : Ext a w.drew := Below.drew h
theorem Ext.drewN {a w : World} (h : Ext a w) (k : Nat) : Ext a (w.drewN k) := ⟨h.os, h.tape, h.output, h.size, h.block⟩
theorem Ext.alloc {a w : World} (h : Ext a w) (o : Obj) : Ext a (w.alloc o) := Below.alloc h (Below.size h) o
theorem Ext.grown {a w w' : World} (h : Ext a w) {row : Option Nat} (hg : w.grownBy w' row) (hr : ∀ k, row = some k → a.heap.size ≤ k) : Ext a w' :=
  Below.grown h hg (Below.size h) hr
theorem Ext.setCell {a w : World} (h : Ext a w) {p : Addr} (hp : a.heap.size ≤ p.block) (u : Value) : Ext a (w.setCell p u) := Below.setCell h hp u
theorem Ext.size {a w : World} (h : Ext a w) : a.heap.size ≤ w.heap.size := Below.size h
theorem Ext.heap {a w : World} (h : Ext a w) {k : Nat} {o : Obj} (hk : a.heap[k]? = some o) : w.heap[k]? = some o := by
  have : k < a.heap.size := by
    rcases Nat.lt_or_ge k a.heap.size with hlt | hge
    · exact hlt
    · rw [Array.getElem?_eq_none hge] at hk; cases hk
  rw [h.block k this]; exact hk
theorem Ext.cell {a w : World} (h : Ext a w) {p : Addr} {u : Value} (hp : a.cell? p = some u) : w.cell? p = some u := by
  rw [Below.cell h (block_lt_of_cell hp)]; exact hp
theorem ext_drewN (w : World) (k : Nat) : Ext w (w.drewN k) := (Ext.refl w).drewN k

theorem Cells.ext {w w' : World} {A : Option Addr} {xs : List Value} (h : Cells w A xs) (e : Ext w w') : Cells w' A xs := fun hx => by
  obtain ⟨ad, hA, hc⟩ := h hx
  exact ⟨ad, hA, fun j u hu => e.cell (hc j u hu)⟩
theorem Sl.ext {w w' : World} {A : Option Addr} {n c : Nat} {xs : List Value} (h : Sl w A n c xs) (e : Ext w w') : Sl w' A n c xs :=
  ⟨h.le, h.max, h.nil, h.cells.ext e⟩
theorem Sl.nil_ (w : World) : Sl w none 0 0 [] := ⟨Nat.le_refl _, Nat.zero_le _, fun _ => rfl, fun h => absurd rfl h⟩
theorem Sl.setCell {w : World} {A : Option Addr} {n c : Nat} {xs : List Value} (h : Sl w A n c xs) {p : Addr} (hp : ∀ ad, A = some ad → ad.block ≠ p.block) (u : Value) : Sl (w.setCell p u) A n c xs :=
  ⟨h.le, h.max, h.nil, fun hx => by
    obtain ⟨ad, hA, hc⟩ := h.cells hx
    refine ⟨ad, hA, fun j u' hu => ?_⟩
    rw [World.cell?_setCell_other]
    · exact hc j u' hu
    · intro e
      have h1 := hp ad hA
      rw [e] at h1
      exact h1 (block_of_add ad j).symm⟩
theorem Sl.of_own {w : World} {base : Nat} {e : TypeId} {size : Nat} {v : Value} {n : Nat} {xs : List Value} (h : w.ownsRow base e size v n xs) :
    ∃ A c, v = .slice A n c ∧ Sl w A n c xs := by
  obtain ⟨hl, ⟨rfl, rfl⟩ | ⟨g, cap, cur, rfl, hb, hg, hn, hm, hs, ht⟩⟩ := h
  · have hx : xs = [] := List.eq_nil_of_length_eq_zero (by simpa using hl)
    subst hx
    exact ⟨none, 0, rfl, Sl.nil_ w⟩
  · refine ⟨_, _, rfl, hn, hm, (fun h => by cases h), fun _ => ⟨_, rfl, ?_⟩⟩
    have ho : w.ownsRow base e size (.slice (some ⟨g, 0, none⟩) n cap) n xs := ⟨hl, .inr ⟨g, cap, cur, rfl, hb, hg, hn, hm, hs, ht⟩⟩
    exact ho.cells rfl
theorem own_ext {w w' : World} {base : Nat} {e : TypeId} {size : Nat} {v : Value} {n : Nat} {xs : List Value} (h : w.ownsRow base e size v n xs) (k : Ext w w') : w'.ownsRow base e size v n xs := by
  obtain ⟨hl, h2⟩ := h
  refine ⟨hl, ?_⟩
  rcases h2 with h2 | ⟨g, cap, cur, hv, hb, hg, r⟩
  · exact .inl h2
  · exact .inr ⟨g, cap, cur, hv, hb, k.heap hg, r⟩
theorem own_base {w : World} {base base' : Nat} {e : TypeId} {size : Nat} {v : Value} {n : Nat} {xs : List Value} (h : w.ownsRow base e size v n xs) (k : base' ≤ base) : w.ownsRow base' e size v n xs := by
  obtain ⟨hl, h2⟩ := h
  refine ⟨hl, ?_⟩
  rcases h2 with h2 | ⟨g, cap, cur, hv, hb, r⟩
  · exact .inl h2
  · exact .inr ⟨g, cap, cur, hv, by omega, r⟩

/- lists as cells: words, numbers, entries, dirty words -/
def fU (m : List Int) : List Value := m.map (Value.int .u64)
def fI (m : List Int) : List Value := m.map (Value.int .i64)
def fE : List (Int × Int) → List Value
  | [] => []
  | e :: l => .int .i64 e.1 :: .int .u64 e.2 :: fE l
def fD : List (Int × Int × Bool) → List Value
  | [] => []
  | e :: l => .int .i64 e.1 :: .int .u64 e.2.1 :: .bool e.2.2 :: fD l

theorem fU_length (m : List Int) : (fU m).length = m.length := by simp [fU]
theorem fI_length (m : List Int) : (fI m).length = m.length := by simp [fI]
attribute [simp] fU_length fI_length
theorem fE_length (l : List (Int × Int)) : (fE l).length = l.length * 2 := by induction l with | nil => rfl | cons _ _ ih => simp [fE, ih]; omega
theorem fD_length (l : List (Int × Int × Bool)) : (fD l).length = l.length * 3 := by induction l with | nil => rfl | cons _ _ ih => simp [fD, ih]; omega
theorem fU_append (a b : List Int) : fU (a ++ b) = fU a ++ fU b := by simp [fU]
theorem fI_append (a b : List Int) : fI (a ++ b) = fI a ++ fI b := by simp [fI]
theorem fE_append (a b : List (Int × Int)) : fE (a ++ b) = fE a ++ fE b := by induction a with | nil => rfl | cons _ _ ih => simp [fE, ih]
theorem fD_append (a b : List (Int × Int × Bool)) : fD (a ++ b) = fD a ++ fD b := by induction a with | nil => rfl | cons _ _ ih => simp [fD, ih]
theorem fU_get {m : List Int} {k : Nat} {x : Int} (h : m[k]? = some x) : (fU m)[k]? = some (.int .u64 x) := by simp [fU, h]
theorem fI_get {m : List Int} {k : Nat} {x : Int} (h : m[k]? = some x) : (fI m)[k]? = some (.int .i64 x) := by simp [fI, h]
theorem fE_get {l : List (Int × Int)} {k : Nat} {x : Int × Int} (h : l[k]? = some x) : (fE l)[k * 2]? = some (.int .i64 x.1) ∧ (fE l)[k * 2 + 1]? = some (.int .u64 x.2) := by
  induction l generalizing k with
  | nil => simp at h
  | cons e l ih =>
    cases k with
    | zero => simp at h; subst h; exact ⟨rfl, rfl⟩
    | succ k =>
      have := ih (k := k) (by simpa using h)
      rw [show (k + 1) * 2 = k * 2 + 1 + 1 from by omega]
      exact ⟨by simpa [fE] using this.1, by simpa [fE] using this.2⟩
theorem fD_get {l : List (Int × Int × Bool)} {k : Nat} {x : Int × Int × Bool} (h : l[k]? = some x) :
    (fD l)[k * 3]? = some (.int .i64 x.1) ∧ (fD l)[k * 3 + 1]? = some (.int .u64 x.2.1) ∧ (fD l)[k * 3 + 2]? = some (.bool x.2.2) := by
  induction l generalizing k with
  | nil => simp at h
  | cons e l ih =>
    cases k with
    | zero => simp at h; subst h; exact ⟨rfl, rfl, rfl⟩
    | succ k =>
      have := ih (k := k) (by simpa using h)
      rw [show (k + 1) * 3 = k * 3 + 1 + 1 + 1 from by omega]
      exact ⟨by simpa [fD] using this.1, by simpa [fD] using this.2.1, by simpa [fD] using this.2.2⟩
theorem fU_one (m : List Int) : ∀ u ∈ fU m, u.oneCell' = true := ints_oneCell _ _
theorem fI_one (m : List Int) : ∀ u ∈ fI m, u.oneCell' = true := ints_oneCell _ _
theorem fE_one (l : List (Int × Int)) : ∀ u ∈ fE l, u.oneCell' = true := by
  induction l with
  | nil => intro u h; cases h
  | cons e l ih => intro u h; simp only [fE, List.mem_cons] at h; rcases h with rfl | rfl | h; rfl; rfl; exact ih u h
theorem fD_one (l : List (Int × Int × Bool)) : ∀ u ∈ fD l, u.oneCell' = true := by
  induction l with
  | nil => intro u h; cases h
  | cons e l ih => intro u h; simp only [fD, List.mem_cons] at h; rcases h with rfl | rfl | rfl | h; rfl; rfl; rfl; exact ih u h

section
variable {w : World} {A : Option Addr} {n c : Nat}
/-- The word at an index. -/
theorem Sl.u_at {m : List Int} (h : Sl w A n c (fU m)) {k : Nat} (hk : k < m.length) : ∃ ad x, A = some ad ∧ m[k]? = some x ∧ w.cell? (ad.add k) = some (.int .u64 x) := by
  obtain ⟨ad, hA, hc⟩ := h.cells (by intro h0; have := congrArg List.length h0; simp at this; subst this; simp at hk)
  exact ⟨ad, m[k], hA, List.getElem?_eq_getElem hk, hc k _ (fU_get (List.getElem?_eq_getElem hk))⟩
theorem Sl.i_at {m : List Int} (h : Sl w A n c (fI m)) {k : Nat} (hk : k < m.length) : ∃ ad x, A = some ad ∧ m[k]? = some x ∧ w.cell? (ad.add k) = some (.int .i64 x) := by
  obtain ⟨ad, hA, hc⟩ := h.cells (by intro h0; have := congrArg List.length h0; simp at this; subst this; simp at hk)
  exact ⟨ad, m[k], hA, List.getElem?_eq_getElem hk, hc k _ (fI_get (List.getElem?_eq_getElem hk))⟩
theorem Sl.e_at {l : List (Int × Int)} (h : Sl w A n c (fE l)) {k : Nat} (hk : k < l.length) :
    ∃ ad x, A = some ad ∧ l[k]? = some x ∧ w.cell? (ad.add (k * 2)) = some (.int .i64 x.1) ∧ w.cell? ⟨(ad.add (k * 2)).block, (ad.add (k * 2)).off + 1, none⟩ = some (.int .u64 x.2) := by
  obtain ⟨ad, hA, hc⟩ := h.cells (by intro h0; have := congrArg List.length h0; simp [fE_length] at this; omega)
  have g := fE_get (List.getElem?_eq_getElem hk)
  exact ⟨ad, l[k], hA, List.getElem?_eq_getElem hk, hc _ _ g.1, by rw [← add_lit_, add_of_add]; exact hc _ _ g.2⟩
theorem Sl.d_at {l : List (Int × Int × Bool)} (h : Sl w A n c (fD l)) {k : Nat} (hk : k < l.length) :
    ∃ ad x, A = some ad ∧ l[k]? = some x ∧ w.cell? (ad.add (k * 3)) = some (.int .i64 x.1) ∧ w.cell? ⟨(ad.add (k * 3)).block, (ad.add (k * 3)).off + 1, none⟩ = some (.int .u64 x.2.1) ∧ w.cell? ⟨(ad.add (k * 3)).block, (ad.add (k * 3)).off + 2, none⟩ = some (.bool x.2.2) := by
  obtain ⟨ad, hA, hc⟩ := h.cells (by intro h0; have := congrArg List.length h0; simp [fD_length] at this; omega)
  have g := fD_get (List.getElem?_eq_getElem hk)
  exact ⟨ad, l[k], hA, List.getElem?_eq_getElem hk, hc _ _ g.1, by rw [← add_lit_, add_of_add]; exact hc _ _ g.2.1, by rw [← add_lit_, add_of_add]; exact hc _ _ g.2.2⟩
end

/-- Only draws lie between w and w'. -/
def Drew (w w' : World) : Prop := ∃ k, w' = w.drewN k
theorem Drew.refl (w : World) : Drew w w := ⟨0, rfl⟩
theorem drew_N (w : World) (k : Nat) : Drew w (w.drewN k) := ⟨k, rfl⟩
theorem drew_1 (w : World) : Drew w w.drew := ⟨1, rfl⟩
theorem Drew.trans {a b c : World} (h : Drew a b) (k : Drew b c) : Drew a c := by
  obtain ⟨n, rfl⟩ := h
  obtain ⟨m, rfl⟩ := k
  exact ⟨n + m, by rw [World.drewN_drewN]⟩
theorem Drew.ext {a b : World} (h : Drew a b) : Ext a b := by
  obtain ⟨n, rfl⟩ := h
  exact ext_drewN a n
theorem Sl.drewN {w : World} {A : Option Addr} {n c : Nat} {xs : List Value} (h : Sl w A n c xs) (k : Nat) : Sl (w.drewN k) A n c xs := h.ext (ext_drewN w k)
theorem Sl.drew {w : World} {A : Option Addr} {n c : Nat} {xs : List Value} (h : Sl w A n c xs) : Sl w.drew A n c xs := h.ext ((Ext.refl w).drew)
theorem Sl.alloc {w : World} {A : Option Addr} {n c : Nat} {xs : List Value} (h : Sl w A n c xs) (o : Obj) : Sl (w.alloc o) A n c xs := h.ext ((Ext.refl w).alloc o)
theorem Sl.lit (w : World) (cs : Array Value) (e : TypeId) (n : Nat) (hn : n ≤ maxLen) : Sl (w.alloc (.cells cs e)) (some ⟨w.heap.size, 0, none⟩) n n cs.toList :=
  ⟨Nat.le_refl _, hn, (fun h => by cases h), fun _ => ⟨_, rfl, fun j u hu => by
    rw [Addr.add_lit, cell_of_row _ _ _ cs e (0, 0) (heap_alloc_new w _)]
    simpa using hu⟩⟩

theorem ret_bool {a b : Bool} (h : a = b) : Ending.returned (.bool a) = .returned (.bool b) := by rw [h]
theorem ret_int {k : IntKind} {a b : Int} (h : a = b) : Ending.returned (.int k a) = .returned (.int k b) := by rw [h]

/-- The call returned a slice of its own. -/
def RetOwn (w0 : World) (e : TypeId) (size n : Nat) (xs : List Value) (en : Ending) (w' : World) : Prop :=
  ∃ A c, en = .returned (.slice A n c) ∧ w'.ownsRow w0.heap.size e size (.slice A n c) n xs ∧ Sl w' A n c xs ∧ Ext w0 w'
/-- The call returned a slice of its own, and a number. -/
def RetOwn2 (w0 : World) (e : TypeId) (size n : Nat) (xs : List Value) (er : Int) (en : Ending) (w' : World) : Prop :=
  ∃ A c, en = .returned (.tuple #[.slice A n c, .int .i64 er]) ∧ w'.ownsRow w0.heap.size e size (.slice A n c) n xs ∧ Sl w' A n c xs ∧ Ext w0 w'
theorem retOwn_mk {w0 w' : World} {e : TypeId} {size n : Nat} {xs : List Value} {v : Value} (h : w'.ownsRow w0.heap.size e size v n xs) (hx : Ext w0 w') : RetOwn w0 e size n xs (.returned v) w' := by
  obtain ⟨A, c, rfl, hs⟩ := Sl.of_own h
  exact ⟨A, c, rfl, h, hs, hx⟩
theorem retOwn2_mk {w0 w' : World} {e : TypeId} {size n : Nat} {xs : List Value} {v : Value} {er : Int} (h : w'.ownsRow w0.heap.size e size v n xs) (hx : Ext w0 w') : RetOwn2 w0 e size n xs er (.returned (.tuple #[v, .int .i64 er])) w' := by
  obtain ⟨A, c, rfl, hs⟩ := Sl.of_own h
  exact ⟨A, c, rfl, h, hs, hx⟩

/-- t is the slice type of e; an element has size cells, bytes bytes. -/
structure ElT (P : Program) (t e : TypeId) (size bytes : Nat) : Prop where
  und : P.underlying t = some (.slice e)
  inf : ∃ i z, P.info? e = some i ∧ i.zero = some z ∧ i.size = size ∧ i.bytes = bytes ∧ z.cells.size = size
  pos : 0 < size
  byt : 0 < bytes
theorem ElT.mk' {P : Program} {t e : TypeId} {size bytes : Nat} {z : Value} (h : P.underlying t = some (.slice e)) (hi : (P.info? e).map (fun i => (i.zero, i.size, i.bytes)) = some (some z, size, bytes))
    (hz : z.cells.size = size) (h1 : 0 < size) (h2 : 0 < bytes) : ElT P t e size bytes := by
  obtain ⟨i, a, b, c, d⟩ := info_parts hi
  exact ⟨h, ⟨i, z, a, b, c, d, hz⟩, h1, h2⟩

section
variable {P : Program} {w : World} {t e : TypeId} {size bytes : Nat}
theorem run_app (E : ElT P t e size bytes) (ty : TypeId) {base n : Nat} {v : Value} {xs : List Value} (hown : w.ownsRow base e size v n xs)
    {A : Option Addr} {m c : Nat} {news : List Value} (hr : Sl w A m c news) (hl : news.length = m * size) (h1 : ∀ u ∈ news, u.oneCell' = true)
    (hb : (n + m) * bytes ≤ 140737488355328) (hbase : base ≤ w.heap.size) :
    ∃ v' w', (Builtin.append_ #[t, t] ty #[v, .slice A m c]).run P w = .ok v' w' ∧ w'.ownsRow base e size v' (n + m) (xs ++ news) ∧ Below base w w' ∧
      (v'.ownBlock = v.ownBlock ∨ v'.ownBlock = some w.heap.size) ∧ w.grownBy w' v.ownBlock := by
  obtain ⟨i, z, hi, hz, hsize, hby, hzs⟩ := E.inf
  have h63 : n + m ≤ maxLen := by
    have : n + m ≤ (n + m) * bytes := Nat.le_mul_of_pos_right _ E.byt
    unfold maxLen
    omega
  rcases A with _ | ad
  · have hc := hr.nil rfl
    have hm : m = 0 := by have := hr.le; omega
    subst hm
    have hn : news = [] := List.eq_nil_of_length_eq_zero (by simpa using hl)
    subst hn
    refine ⟨v, w, ?_, by simpa using hown, Below.refl _ _, .inl rfl, World.grownBy.refl w _⟩
    rcases hown.2 with ⟨rfl, rfl⟩ | ⟨g, cap, cur, rfl, _, _, hnc, _⟩
    · simp [Builtin.append_, run_underlying E.und, sizeOf, typeInfo, hi, Builtin.lenOf, Builtin.firstCells]
    · simp [Builtin.append_, run_underlying E.und, sizeOf, typeInfo, hi, Builtin.lenOf, Builtin.firstCells, hnc, storeCells]
  · have hcells : ∀ j u, news[j]? = some u → w.cell? (ad.add j) = some u := by
      intro j u hu
      rcases Nat.eq_zero_or_pos m with h0 | h0
      · subst h0
        have hn : news = [] := List.eq_nil_of_length_eq_zero (by simpa using hl)
        subst hn
        simp at hu
      · obtain ⟨ad', h, hc⟩ := hr.cells (by intro hn; subst hn; have := E.pos; have : 0 < m * size := Nat.mul_pos h0 this; simp at hl; omega)
        injection h with h
        subst h
        exact hc j u hu
    obtain ⟨v', w', hrun, h2, h3, _, h5⟩ := run_append_own_at (P := P) w base t ty e i z size bytes E.und hi hz hsize hby hzs E.pos v n xs hown ad m c news hl hcells h1 h63 hb hbase
    refine ⟨v', w', hrun, h2, (Below.refl base w).grown h3 hbase (fun k hk => (hown.lt k hk).1), h5, h3⟩

theorem wp_app (E : ElT P t e size bytes) {o : Oper} {a : Act} {K : Act → World → Prop} {Q : Exit → Act → World → Prop} (s x : Operand)
    (ho : o.op = .call { callee := .builtin .append, args := #[s, x], argTypes := #[t, t] })
    {base n : Nat} {v : Value} {xs : List Value} (hs : a.eval s = v) (hown : w.ownsRow base e size v n xs)
    {A : Option Addr} {m c : Nat} {news : List Value} (hx : a.eval x = .slice A m c) (hr : Sl w A m c news) (hl : news.length = m * size) (h1 : ∀ u ∈ news, u.oneCell' = true)
    (hb : (n + m) * bytes ≤ 140737488355328) (hbase : base ≤ w.heap.size)
    (h : ∀ v' w', w'.ownsRow base e size v' (n + m) (xs ++ news) → Below base w w' → (v'.ownBlock = v.ownBlock ∨ v'.ownBlock = some w.heap.size) → w.grownBy w' v.ownBlock → K (a.put o.dst v') w') : o.wp P a w K Q := by
  obtain ⟨v', w', hrun, h2, h3, h4, h5⟩ := run_app E o.type hown hr hl h1 hb hbase
  unfold Oper.wp execOp
  simp only [ho, resolve, invoke, builtin, Sem.run_bind, Sem.run_pure, Result.andThen_ok, List.map_toArray, List.map_cons, List.map_nil, hs, hx, hrun]
  exact h v' w' h2 h3 h4 h5

theorem wpList_app (E : ElT P t e size bytes) {ops : Array Oper} {rest : List Oper} {o : Oper} {a : Act} {Q : Exit → Act → World → Prop} (hgd : o.guard = none) (s x : Operand)
    (ho : o.op = .call { callee := .builtin .append, args := #[s, x], argTypes := #[t, t] })
    {base n : Nat} {v : Value} {xs : List Value} (hs : a.eval s = v) (hown : w.ownsRow base e size v n xs)
    {A : Option Addr} {m c : Nat} {news : List Value} (hx : a.eval x = .slice A m c) (hr : Sl w A m c news) (hl : news.length = m * size) (h1 : ∀ u ∈ news, u.oneCell' = true)
    (hb : (n + m) * bytes ≤ 140737488355328) (hbase : base ≤ w.heap.size)
    (h : ∀ v' w', w'.ownsRow base e size v' (n + m) (xs ++ news) → Below base w w' → (v'.ownBlock = v.ownBlock ∨ v'.ownBlock = some w.heap.size) → w.grownBy w' v.ownBlock → wpList P ops Q rest (a.put o.dst v') w') : wpList P ops Q (o :: rest) a w :=
  wpList_plain hgd fun _ hK => wp_app E s x ho hs hown hx hr hl h1 hb hbase fun v' w' h2 h3 h4 h5 => hK _ _ (h v' w' h2 h3 h4 h5)

theorem step_app (E : ElT P t e size bytes) {ops : Array Oper} {o : Oper} {a : Act} {K : Act → World → Prop} {Q : Exit → Act → World → Prop} {F : Prop} (hgd : o.guard = none) (s x : Operand)
    (ho : o.op = .call { callee := .builtin .append, args := #[s, x], argTypes := #[t, t] })
    {base n : Nat} {v : Value} {xs : List Value} (hs : a.eval s = v) (hown : w.ownsRow base e size v n xs)
    {A : Option Addr} {m c : Nat} {news : List Value} (hx : a.eval x = .slice A m c) (hr : Sl w A m c news) (hl : news.length = m * size) (h1 : ∀ u ∈ news, u.oneCell' = true)
    (hb : (n + m) * bytes ≤ 140737488355328) (hbase : base ≤ w.heap.size)
    (h : ∀ v' w', w'.ownsRow base e size v' (n + m) (xs ++ news) → Below base w w' → (v'.ownBlock = v.ownBlock ∨ v'.ownBlock = some w.heap.size) → w.grownBy w' v.ownBlock → K (a.put o.dst v') w') :
    if Region.wanted o (yielded ops a.tmps) = true then Oper.wp P o a w K Q else F := by
  have hw : Region.wanted o (yielded ops a.tmps) = true := by simp [Region.wanted, hgd]
  rw [if_pos hw]
  exact wp_app E s x ho hs hown hx hr hl h1 hb hbase h
end

theorem own_lit {w : World} {base : Nat} {e : TypeId} {size : Nat} (cs : Array Value) (g n : Nat) (hg : g = w.heap.size) (hb : base ≤ w.heap.size) (hm : n ≤ maxLen) (hs : cs.size = n * size) :
    (w.alloc (.cells cs e)).ownsRow base e size (.slice (some ⟨g, 0, none⟩) n n) n cs.toList := by
  subst hg
  exact World.ownsRow_lit w cs n hb hm hs
theorem own_nil (w : World) (base : Nat) (e : TypeId) (size : Nat) : w.ownsRow base e size (.slice none 0 0) 0 [] := World.ownsRow_nil w base e size
theorem Sl.lit' {w : World} (cs : Array Value) (e : TypeId) (g n : Nat) (hg : g = w.heap.size) (hn : n ≤ maxLen) : Sl (w.alloc (.cells cs e)) (some ⟨g, 0, none⟩) n n cs.toList := by
  subst hg
  exact Sl.lit w cs e n hn

theorem Ext.bcell {W w1 : World} (h : Ext W w1) : (∀ b o, b < W.heap.size → w1.cell? ⟨b, o, none⟩ = W.cell? ⟨b, o, none⟩) ∧ (∀ b o, b < W.heap.size → w1.frozen? ⟨b, o, none⟩ = W.frozen? ⟨b, o, none⟩) :=
  ⟨fun b o hb => Below.cell (p := ⟨b, o, none⟩) h hb, fun b o hb => Below.frozen (p := ⟨b, o, none⟩) h hb⟩

theorem quiet_D {P : Program} {f : FuncId} {args : Array Value} {w : World} {n : Nat} {v : Value}
    (h : Calls P f args (w.drewN n) fun e w' => e = .returned v ∧ Drew (w.drewN n) w') : Calls P f args (w.drewN n) fun e w'' => e = .returned v ∧ ∃ m, w'' = w.drewN m :=
  h.mono fun _ _ ⟨he, m, hm⟩ => ⟨he, n + m, by rw [hm, World.drewN_drewN]⟩
theorem quiet_S {P : Program} {f : FuncId} {args : Array Value} {w : World} {n : Nat} {v : Value}
    (h : Calls P f args (w.drewN n) fun e w' => e = .returned v ∧ w.drewN n = w') : Calls P f args (w.drewN n) fun e w'' => e = .returned v ∧ ∃ m, w'' = w.drewN m :=
  h.mono fun _ _ ⟨he, hm⟩ => ⟨he, n, hm.symm⟩

theorem fE_inv {l : List (Int × Int)} {j : Nat} {u : Value} (h : (fE l)[j]? = some u) :
    ∃ k x, l[k]? = some x ∧ ((j = k * 2 ∧ u = .int .i64 x.1) ∨ (j = k * 2 + 1 ∧ u = .int .u64 x.2)) := by
  induction l generalizing j with
  | nil => simp [fE] at h
  | cons e l ih =>
    match j with
    | 0 => exact ⟨0, e, rfl, .inl ⟨rfl, by simpa [fE] using h.symm⟩⟩
    | 1 => exact ⟨0, e, rfl, .inr ⟨rfl, by simpa [fE] using h.symm⟩⟩
    | j + 2 =>
      obtain ⟨k, x, hx, hh⟩ := ih (j := j) (by simpa [fE] using h)
      exact ⟨k + 1, x, by simpa using hx, hh.imp (fun ⟨a, b⟩ => ⟨by omega, b⟩) (fun ⟨a, b⟩ => ⟨by omega, b⟩)⟩
theorem fD_inv {l : List (Int × Int × Bool)} {j : Nat} {u : Value} (h : (fD l)[j]? = some u) :
    ∃ k x, l[k]? = some x ∧ ((j = k * 3 ∧ u = .int .i64 x.1) ∨ (j = k * 3 + 1 ∧ u = .int .u64 x.2.1) ∨ (j = k * 3 + 2 ∧ u = .bool x.2.2)) := by
  induction l generalizing j with
  | nil => simp [fD] at h
  | cons e l ih =>
    match j with
    | 0 => exact ⟨0, e, rfl, .inl ⟨rfl, by simpa [fD] using h.symm⟩⟩
    | 1 => exact ⟨0, e, rfl, .inr (.inl ⟨rfl, by simpa [fD] using h.symm⟩)⟩
    | 2 => exact ⟨0, e, rfl, .inr (.inr ⟨rfl, by simpa [fD] using h.symm⟩)⟩
    | j + 3 =>
      obtain ⟨k, x, hx, hh⟩ := ih (j := j) (by simpa [fD] using h)
      exact ⟨k + 1, x, by simpa using hx, hh.imp (fun ⟨a, b⟩ => ⟨by omega, b⟩) (fun hh => hh.imp (fun ⟨a, b⟩ => ⟨by omega, b⟩) (fun ⟨a, b⟩ => ⟨by omega, b⟩))⟩
end Go.Proofs.Ytibeolemelmpcaa
