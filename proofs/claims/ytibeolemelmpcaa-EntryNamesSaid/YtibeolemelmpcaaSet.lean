/-
  The contract of the set of addresses: 'add' tells whether the element is new.
-/
import Derived.Test.YtibeolemelmpcaaLeaf
import Derived.Maps.Own
import Derived.Maps.OwnOps
import Derived.Maps.OwnSet
import Derived.Maps.Views
namespace Go.Proofs.Ytibeolemelmpcaa
open Go.RowKit Go.Maps

/-- Block b is a map that says of each number whether it is in S. -/
def SetMap (w : World) (b n : Nat) (S : List Int) : Prop :=
  ∃ D : DataW Unit, w.ownsMap Try.prog 3 (plainElem Try.prog 4) b n D ∧ IsMap D ∧ ∀ x, D.atKey (.int .i64 x) (.lit (.bool false)) = .lit (.bool (S.contains x))
theorem keyed_int : Keyed Try.prog 3 := int_keyed Try.underlying3
theorem zero_bool (w : World) : (zeroValue 4).run Try.prog w = .ok (.bool false) w := by kernel_rfl
theorem plainElem_bool_inv {e : TypeId} {P : Program} (he : P.underlying e = some .bool) {v : Value} {z : DataW Unit × List MemPlace} (h : plainElem P e v = some z) : ∃ a, v = .bool a ∧ z = (.lit (.bool a), []) := by
  unfold plainElem at h
  rw [he] at h
  cases v <;> simp at h
  subst h
  exact ⟨_, rfl, rfl⟩
theorem wf_of_inI {x : Int} (h : InI x) : (Lit.int .i64 x).wf = true := by
  obtain ⟨h1, h2⟩ := h
  simp [Lit.wf, IntKind.min, IntKind.max, IntKind.signed, IntKind.bits]
  omega
theorem SetMap.look {w : World} {b n : Nat} {S : List Int} (h : SetMap w b n S) {x : Int} (hx : InI x) :
    (Instr.lookup 80 (.map (some b)) (.int .i64 x) false).run Try.prog w = .ok (.bool (S.contains x)) w := by
  obtain ⟨D, hD, _, hat⟩ := h
  obtain ⟨v, ps, hrun, hv⟩ := hD.lookup keyed_int Try.underlying80 (zero_bool w) (plainElem_bool Try.underlying4 false) (keyOf_int_mk Try.underlying3 (wf_of_inI hx))
  obtain ⟨a, rfl, hz⟩ := plainElem_bool_inv Try.underlying4 hv
  rw [hat x] at hz
  simp at hz
  rw [hrun, ← hz.1]
  simp
theorem SetMap.put {w : World} {b n : Nat} {S : List Int} (h : SetMap w b n S) {x : Int} (hx : InI x) (hn : n < maxLen) :
    ∃ w', (Instr.mapUpdate 80 (.map (some b)) (.int .i64 x) (.bool true)).run Try.prog w = .ok () w' ∧ SetMap w' b (n + 1) (x :: S) ∧ w.grownBy w' (some b) := by
  obtain ⟨D, hD, hm, hat⟩ := h
  obtain ⟨w', hrun, h1, h2⟩ := hD.update keyed_int Try.underlying80 hn (keyOf_int_mk Try.underlying3 (wf_of_inI hx)) (plainElem_bool Try.underlying4 true)
  refine ⟨w', hrun, ⟨_, h1, hm.put _ _, fun y => ?_⟩, h2⟩
  by_cases hy : y = x
  · subst hy
    rw [atKey_put_same hm (by simp [WideAt.IsKeyLit])]
    simp
  · rw [atKey_put_other (by simpa using hy), hat y]
    simp [hy]
theorem SetMap.made (w : World) : SetMap (w.alloc (.map #[] 0)) w.heap.size 0 [] :=
  ⟨.map [], World.ownsMap_made _ _ _ _, isMap_empty, fun x => by simp [DataW.atKey]⟩
theorem SetMap.kept {w w' : World} {b n : Nat} {S : List Int} (h : SetMap w b n S) {row : Option Nat} (hg : w.grownBy w' row) (hne : some b ≠ row) : SetMap w' b n S := by
  obtain ⟨D, hD, r⟩ := h
  exact ⟨D, hD.kept hg hne, r⟩
theorem SetMap.setCell {w : World} {b n : Nat} {S : List Int} (h : SetMap w b n S) {a : Addr} (ha : b ≠ a.block) (u : Value) : SetMap (w.setCell a u) b n S := by
  obtain ⟨D, hD, r⟩ := h
  exact ⟨D, hD.setCell ha u, r⟩
theorem SetMap.made' {w : World} {g : Nat} (hg : g = w.heap.size) : SetMap (w.alloc (.map #[] 0)) g 0 [] := by
  subst hg
  exact SetMap.made w
/-- Block g is a set (a struct with one map) that has the elements S; all of it lies from base on. -/
def SetSt (w : World) (base g : Nat) (S : List Int) : Prop :=
  base ≤ g ∧ ((w.heap[g]? = some (.cells #[.map none] 82 (0, 0)) ∧ S = []) ∨
    ∃ b n, w.heap[g]? = some (.cells #[.map (some b)] 82 (0, 0)) ∧ base ≤ b ∧ b ≠ g ∧ n ≤ S.length ∧ SetMap w b n S)
theorem lt_heap {w : World} {g : Nat} {o : Obj} (h : w.heap[g]? = some o) : g < w.heap.size := (Array.getElem?_eq_some_iff.1 h).1
set_option maxHeartbeats 400000 in
theorem add_any (w : World) (base g : Nat) (S : List Int) (x : Int) (hx : InI x) (h : SetSt w base g S) (hl : S.length ≤ 1000) (hb : base ≤ w.heap.size) :
    Calls Try.prog 49 #[.pointer (some ⟨g, 0, none⟩), .int .i64 x] w fun e w' => e = .returned (.bool (!S.contains x)) ∧ SetSt w' base g (x :: S) ∧ Below base w w' := by
  obtain ⟨hg, ⟨hh, rfl⟩ | ⟨b, n, hh, hbb, hbg, hn, hm⟩⟩ := h
  · have hc := cell_of_one hh
    have hf := free_of_one hh
    have hlt := lt_heap hh
    have hmm := @run_makeMap Try.prog
    have he : (binOp .eql 80 (.map none) (.map none)).run Try.prog w = .ok (.bool true) w := run_eql_map_nil w _ _ _ none Try.underlying80
    have hM : SetMap ((w.setCell ⟨g, 0, none⟩ (.map (some w.heap.size))).alloc (.map #[] 0)) w.heap.size 0 [] := SetMap.made' (by simp)
    have hlk := hM.look hx
    obtain ⟨w', hup, hM', hgr⟩ := hM.put hx (by decide)
    have HM := Lib.hid hM'; have HG := Lib.hid hgr
    clear hM hM' hgr
    go_enter Try.func49, Try.ntmps49
    go_wp2
    go_ret
    have hg1 := HG.out
    have hb1 : Below base w ((w.setCell ⟨g, 0, none⟩ (.map (some w.heap.size))).alloc (.map #[] 0)) := ((Below.refl base w).setCell hg _).alloc (by simpa using hb) _
    refine ⟨rfl, ⟨hg, .inr ⟨w.heap.size, 1, ?_, hb, by omega, by simp, HM.out⟩⟩, hb1.grown hg1 (by simp; omega) (fun k hk => by cases hk; exact hb)⟩
    rw [hg1.block g (by simp; omega) (by simp; omega), heap_alloc_old _ _ (by simpa using hlt)]
    exact one_setCell hh
  · have hc := cell_of_one hh
    have hf := free_of_one hh
    have hlt := lt_heap hh
    have he : (binOp .eql 80 (.map (some b)) (.map none)).run Try.prog w = .ok (.bool false) w := run_eql_map_nil w _ _ _ (some b) Try.underlying80
    have hlk := hm.look hx
    obtain ⟨w', hup, hM', hgr⟩ := hm.put hx (by unfold maxLen; omega)
    have HM := Lib.hid hM'; have HG := Lib.hid hgr
    clear hm hM' hgr
    go_enter Try.func49, Try.ntmps49
    go_wp2
    go_ret
    have hg1 := HG.out
    refine ⟨ret_bool (by simp), ⟨hg, .inr ⟨b, n + 1, ?_, hbb, hbg, by simp; omega, HM.out⟩⟩, (Below.refl base w).grown hg1 hb (fun k hk => by cases hk; exact hbb)⟩
    rw [hg1.block g hlt (by simp; omega)]
    exact hh
theorem SetSt.alloc {w : World} {base g : Nat} {S : List Int} (h : SetSt w base g S) (o : Obj) : SetSt (w.alloc o) base g S := by
  obtain ⟨hg, ⟨hh, hS⟩ | ⟨b, n, hh, hbb, hbg, hn, hm⟩⟩ := h
  · exact ⟨hg, .inl ⟨by rw [heap_alloc_old _ _ (lt_heap hh)]; exact hh, hS⟩⟩
  · exact ⟨hg, .inr ⟨b, n, by rw [heap_alloc_old _ _ (lt_heap hh)]; exact hh, hbb, hbg, hn, hm.kept (World.grownBy_alloc w o none) (by simp)⟩⟩
theorem SetSt.new {w : World} {base : Nat} (hb : base ≤ w.heap.size) : SetSt (w.alloc (.cells #[.map none] 82)) base w.heap.size [] :=
  ⟨hb, .inl ⟨heap_alloc_new w _, rfl⟩⟩
end Go.Proofs.Ytibeolemelmpcaa
