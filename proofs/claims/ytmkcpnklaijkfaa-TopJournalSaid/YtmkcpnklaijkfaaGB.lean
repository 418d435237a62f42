/-
  Several texts in one: Set, Check, RefCheck, Listed, Words, Apply, Cut, At.
-/
import Derived.Test.YtmkcpnklaijkfaaGA
import Derived.Maps.Own
import Derived.Maps.OwnOps
import Derived.Maps.OwnSet
import Derived.Maps.Views
import Derived.Deep.Light
import Derived.Deep.RegionLaw
/-
  The contract of the set of addresses: 'add' tells whether the element is new.
-/
namespace Go.Proofs.Ytmkcpnklaijkfaa
open Go.RowKit Go.Maps

/-- Block b is a map that says of each number whether it is in S. -/
def SetMap (w : World) (b n : Nat) (S : List Int) : Prop :=
  ∃ D : DataW Unit, w.ownsMap Try.prog 3 (plainElem Try.prog 4) b n D ∧ IsMap D ∧ ∀ x, D.atKey (.int .i64 x) (.lit (.bool false)) = .lit (.bool (S.contains x))
theorem keyed_int : Keyed Try.prog 3 := int_keyed Try.underlying3
theorem zero_bool (w : World) : (zeroValue 4).run Try.prog w = .ok (.bool false) w := by kernel_rfl
theorem plainElem_bool_inv {e : TypeId} {P : Program} (he : P.underlying e = some .bool) {v : Value} {z : DataW Unit × List MemPlace} (h : plainElem P e v = some z) : ∃ a, v = .bool a ∧ z = (.lit (.bool a), []) := by
  unfold plainElem at h
  rw [he] at h
  cases v <;> simp at h
  subst h
  exact ⟨_, rfl, rfl⟩
theorem wf_of_inI {x : Int} (h : InI x) : (Lit.int .i64 x).wf = true := by
  obtain ⟨h1, h2⟩ := h
  simp [Lit.wf, IntKind.min, IntKind.max, IntKind.signed, IntKind.bits]
  omega
theorem SetMap.look {w : World} {b n : Nat} {S : List Int} (h : SetMap w b n S) {x : Int} (hx : InI x) :
    (Instr.lookup 140 (.map (some b)) (.int .i64 x) false).run Try.prog w = .ok (.bool (S.contains x)) w := by
  obtain ⟨D, hD, _, hat⟩ := h
  obtain ⟨v, ps, hrun, hv⟩ := hD.lookup keyed_int Try.underlying140 (zero_bool w) (plainElem_bool Try.underlying4 false) (keyOf_int_mk Try.underlying3 (wf_of_inI hx))
  obtain ⟨a, rfl, hz⟩ := plainElem_bool_inv Try.underlying4 hv
  rw [hat x] at hz
  simp at hz
  rw [hrun, ← hz.1]
  simp
theorem SetMap.put {w : World} {b n : Nat} {S : List Int} (h : SetMap w b n S) {x : Int} (hx : InI x) (hn : n < maxLen) :
    ∃ w', (Instr.mapUpdate 140 (.map (some b)) (.int .i64 x) (.bool true)).run Try.prog w = .ok () w' ∧ SetMap w' b (n + 1) (x :: S) ∧ w.grownBy w' (some b) := by
  obtain ⟨D, hD, hm, hat⟩ := h
  obtain ⟨w', hrun, h1, h2⟩ := hD.update keyed_int Try.underlying140 hn (keyOf_int_mk Try.underlying3 (wf_of_inI hx)) (plainElem_bool Try.underlying4 true)
  refine ⟨w', hrun, ⟨_, h1, hm.put _ _, fun y => ?_⟩, h2⟩
  by_cases hy : y = x
  · subst hy
    rw [atKey_put_same hm (by simp [WideAt.IsKeyLit])]
    simp
  · rw [atKey_put_other (by simpa using hy), hat y]
    simp [hy]
theorem SetMap.made (w : World) : SetMap (w.alloc (.map #[] 0)) w.heap.size 0 [] :=
  ⟨.map [], World.ownsMap_made _ _ _ _, isMap_empty, fun x => by simp [DataW.atKey]⟩
theorem SetMap.kept {w w' : World} {b n : Nat} {S : List Int} (h : SetMap w b n S) {row : Option Nat} (hg : w.grownBy w' row) (hne : some b ≠ row) : SetMap w' b n S := by
  obtain ⟨D, hD, r⟩ := h
  exact ⟨D, hD.kept hg hne, r⟩
theorem SetMap.setCell {w : World} {b n : Nat} {S : List Int} (h : SetMap w b n S) {a : Addr} (ha : b ≠ a.block) (u : Value) : SetMap (w.setCell a u) b n S := by
  obtain ⟨D, hD, r⟩ := h
  exact ⟨D, hD.setCell ha u, r⟩
theorem SetMap.made' {w : World} {g : Nat} (hg : g = w.heap.size) : SetMap (w.alloc (.map #[] 0)) g 0 [] := by
  subst hg
  exact SetMap.made w
/-- Block g is a set (a struct with one map) that has the elements S; all of it lies from base on. -/
def SetSt (w : World) (base g : Nat) (S : List Int) : Prop :=
  base ≤ g ∧ ((w.heap[g]? = some (.cells #[.map none] 142 (0, 0)) ∧ S = []) ∨
    ∃ b n, w.heap[g]? = some (.cells #[.map (some b)] 142 (0, 0)) ∧ base ≤ b ∧ b ≠ g ∧ n ≤ S.length ∧ SetMap w b n S)
theorem lt_heap {w : World} {g : Nat} {o : Obj} (h : w.heap[g]? = some o) : g < w.heap.size := (Array.getElem?_eq_some_iff.1 h).1
set_option maxHeartbeats 400000 in
theorem add_any (w : World) (base g : Nat) (S : List Int) (x : Int) (hx : InI x) (h : SetSt w base g S) (hl : S.length ≤ 1000) (hb : base ≤ w.heap.size) :
    Calls Try.prog 109 #[.pointer (some ⟨g, 0, none⟩), .int .i64 x] w fun e w' => e = .returned (.bool (!S.contains x)) ∧ SetSt w' base g (x :: S) ∧ Below base w w' := by
  obtain ⟨hg, ⟨hh, rfl⟩ | ⟨b, n, hh, hbb, hbg, hn, hm⟩⟩ := h
  · have hc := cell_of_one hh
    have hf := free_of_one hh
    have hlt := lt_heap hh
    have hmm := @run_makeMap Try.prog
    have he : (binOp .eql 140 (.map none) (.map none)).run Try.prog w = .ok (.bool true) w := run_eql_map_nil w _ _ _ none Try.underlying140
    have hM : SetMap ((w.setCell ⟨g, 0, none⟩ (.map (some w.heap.size))).alloc (.map #[] 0)) w.heap.size 0 [] := SetMap.made' (by simp)
    have hlk := hM.look hx
    obtain ⟨w', hup, hM', hgr⟩ := hM.put hx (by decide)
    have HM := Lib.hid hM'; have HG := Lib.hid hgr
    clear hM hM' hgr
    go_enter Try.func109, Try.ntmps109
    go_wp2
    go_ret
    have hg1 := HG.out
    have hb1 : Below base w ((w.setCell ⟨g, 0, none⟩ (.map (some w.heap.size))).alloc (.map #[] 0)) := ((Below.refl base w).setCell hg _).alloc (by simpa using hb) _
    refine ⟨rfl, ⟨hg, .inr ⟨w.heap.size, 1, ?_, hb, by omega, by simp, HM.out⟩⟩, hb1.grown hg1 (by simp; omega) (fun k hk => by cases hk; exact hb)⟩
    rw [hg1.block g (by simp; omega) (by simp; omega), heap_alloc_old _ _ (by simpa using hlt)]
    exact one_setCell hh
  · have hc := cell_of_one hh
    have hf := free_of_one hh
    have hlt := lt_heap hh
    have he : (binOp .eql 140 (.map (some b)) (.map none)).run Try.prog w = .ok (.bool false) w := run_eql_map_nil w _ _ _ (some b) Try.underlying140
    have hlk := hm.look hx
    obtain ⟨w', hup, hM', hgr⟩ := hm.put hx (by unfold maxLen; omega)
    have HM := Lib.hid hM'; have HG := Lib.hid hgr
    clear hm hM' hgr
    go_enter Try.func109, Try.ntmps109
    go_wp2
    go_ret
    have hg1 := HG.out
    refine ⟨ret_bool (by simp), ⟨hg, .inr ⟨b, n + 1, ?_, hbb, hbg, by simp; omega, HM.out⟩⟩, (Below.refl base w).grown hg1 hb (fun k hk => by cases hk; exact hbb)⟩
    rw [hg1.block g hlt (by simp; omega)]
    exact hh
theorem SetSt.alloc {w : World} {base g : Nat} {S : List Int} (h : SetSt w base g S) (o : Obj) : SetSt (w.alloc o) base g S := by
  obtain ⟨hg, ⟨hh, hS⟩ | ⟨b, n, hh, hbb, hbg, hn, hm⟩⟩ := h
  · exact ⟨hg, .inl ⟨by rw [heap_alloc_old _ _ (lt_heap hh)]; exact hh, hS⟩⟩
  · exact ⟨hg, .inr ⟨b, n, by rw [heap_alloc_old _ _ (lt_heap hh)]; exact hh, hbb, hbg, hn, hm.kept (World.grownBy_alloc w o none) (by simp)⟩⟩
theorem SetSt.new {w : World} {base : Nat} (hb : base ≤ w.heap.size) : SetSt (w.alloc (.cells #[.map none] 142)) base w.heap.size [] :=
  ⟨hb, .inl ⟨heap_alloc_new w _, rfl⟩⟩
end Go.Proofs.Ytmkcpnklaijkfaa
/-
  The contract of 'Check' on entries.
-/
namespace Go.Proofs.Ytmkcpnklaijkfaa
open Go.RowKit

theorem okFrom_at {words : Int} {S : List Int} {l : List (Int × Int)} {k : Nat} {x : Int × Int} (hx : l[k]? = some x) :
    okFrom words S (l.drop k) = (mayB x.1 words && !S.contains x.1 && okFrom words (x.1 :: S) (l.drop (k + 1))) := by
  obtain ⟨hlt, rfl⟩ := List.getElem?_eq_some_iff.1 hx
  rw [List.drop_eq_getElem_cons hlt]
  rfl
theorem mem_of_at {α : Type} {l : List α} {k : Nat} {x : α} (hx : l[k]? = some x) : x ∈ l := List.mem_of_getElem? hx

set_option maxHeartbeats 800000 in
theorem entryCheck_any (l : List (Int × Int)) (words : Int) (A : Option Addr) (c : Nat) (w : World) (hA : Sl w A l.length c (fE l)) (wf : WfE l) :
    Calls Try.prog 77 #[.slice A l.length c, .int .i64 words] w fun e w' => e = .returned (.int .i64 (chkE l words)) ∧ Ext w w' := by
  by_cases hs : sizeB words = true
  · have hz : szE words = 0 := by simp [szE, hs]
    by_cases hn : l.length ≤ 32
    · have hck : Hid (chkE l words = if okFrom words [] l then 0 else 8) := Lib.hid (by simp [chkE, hs]; intro h; omega)
      have hd : decide (32 < (l.length : Int)) = false := decide_eq_false (by omega)
      clear hs
      go_enter Try.func77, Try.ntmps77
      go_wp2_with (go_at_call 107; refine (entrySize_any _ _).mono ?_; rintro e w' ⟨rfl, rfl⟩)
      go_loopw [19] (fun i wr => ∃ k S, k ≤ l.length ∧ i = .int .i64 (k : Nat) ∧ SetSt wr w.heap.size w.heap.size S ∧ S.length = k ∧ okFrom words [] l = okFrom words S (l.drop k) ∧ Ext w wr) (fun i _ => l.length - (intOf i).toNat)
      case atStart => exact ⟨0, [], Nat.zero_le _, rfl, SetSt.new (Nat.le_refl _), rfl, rfl, (Ext.refl w).alloc _⟩
      case round =>
        obtain ⟨k, S, hk, rfl, hset, hSk, hok, hx⟩ := hrel
        by_cases hlt : k < l.length
        · obtain ⟨a, x, rfl, hat, g1, g2⟩ := (hA.ext hx).e_at hlt
          have hstep := okFrom_at (words := words) (S := S) hat
          have Hstep := Lib.hid (hok.trans hstep)
          have hwf := (wf x (mem_of_at hat)).1
          have HSk := Lib.hid hSk; have Hset := Lib.hid hset
          clear hstep hok hat hSk hset
          by_cases hm : mayB x.1 words = true
          · by_cases hc : x.1 ∈ S
            · go_wp2_with (first | (go_at_call 108; refine (entryMay_any _ _ _).mono ?_; rintro e w' ⟨rfl, rfl⟩) | (go_at_call 109; refine (add_any _ w.heap.size w.heap.size S x.1 hwf (Hset.out.alloc _) (by rw [HSk.out]; omega) (by simp; have := hx.size; omega)).mono ?_; rintro e w2 ⟨rfl, hset2, hb2⟩))
              go_ret
              refine ⟨ret_int ?_, Below.trans (hx.alloc _) hb2⟩
              rw [hck.out, Hstep.out]
              simp [hc]
            · go_wp2_with (first | (go_at_call 108; refine (entryMay_any _ _ _).mono ?_; rintro e w' ⟨rfl, rfl⟩) | (go_at_call 109; refine (add_any _ w.heap.size w.heap.size S x.1 hwf (Hset.out.alloc _) (by rw [HSk.out]; omega) (by simp; have := hx.size; omega)).mono ?_; rintro e w2 ⟨rfl, hset2, hb2⟩))
              go_roundw
              case rel =>
                refine ⟨k + 1, x.1 :: S, by omega, by go_num, hset2, by simp [HSk.out], ?_, Below.trans (hx.alloc _) hb2⟩
                rw [Hstep.out]
                simp [hm, hc]
              case measure => simp [intOf]; omega
          · have hm' : mayB x.1 words = false := by simpa using hm
            go_wp2_with (go_at_call 108; refine (entryMay_any _ _ _).mono ?_; rintro e w' ⟨rfl, rfl⟩)
            go_ret
            refine ⟨ret_int ?_, hx.alloc _⟩
            rw [hck.out, Hstep.out]
            simp [hm']
        · go_wp2
          go_ret
          refine ⟨ret_int ?_, hx⟩
          rw [hck.out, hok, List.drop_eq_nil_of_le (by omega)]
          rfl
    · have hck : Hid (chkE l words = 4) := Lib.hid (by simp [chkE, hs]; intro h; omega)
      go_enter Try.func77, Try.ntmps77
      go_wp2_with (go_at_call 107; refine (entrySize_any _ _).mono ?_; rintro e w' ⟨rfl, rfl⟩)
      go_ret
      exact ⟨ret_int hck.out.symm, Ext.refl w⟩
  · have hz : szE words = 2 := by simp [szE, hs]
    have hck : Hid (chkE l words = 2) := Lib.hid (by simp [chkE, hs])
    go_enter Try.func77, Try.ntmps77
    go_wp2_with (go_at_call 107; refine (entrySize_any _ _).mono ?_; rintro e w' ⟨rfl, rfl⟩)
    go_ret
    exact ⟨ret_int hck.out.symm, Ext.refl w⟩
end Go.Proofs.Ytmkcpnklaijkfaa
/-
  The contract of the reference's 'Check' on entries.
-/
namespace Go.Proofs.Ytmkcpnklaijkfaa
open Go.RowKit

/-- The addresses of the first k entries, the last one first. -/
def seenOf (l : List (Int × Int)) (k : Nat) : List Int := ((l.take k).map Prod.fst).reverse
theorem seenOf_succ {l : List (Int × Int)} {k : Nat} {x : Int × Int} (hx : l[k]? = some x) : seenOf l (k + 1) = x.1 :: seenOf l k := by
  simp [seenOf, List.take_add_one, hx]
theorem mem_seenOf {l : List (Int × Int)} {k : Nat} {y : Int} : y ∈ seenOf l k ↔ ∃ t z, t < k ∧ l[t]? = some z ∧ z.1 = y := by
  simp only [seenOf, List.mem_reverse, List.mem_map]
  constructor
  · rintro ⟨z, hz, rfl⟩
    obtain ⟨t, ht⟩ := List.mem_iff_getElem?.1 hz
    rw [List.getElem?_take] at ht
    split at ht
    · exact ⟨t, z, by assumption, ht, rfl⟩
    · cases ht
  · rintro ⟨t, z, ht, hz, rfl⟩
    exact ⟨z, List.mem_iff_getElem?.2 ⟨t, by rw [List.getElem?_take, if_pos ht]; exact hz⟩, rfl⟩

set_option maxHeartbeats 1600000 in
theorem refCheck8_any (l : List (Int × Int)) (words : Int) (A : Option Addr) (c : Nat) (w : World) (hA : Sl w A l.length c (fE l)) :
    Calls Try.prog 25 #[.slice A l.length c, .int .i64 words] w fun e w' => e = .returned (.int .i64 (chkE l words)) ∧ Drew w w' := by
  by_cases hs : sizeB words = true
  · by_cases hn : l.length ≤ 32
    · have hck : Hid (chkE l words = if okFrom words [] l then 0 else 8) := Lib.hid (by simp [chkE, hs]; intro h; omega)
      have hd : decide (32 < (l.length : Int)) = false := decide_eq_false (by omega)
      go_enter Try.func25, Try.ntmps25
      go_wp2_with (go_at_call 72; refine (refSize_any _ _).mono ?_; rintro e w' ⟨rfl, rfl⟩)
      go_loopw [5] (fun i wr => ∃ k : Nat, k ≤ l.length ∧ i = .int .i64 k ∧ okFrom words [] l = okFrom words (seenOf l k) (l.drop k) ∧ Drew w wr) (fun i _ => l.length - (intOf i).toNat)
      case atStart => exact ⟨0, Nat.zero_le _, rfl, rfl, Drew.refl w⟩
      case round =>
        obtain ⟨k, hk, rfl, hok, n, rfl⟩ := hrel
        by_cases hlt : k < l.length
        · obtain ⟨a, x, rfl, hat, g1, g2⟩ := hA.e_at hlt
          have Hstep := Lib.hid (hok.trans (okFrom_at (words := words) (S := seenOf l k) hat))
          have Hat := Lib.hid hat
          clear hok hat
          by_cases hm : mayB x.1 words = true
          · go_wp2_with (go_at_call 73; refine (refFree_any _ _ _).mono ?_; rintro e w' ⟨rfl, rfl⟩)
            go_loopw [6] (fun i wr => ∃ j : Nat, j ≤ k ∧ i = .int .i64 j ∧ x.1 ∉ seenOf l j ∧ Drew w wr) (fun i _ => k - (intOf i).toNat)
            case atStart => exact ⟨0, Nat.zero_le _, rfl, by simp [seenOf], drew_N w n⟩
            case round =>
              obtain ⟨j, hj, rfl, hnot, n2, rfl⟩ := hrel
              by_cases hlt2 : j < k
              · obtain ⟨a', y, ha', hat2, g3, g4⟩ := hA.e_at (k := j) (by omega)
                obtain rfl : a = a' := by injection ha'
                have hlt3 : j < l.length := by omega
                have Hat2 := Lib.hid hat2; have Hnot := Lib.hid hnot
                clear hat2 hnot ha'
                by_cases hxy : y.1 = x.1
                · have hb : (y.1 == x.1) = true := by simpa using hxy
                  have Hxy := Lib.hid hxy
                  clear hxy
                  go_wp2
                  go_quiet (fail)
                  go_wp2
                  go_ret
                  refine ⟨ret_int ?_, (drew_N w _).trans (drew_N _ _)⟩
                  rw [hck.out, Hstep.out]
                  have : x.1 ∈ seenOf l k := mem_seenOf.2 ⟨j, y, hlt2, Hat2.out, Hxy.out⟩
                  simp [this]
                · have hb : (y.1 == x.1) = false := by simpa using hxy
                  go_wp2
                  go_quiet (fail)
                  go_wp2
                  go_roundw
                  case rel =>
                    refine ⟨j + 1, by omega, by go_num, ?_, drew_N w _⟩
                    rw [seenOf_succ Hat2.out]
                    simp only [List.mem_cons, not_or]
                    exact ⟨fun e => hxy e.symm, Hnot.out⟩
                  case measure => simp [intOf]; omega
              · obtain rfl : j = k := by omega
                have Hnot := Lib.hid hnot
                clear hnot
                go_wp2
                go_roundw
                case rel =>
                  refine ⟨j + 1, by omega, by go_num, ?_, drew_N w _⟩
                  rw [Hstep.out, seenOf_succ Hat.out]
                  have := Hnot.out
                  simp [hm, this]
                case measure => simp [intOf]; omega
          · have hm' : mayB x.1 words = false := by simpa using hm
            go_wp2_with (go_at_call 73; refine (refFree_any _ _ _).mono ?_; rintro e w' ⟨rfl, rfl⟩)
            go_ret
            refine ⟨ret_int ?_, drew_N _ _⟩
            rw [hck.out, Hstep.out]
            simp [hm']
        · go_wp2
          go_ret
          refine ⟨ret_int ?_, drew_N _ _⟩
          rw [hck.out, hok, List.drop_eq_nil_of_le (by omega)]
          rfl
    · have hck : Hid (chkE l words = 4) := Lib.hid (by simp [chkE, hs]; intro h; omega)
      go_enter Try.func25, Try.ntmps25
      go_wp2_with (go_at_call 72; refine (refSize_any _ _).mono ?_; rintro e w' ⟨rfl, rfl⟩)
      go_ret
      exact ⟨ret_int hck.out.symm, Drew.refl w⟩
  · have hs' : sizeB words = false := by simpa using hs
    have hck : Hid (chkE l words = 2) := Lib.hid (by simp [chkE, hs'])
    go_enter Try.func25, Try.ntmps25
    go_wp2_with (go_at_call 72; refine (refSize_any _ _).mono ?_; rintro e w' ⟨rfl, rfl⟩)
    go_ret
    exact ⟨ret_int hck.out.symm, Drew.refl w⟩
end Go.Proofs.Ytmkcpnklaijkfaa
/-
  The contracts of what lists the words of entries.
-/
namespace Go.Proofs.Ytmkcpnklaijkfaa
open Go.RowKit

/-- The addresses are small numbers. -/
def Small (l : List (Int × Int)) : Prop := ∀ x ∈ l, 0 ≤ x.1 ∧ x.1 ≤ 2048
theorem u64_small {a : Int} (h0 : 0 ≤ a) (h1 : a ≤ 2048) : IntKind.u64.wrap a = a := by
  simp [IntKind.wrap, IntKind.bits, IntKind.signed]; omega
theorem listed_snoc {l : List (Int × Int)} {k : Nat} {x : Int × Int} (hx : l[k]? = some x) : listed (l.take (k + 1)) = listed (l.take k) ++ [x.1, x.2] := by
  rw [List.take_add_one, hx, listed_append]
  rfl
set_option maxRecDepth 100000 in
set_option maxHeartbeats 400000 in
theorem refListed_any (l : List (Int × Int)) (A : Option Addr) (c : Nat) (w : World) (hA : Sl w A l.length c (fE l)) (hs : Small l) (hl : l.length ≤ 1000) :
    Calls Try.prog 85 #[.slice A l.length c] w (RetOwn w 24 1 (2 * l.length) (fU (listed l))) := by
  go_enter Try.func85, Try.ntmps85
  go_wp2
  go_loopw [3, 4] (fun v i wr => ∃ k : Nat, k ≤ l.length ∧ i = .int .i64 k ∧ wr.ownsRow w.heap.size 24 1 v (2 * k) (fU (listed (l.take k))) ∧ Ext w wr) (fun _ i _ => l.length - (intOf i).toNat)
  case atStart => exact ⟨0, Nat.zero_le _, rfl, own_nil _ _ _ _, Ext.refl w⟩
  case round =>
    obtain ⟨k, hk, rfl, hown, hx⟩ := hrel
    by_cases hlt : k < l.length
    · obtain ⟨a, x, rfl, hat, g1, g2⟩ := (hA.ext hx).e_at hlt
      obtain ⟨b0, b1⟩ := hs x (mem_of_at hat)
      have Hat := Lib.hid hat
      have hsz := hx.size
      have hwr := u64_small b0 b1
      clear hat
      go_wp2
      go_region_law (refine step_app EU rfl (.tmp 11) (.tmp 23) rfl rfl (hown.alloc _).drew rfl (Sl.lit' _ _ _ _ rfl (by decide)).drew rfl (fU_one [x.1, x.2]) (by omega) (by simp; omega) ?_; intro v' w' hown' hbel hat hgr)
      all_goals
        have hx' : Ext w w' := Below.trans (hx.alloc _).drew hbel
        have hown2 : w'.ownsRow w.heap.size 24 1 v' (2 * (k + 1)) (fU (listed (l.take (k + 1)))) := by
          rw [listed_snoc Hat.out, fU_append]
          exact hown'
        clear hown' hbel hgr hat hwr g1 g2 hA hown
        go_wp2
        go_roundw
        case rel => exact ⟨k + 1, by omega, by go_num, hown2, hx'⟩
        case measure => simp [intOf]; omega
    · obtain rfl : k = l.length := by omega
      go_wp2
      go_ret
      rw [List.take_length] at hown
      exact retOwn_mk hown hx
end Go.Proofs.Ytmkcpnklaijkfaa
/-
  The contracts of 'Words' on entries, the program's and the reference's.
-/
namespace Go.Proofs.Ytmkcpnklaijkfaa
open Go.RowKit

theorem okFrom_mem {words : Int} {l : List (Int × Int)} : ∀ {S : List Int}, okFrom words S l = true → ∀ x ∈ l, mayB x.1 words = true := by
  induction l with
  | nil => intro S _ x hx; cases hx
  | cons e l ih =>
    intro S h x hx
    simp only [okFrom, Bool.and_eq_true] at h
    rcases List.mem_cons.1 hx with rfl | hx
    · exact h.1.1
    · exact ih h.2 x hx
theorem chk_ok {l : List (Int × Int)} {words : Int} (h : chkE l words = 0) : sizeB words = true ∧ l.length ≤ 32 ∧ okFrom words [] l = true := by
  unfold chkE at h
  split at h
  · split at h
    · simp at h
    · split at h
      · exact ⟨by assumption, by omega, by assumption⟩
      · simp at h
  · simp at h
theorem chk_small {l : List (Int × Int)} {words : Int} (h : chkE l words = 0) : Small l ∧ l.length ≤ 32 := by
  obtain ⟨h1, h2, h3⟩ := chk_ok h
  refine ⟨fun x hx => ?_, h2⟩
  have := mayB_bd (okFrom_mem h3 x hx)
  have := sizeB_bd h1
  omega
/-- A slice of its own and 0; or nothing, and the error. -/
def RetS (w : World) (T size n : Nat) (xs : List Value) (er : Int) (en : Ending) (w' : World) : Prop :=
  (er = 0 ∧ RetOwn2 w T size n xs 0 en w') ∨ (er ≠ 0 ∧ en = .returned (.tuple #[.slice none 0 0, .int .i64 er]) ∧ Ext w w')
set_option maxHeartbeats 800000 in
theorem entryWords_any (l : List (Int × Int)) (words : Int) (A : Option Addr) (c : Nat) (w : World) (hA : Sl w A l.length c (fE l)) (wf : WfE l) :
    Calls Try.prog 75 #[.slice A l.length c, .int .i64 words] w (RetS w 24 1 (2 * l.length) (fU (listed l)) (chkE l words)) := by
  by_cases h0 : chkE l words = 0
  · obtain ⟨hs, hl⟩ := chk_small h0
    go_enter Try.func75, Try.ntmps75
    go_wp2_with fail
    refine (entryCheck_any l words A c w hA wf).mono ?_
    rintro e w1 ⟨rfl, hx1⟩
    go_wp2_with fail
    go_loopw [7, 18] (fun v i wr => ∃ k : Nat, k ≤ l.length ∧ i = .int .i64 k ∧ wr.ownsRow w.heap.size 24 1 v (2 * k) (fU (listed (l.take k))) ∧ Ext w wr) (fun _ i _ => l.length - (intOf i).toNat)
    case atStart => exact ⟨0, Nat.zero_le _, rfl, own_nil _ _ _ _, hx1⟩
    case round =>
      obtain ⟨k, hk, rfl, hown, hx⟩ := hrel
      by_cases hlt : k < l.length
      · obtain ⟨a, x, rfl, hat, g1, g2⟩ := (hA.ext hx).e_at hlt
        obtain ⟨b0, b1⟩ := hs x (mem_of_at hat)
        have Hat := Lib.hid hat
        have hsz := hx.size
        clear hat h0
        go_wp2_with (at_builtin; refine wpList_app EU rfl (.tmp 22) (.tmp 28) rfl rfl ((hown.alloc _).alloc _) rfl (Sl.lit' _ _ _ _ (by simp) (by decide)) rfl (fU_one [x.1, x.2]) (by omega) (by simp; omega) ?_; intro v' w' hown' hbel hat hgr)
        have hx' : Ext w w' := Below.trans ((hx.alloc _).alloc _) hbel
        have hown2 : w'.ownsRow w.heap.size 24 1 v' (2 * (k + 1)) (fU (listed (l.take (k + 1)))) := by
          rw [listed_snoc Hat.out, fU_append]
          exact hown'
        go_roundw
        case rel => exact ⟨k + 1, by omega, by go_num, hown2, hx'⟩
        case measure => simp [intOf]; omega
      · obtain rfl : k = l.length := by omega
        have HH : Hid (chkE l words = 0) := Lib.hid h0
        go_wp2
        go_ret2
        rw [List.take_length] at hown
        rw [HH.out]
        exact .inl ⟨rfl, retOwn2_mk hown hx⟩
  · have hb : (chkE l words != 0) = true := by simpa using h0
    go_enter Try.func75, Try.ntmps75
    go_wp2_with fail
    refine (entryCheck_any l words A c w hA wf).mono ?_
    rintro e w1 ⟨rfl, hx1⟩
    go_wp2_with fail
    go_ret2
    exact .inr ⟨h0, rfl, hx1⟩
end Go.Proofs.Ytmkcpnklaijkfaa
/-
  The contracts of applying entries to an image.
-/
namespace Go.Proofs.Ytmkcpnklaijkfaa
open Go.RowKit

theorem applied_take {m : List Int} {l : List (Int × Int)} {k : Nat} {x : Int × Int} (hx : l[k]? = some x) : applied m (l.take (k + 1)) = (applied m (l.take k)).set x.1.toNat x.2 := by
  rw [List.take_add_one, hx]
  exact applied_snoc m _ x
/-- The addresses lie in an image of n words. -/
def InRange (l : List (Int × Int)) (n : Nat) : Prop := ∀ x ∈ l, 0 ≤ x.1 ∧ x.1 < n
theorem chk_len {l : List (Int × Int)} {n : Nat} (h : chkE l n = 0) : 0 < n ∧ n ≤ 3000 ∧ 256 ≤ n ∧ n ≤ 2048 := by
  obtain ⟨h1, _, _⟩ := chk_ok h
  have := sizeB_bd h1
  omega
theorem chk_range {l : List (Int × Int)} {n : Nat} (h : chkE l n = 0) : InRange l n := by
  obtain ⟨_, _, h3⟩ := chk_ok h
  intro x hx
  have := mayB_bd (okFrom_mem h3 x hx)
  omega
set_option maxHeartbeats 800000 in
theorem refApplied_any (m : List Int) (l : List (Int × Int)) (A : Option Addr) (c : Nat) (B : Option Addr) (d : Nat) (w : World) (hA : Sl w A m.length c (fU m)) (hB : Sl w B l.length d (fE l)) (hm : 0 < m.length) (hm2 : m.length ≤ 3000) (hr : InRange l m.length) :
    Calls Try.prog 82 #[.slice A m.length c, .slice B l.length d] w (RetOwn w 24 1 m.length (fU (applied m l))) := by
  go_enter Try.func82, Try.ntmps82
  go_wp2_with fail
  refine (twin2_any m A c w hA (by omega)).mono ?_
  rintro e w1 ⟨A1, c1, rfl, hown, hA1, hx1⟩
  obtain ⟨g, rfl, hg⟩ := own_head hown hm
  have hlm := hB.max
  unfold maxLen at hlm
  have hld := hB.le
  go_wp2_with fail
  go_loopw [6] (fun i wr => ∃ k : Nat, k ≤ l.length ∧ i = .int .i64 k ∧ wr.ownsRow w.heap.size 24 1 (.slice (some ⟨g, 0, none⟩) m.length c1) m.length (fU (applied m (l.take k))) ∧ Ext w wr) (fun i _ => l.length - (intOf i).toNat)
  case atStart => exact ⟨0, Nat.zero_le _, rfl, hown, hx1⟩
  case round =>
    obtain ⟨k, hk, rfl, hown, hx⟩ := hrel
    by_cases hlt : k < l.length
    · obtain ⟨a, x, rfl, hat, g1, g2⟩ := (hB.ext hx).e_at hlt
      obtain ⟨b0, b1⟩ := hr x (mem_of_at hat)
      have hlen := applied_length (l.take k) m
      obtain ⟨y, hy, hc, hf⟩ := own_at_U hown (i := x.1.toNat) (by rw [hlen]; omega)
      have Hat := Lib.hid hat; have Hy := Lib.hid hy; have HL := Lib.hid hlen
      clear hat hy hlen
      go_wp2
      go_region
      go_wp2
      go_roundw
      case rel =>
        refine ⟨k + 1, by omega, by go_num, ?_, (hx.setCell (p := ⟨g, x.1.toNat, none⟩) hg _).drew⟩
        rw [applied_take Hat.out]
        exact own_set_U hown _ _
      case measure => simp [intOf]; omega
    · obtain rfl : k = l.length := by omega
      go_wp2
      go_ret
      rw [List.take_length] at hown
      exact retOwn_mk hown hx
set_option maxHeartbeats 1600000 in
theorem entryApply_any (m : List Int) (l : List (Int × Int)) (A : Option Addr) (c : Nat) (B : Option Addr) (d : Nat) (w : World) (hA : Sl w A m.length c (fU m)) (hB : Sl w B l.length d (fE l)) (wf : WfE l) :
    Calls Try.prog 45 #[.slice A m.length c, .slice B l.length d] w (RetS w 24 1 m.length (fU (applied m l)) (if sizeB m.length then chkE l m.length else 8)) := by
  cases hs : sizeB (m.length : Int) with
  | false =>
    have hi : imgE (m.length : Int) = 8 := by simp [imgE, hs]
    go_enter Try.func45, Try.ntmps45
    go_wp2_with fail
    refine (imageCheck_any _ _ _ _).mono ?_
    rintro e w1 ⟨rfl, rfl⟩
    go_wp2_with fail
    go_ret2
    exact .inr ⟨by decide, rfl, Ext.refl w⟩
  | true =>
    have hi : imgE (m.length : Int) = 0 := by simp [imgE, hs]
    by_cases h0 : chkE l m.length = 0
    · have H0 := Lib.hid h0
      have hr := chk_range h0
      go_enter Try.func45, Try.ntmps45
      go_wp2_with fail
      refine (imageCheck_any _ _ _ _).mono ?_
      rintro e w1 ⟨rfl, rfl⟩
      go_wp2_with fail
      refine (entryCheck_any l _ B d w hB wf).mono ?_
      rintro e w1 ⟨rfl, hx1⟩
      go_wp2_with fail
      refine (cloneU_any m A c w1 (hA.ext hx1) (by have := (chk_len H0.out).2.1; omega)).mono ?_
      rintro e w2 ⟨A2, c2, rfl, hown, hA2, hx2⟩
      obtain ⟨g, rfl, hg⟩ := own_head hown (chk_len H0.out).1
      replace hown := own_base hown hx1.size
      replace hg := Nat.le_trans hx1.size hg
      have hX := hx1.trans hx2
      clear hx1 hx2 hA2
      have hlm := hB.max
      unfold maxLen at hlm
      have hld := hB.le
      go_wp2_with fail
      go_loopw [27] (fun i wr => ∃ k : Nat, k ≤ l.length ∧ i = .int .i64 k ∧ wr.ownsRow w.heap.size 24 1 (.slice (some ⟨g, 0, none⟩) m.length c2) m.length (fU (applied m (l.take k))) ∧ Ext w wr) (fun i _ => l.length - (intOf i).toNat)
      case atStart => exact ⟨0, Nat.zero_le _, rfl, hown, hX⟩
      case round =>
        obtain ⟨k, hk, rfl, hown, hx⟩ := hrel
        by_cases hlt : k < l.length
        · obtain ⟨a, x, rfl, hat, g1, g2⟩ := (hB.ext hx).e_at hlt
          obtain ⟨b0, b1⟩ := hr x (mem_of_at hat)
          have hlen := applied_length (l.take k) m
          obtain ⟨y, hy, hc, hf⟩ := own_at_U hown (i := x.1.toNat) (by rw [hlen]; omega)
          have hgl := block_lt_of_cell hc
          have Hat := Lib.hid hat; have Hy := Lib.hid hy; have HL := Lib.hid hlen
          clear hat hy hlen h0
          go_wp2
          go_roundw
          case rel =>
            refine ⟨k + 1, by omega, by go_num, ?_, ?_⟩
            · rw [applied_take Hat.out]
              first | exact own_set_U (hown.alloc _) _ _ | exact (own_set_U hown _ _).alloc _
            · first | exact (hx.alloc _).setCell (p := ⟨g, x.1.toNat, none⟩) hg _ | exact (hx.setCell (p := ⟨g, x.1.toNat, none⟩) hg _).alloc _
          case measure => simp [intOf]; omega
        · obtain rfl : k = l.length := by omega
          clear h0
          go_wp2
          go_ret2
          rw [List.take_length] at hown
          exact .inl ⟨by simp [H0.out], retOwn2_mk hown hx⟩
    · have hb : (chkE l m.length != 0) = true := by simpa using h0
      go_enter Try.func45, Try.ntmps45
      go_wp2_with fail
      refine (imageCheck_any _ _ _ _).mono ?_
      rintro e w1 ⟨rfl, rfl⟩
      go_wp2_with fail
      refine (entryCheck_any l _ B d w hB wf).mono ?_
      rintro e w1 ⟨rfl, hx1⟩
      go_wp2_with fail
      go_ret2
      exact .inr ⟨by simpa using h0, rfl, hx1⟩
theorem entryApply_at (m : List Int) (l : List (Int × Int)) (n k : Nat) (hn : m.length = n) (hk : l.length = k) (A : Option Addr) (c : Nat) (B : Option Addr) (d : Nat) (w : World) (hA : Sl w A n c (fU m)) (hB : Sl w B k d (fE l)) (wf : WfE l) :
    Calls Try.prog 45 #[.slice A n c, .slice B k d] w (RetS w 24 1 n (fU (applied m l)) (if sizeB n then chkE l n else 8)) := by
  subst hn hk
  exact entryApply_any m l A c B d w hA hB wf
end Go.Proofs.Ytmkcpnklaijkfaa
/-
  Cuts of slices, and plain laws on applying entries in another order.
-/
namespace Go.Proofs.Ytmkcpnklaijkfaa
open Go.RowKit

theorem Sl.cut {w : World} {A : Option Addr} {n c : Nat} {xs : List Value} (h : Sl w A n c xs) {k size : Nat} (hl : xs.length = n * size) (hk : k ≤ n) :
    Sl w (if c = k then A else A.map (·.add (k * size))) (n - k) (c - k) (xs.drop (k * size)) := by
  have hle := h.le
  have hmax := h.max
  refine ⟨by omega, by unfold maxLen at *; omega, fun h0 => ?_, fun hx => ?_⟩
  · by_cases hc : c = k
    · omega
    · rw [if_neg hc] at h0
      have := h.nil (by simpa using h0)
      omega
  · have hlt : k * size < xs.length := by
      rcases Nat.lt_or_ge (k * size) xs.length with h1 | h1
      · exact h1
      · exact absurd (List.drop_eq_nil_of_le h1) hx
    rw [hl] at hlt
    have hkn : k < n := by
      rcases Nat.lt_or_ge k n with h1 | h1
      · exact h1
      · have := Nat.mul_le_mul_right size h1; omega
    obtain ⟨ad, rfl, hc⟩ := h.cells (by intro h0; rw [h0] at hl; simp only [List.length_nil] at hl; omega)
    rw [if_neg (by omega)]
    refine ⟨ad.add (k * size), rfl, fun j u hu => ?_⟩
    rw [add_of_add]
    exact hc _ u (by rw [← hu, List.getElem?_drop])
theorem Sl.pre {w : World} {A : Option Addr} {n c : Nat} {xs : List Value} (h : Sl w A n c xs) {k size : Nat} (hk : k ≤ n) : Sl w A k c (xs.take (k * size)) := by
  have hle := h.le
  refine ⟨by omega, h.max, h.nil, fun hx => ?_⟩
  obtain ⟨ad, rfl, hc⟩ := h.cells (by intro h0; subst h0; simp at hx)
  refine ⟨ad, rfl, fun j u hu => hc j u ?_⟩
  rw [List.getElem?_take] at hu
  split at hu
  · exact hu
  · cases hu
theorem fE_drop (l : List (Int × Int)) (k : Nat) : fE (l.drop k) = (fE l).drop (k * 2) := by
  induction l generalizing k with
  | nil => simp [fE]
  | cons e l ih =>
    cases k with
    | zero => simp
    | succ k => rw [show (k + 1) * 2 = k * 2 + 1 + 1 from by omega]; simp [fE, ih]
theorem fE_take (l : List (Int × Int)) (k : Nat) : fE (l.take k) = (fE l).take (k * 2) := by
  induction l generalizing k with
  | nil => simp [fE]
  | cons e l ih =>
    cases k with
    | zero => simp [fE]
    | succ k => rw [show (k + 1) * 2 = k * 2 + 1 + 1 from by omega]; simp [fE, ih]
theorem fU_drop (m : List Int) (k : Nat) : fU (m.drop k) = (fU m).drop (k * 1) := by simp [fU, List.map_drop]
theorem fU_take (m : List Int) (k : Nat) : fU (m.take k) = (fU m).take (k * 1) := by simp [fU, List.map_take]
theorem Sl.e_drop {w : World} {A : Option Addr} {c : Nat} {l : List (Int × Int)} (h : Sl w A l.length c (fE l)) {k : Nat} (hk : k ≤ l.length) :
    Sl w (if c = k then A else A.map (·.add (k * 2))) (l.drop k).length (c - k) (fE (l.drop k)) := by
  rw [fE_drop, List.length_drop]
  exact h.cut (fE_length l) hk
theorem Sl.e_take {w : World} {A : Option Addr} {c : Nat} {l : List (Int × Int)} (h : Sl w A l.length c (fE l)) {k : Nat} (hk : k ≤ l.length) : Sl w A (l.take k).length c (fE (l.take k)) := by
  rw [fE_take, List.length_take, Nat.min_eq_left hk]
  exact h.pre hk
theorem Sl.u_drop {w : World} {A : Option Addr} {c : Nat} {m : List Int} (h : Sl w A m.length c (fU m)) {k : Nat} (hk : k ≤ m.length) :
    Sl w (if c = k then A else A.map (·.add (k * 1))) (m.drop k).length (c - k) (fU (m.drop k)) := by
  rw [fU_drop, List.length_drop]
  exact h.cut (by simp) hk
theorem Sl.u_take {w : World} {A : Option Addr} {c : Nat} {m : List Int} (h : Sl w A m.length c (fU m)) {k : Nat} (hk : k ≤ m.length) : Sl w A (m.take k).length c (fU (m.take k)) := by
  rw [fU_take, List.length_take, Nat.min_eq_left hk]
  exact h.pre hk

/- changes, plainly -/
theorem okFrom_iff {words : Int} {l : List (Int × Int)} : ∀ {S : List Int}, okFrom words S l = true ↔ (∀ x ∈ l, mayB x.1 words = true) ∧ (l.map Prod.fst).Nodup ∧ ∀ x ∈ l, x.1 ∉ S := by
  induction l with
  | nil => intro S; simp [okFrom]
  | cons e l ih =>
    intro S
    simp only [okFrom, Bool.and_eq_true, Bool.not_eq_true', ih, List.mem_cons, List.map_cons, List.nodup_cons, List.mem_map]
    constructor
    · rintro ⟨⟨h1, h2⟩, h3, h4, h5⟩
      have h2' : e.1 ∉ S := by simpa using h2
      refine ⟨fun x hx => ?_, ⟨?_, h4⟩, fun x hx => ?_⟩
      · rcases hx with rfl | hx
        · exact h1
        · exact h3 x hx
      · rintro ⟨x, hx, he⟩
        exact h5 x hx (by simp [he])
      · rcases hx with rfl | hx
        · exact h2'
        · intro hS; exact h5 x hx (by simp [hS])
    · rintro ⟨h1, ⟨h2, h3⟩, h4⟩
      refine ⟨⟨h1 e (.inl rfl), by simpa using h4 e (.inl rfl)⟩, fun x hx => h1 x (.inr hx), h3, fun x hx => ?_⟩
      rintro (he | he)
      · exact h2 ⟨x, hx, he⟩
      · exact h4 x (.inr hx) he
theorem chk_iff {l : List (Int × Int)} {words : Int} : chkE l words = 0 ↔ sizeB words = true ∧ l.length ≤ 32 ∧ (∀ x ∈ l, mayB x.1 words = true) ∧ (l.map Prod.fst).Nodup := by
  constructor
  · intro h
    obtain ⟨h1, h2, h3⟩ := chk_ok h
    obtain ⟨a, b, _⟩ := okFrom_iff.1 h3
    exact ⟨h1, h2, a, b⟩
  · rintro ⟨h1, h2, h3, h4⟩
    unfold chkE
    rw [if_pos h1, if_neg (by omega), if_pos (okFrom_iff.2 ⟨h3, h4, fun x _ hx => by cases hx⟩)]
theorem chk_perm {l l' : List (Int × Int)} {words : Int} (h : chkE l words = 0) (hp : l'.Perm l) : chkE l' words = 0 := by
  obtain ⟨h1, h2, h3, h4⟩ := chk_iff.1 h
  exact chk_iff.2 ⟨h1, by rw [hp.length_eq]; exact h2, fun x hx => h3 x (hp.mem_iff.1 hx), (hp.map Prod.fst).nodup_iff.2 h4⟩
theorem chk_sub {l l' : List (Int × Int)} {words : Int} (h : chkE l words = 0) (hp : l'.Sublist l) : chkE l' words = 0 := by
  obtain ⟨h1, h2, h3, h4⟩ := chk_iff.1 h
  exact chk_iff.2 ⟨h1, Nat.le_trans hp.length_le h2, fun x hx => h3 x (hp.subset hx), (hp.map Prod.fst).nodup h4⟩
theorem eq_of_fst {l : List (Int × Int)} (h : (l.map Prod.fst).Nodup) {x y : Int × Int} (hx : x ∈ l) (hy : y ∈ l) (he : x.1 = y.1) : x = y := by
  induction l with
  | nil => cases hx
  | cons e l ih =>
    simp only [List.map_cons, List.nodup_cons, List.mem_map] at h
    rcases List.mem_cons.1 hx with hx1 | hx1 <;> rcases List.mem_cons.1 hy with hy1 | hy1
    · rw [hx1, hy1]
    · subst hx1; exact absurd ⟨y, hy1, he.symm⟩ h.1
    · subst hy1; exact absurd ⟨x, hx1, he⟩ h.1
    · exact ih h.2 hx1 hy1
theorem applied_perm {l l' : List (Int × Int)} {words : Int} (h : chkE l words = 0) (hp : l.Perm l') (m : List Int) : applied m l = applied m l' := by
  obtain ⟨h1, h2, h3, h4⟩ := chk_iff.1 h
  unfold applied
  refine List.Perm.foldl_eq' hp (fun x hx y hy z => ?_) m
  by_cases he : x.1 = y.1
  · rw [eq_of_fst h4 hx hy he]
  · have a := mayB_bd (h3 x hx)
    have b := mayB_bd (h3 y hy)
    exact List.set_comm _ _ (by omega)
theorem applied_append (m : List Int) (l l' : List (Int × Int)) : applied m (l ++ l') = applied (applied m l) l' := by simp [applied]
end Go.Proofs.Ytmkcpnklaijkfaa
/-
  The comparisons, with the lengths written otherwise.
-/
namespace Go.Proofs.Ytmkcpnklaijkfaa
open Go.RowKit
theorem same2_at (m o : List Int) (n k : Nat) (hn : m.length = n) (hk : o.length = k) (A B : Option Addr) (c c' : Nat) (w : World) (hA : Sl w A n c (fU m)) (hB : Sl w B k c' (fU o)) :
    Calls Try.prog 38 #[.slice A n c, .slice B k c'] w fun e w' => e = .returned (.bool (decide (m = o))) ∧ Drew w w' := by
  subst hn hk
  exact same2_any m o A B c c' w hA hB
theorem same2_at_yes (m o : List Int) (h : m = o) (n k : Nat) (hn : m.length = n) (hk : o.length = k) (A B : Option Addr) (c c' : Nat) (w : World) (hA : Sl w A n c (fU m)) (hB : Sl w B k c' (fU o)) :
    Calls Try.prog 38 #[.slice A n c, .slice B k c'] w fun e w' => e = .returned (.bool true) ∧ Drew w w' := by
  subst hn hk
  exact same2_yes m o h A B c c' w hA hB
end Go.Proofs.Ytmkcpnklaijkfaa
