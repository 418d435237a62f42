/-
  A device that is built anew in a variable: its safe words in a row, its dirty ones in a row that grows.
-/
import Derived.Test.YtmmcbleoglgamaaDRSto0
import Derived.Deep.RegionLaw
namespace Go.Proofs.Ytmmcbleoglgamaa
open Go.RowKit
theorem Box4.blw {base : Nat} {w w' : World} {g : Nat} {v0 v1 v2 v3 : Value} (h : Box4 w g v0 v1 v2 v3) (x : Below base w w') (hg : g < base) : Box4 w' g v0 v1 v2 v3 :=
  ⟨by rw [Below.cell x hg]; exact h.c0, by rw [Below.cell x hg]; exact h.c1, by rw [Below.cell x hg]; exact h.c2, by rw [Below.cell x hg]; exact h.c3, fun o => by rw [Below.frozen x hg]; exact h.fz o, Nat.lt_of_lt_of_le h.lt (Below.size x)⟩
theorem own_blw {base base' : Nat} {w w' : World} {e : TypeId} {size g n c : Nat} {xs : List Value} (h : w.ownsRow base e size (.slice (some ⟨g, 0, none⟩) n c) n xs) (x : Below base' w w') (hg : g < base') : w'.ownsRow base e size (.slice (some ⟨g, 0, none⟩) n c) n xs := by
  obtain ⟨hl, ⟨hv, _⟩ | ⟨g', cap, cur, hv, hb, hg', r⟩⟩ := h
  · cases hv
  · have hv' := hv
    injection hv with h1 h2 h3
    injection h1 with h1
    injection h1 with h1
    subst h1
    refine ⟨hl, .inr ⟨g, cap, cur, hv', hb, ?_, r⟩⟩
    rw [x.block g hg]
    exact hg'
/-- The variable at g0 holds a device with the words M (a row in block ga), the dirty ones l (a row behind g0); the parameter's box is pb, the result's pb + 1. -/
structure StD (w0 wr : World) (pb g0 ga : Nat) (PA PB PL PD : Value) (n c1 : Nat) (M : List Int) (L : Int) (down : Bool) (B : Option Addr) (d k : Nat) (l : List Dw) : Prop where
  p : Box4 wr pb PA PB PL PD
  r : Box4 wr (pb + 1) (.slice none 0 0) (.slice none 0 0) (.int .i64 0) (.bool false)
  o : Box4 wr g0 (.slice (some ⟨ga, 0, none⟩) n c1) (.slice B k d) (.int .i64 L) (.bool down)
  own : wr.ownsRow (g0 + 1) 44 3 (.slice B k d) k (fD l)
  img : wr.ownsRow (pb + 2) 26 1 (.slice (some ⟨ga, 0, none⟩) n c1) n (fU M)
  x : Ext w0 wr
  lo : w0.heap.size ≤ pb
  ga1 : pb + 2 ≤ ga
  ga2 : ga < g0
theorem StD.len {w0 wr : World} {pb g0 ga : Nat} {PA PB PL PD : Value} {n c1 : Nat} {M : List Int} {L : Int} {down : Bool} {B : Option Addr} {d k : Nat} {l : List Dw} (h : StD w0 wr pb g0 ga PA PB PL PD n c1 M L down B d k l) : l.length = k := by
  have := h.own.1
  rw [fD_length] at this
  omega
/-- A dirty word is appended, and the slice stored into the variable. -/
theorem StD.push {w0 wr w1 w' : World} {pb g0 ga : Nat} {PA PB PL PD : Value} {n c1 : Nat} {M : List Int} {L : Int} {down : Bool} {B B' : Option Addr} {d d' k k' : Nat} {l l' : List Dw}
    (h : StD w0 wr pb g0 ga PA PB PL PD n c1 M L down B d k l) (h1 : Ext wr w1) (hb : Below (g0 + 1) w1 w') (ho : w'.ownsRow (g0 + 1) 44 3 (.slice B' k' d') k' (fD l')) :
    StD w0 (w'.setCell ⟨g0, 1, none⟩ (.slice B' k' d')) pb g0 ga PA PB PL PD n c1 M L down B' d' k' l' := by
  have l1 := h.lo
  have l2 := h.ga1
  have l3 := h.ga2
  have hx1 := (h.x.trans h1)
  exact ⟨((h.p.ext h1).blw hb (by omega)).far (p := ⟨g0, 1, none⟩) (by show g0 ≠ pb; omega) _, ((h.r.ext h1).blw hb (by omega)).far (p := ⟨g0, 1, none⟩) (by show g0 ≠ pb + 1; omega) _,
    ((h.o.ext h1).blw hb (by omega)).set1 _, own_cell ho (by omega) 1 _, own_cellF (own_blw (own_ext h.img h1) hb (by omega)) (fun ad e => by injection e with e; subst e; show ga ≠ g0; omega) 1 _,
    (Below.trans hx1 (Below.mono hb (by omega))).setCell (p := ⟨g0, 1, none⟩) (by show w0.heap.size ≤ g0; omega) _, l1, l2, l3⟩
theorem StD.ext {w0 wr w' : World} {pb g0 ga : Nat} {PA PB PL PD : Value} {n c1 : Nat} {M : List Int} {L : Int} {down : Bool} {B : Option Addr} {d k : Nat} {l : List Dw}
    (h : StD w0 wr pb g0 ga PA PB PL PD n c1 M L down B d k l) (h1 : Ext wr w') : StD w0 w' pb g0 ga PA PB PL PD n c1 M L down B d k l :=
  ⟨h.p.ext h1, h.r.ext h1, h.o.ext h1, own_ext h.own h1, own_ext h.img h1, h.x.trans h1, h.lo, h.ga1, h.ga2⟩
/-- A word is stored into the image. -/
theorem StD.word {w0 wr : World} {pb g0 ga : Nat} {PA PB PL PD : Value} {n c1 : Nat} {M : List Int} {L : Int} {down : Bool} {B : Option Addr} {d k : Nat} {l : List Dw}
    (h : StD w0 wr pb g0 ga PA PB PL PD n c1 M L down B d k l) (i : Nat) (v : Int) : StD w0 (wr.setCell ⟨ga, i, none⟩ (.int .u64 v)) pb g0 ga PA PB PL PD n c1 (M.set i v) L down B d k l := by
  have l1 := h.lo
  have l2 := h.ga1
  have l3 := h.ga2
  exact ⟨h.p.far (p := ⟨ga, i, none⟩) (by show ga ≠ pb; omega) _, h.r.far (p := ⟨ga, i, none⟩) (by show ga ≠ pb + 1; omega) _, h.o.far (p := ⟨ga, i, none⟩) (by show ga ≠ g0; omega) _,
    own_cell h.own (by omega) i _, own_set_U h.img _ _, h.x.setCell (p := ⟨ga, i, none⟩) (by show w0.heap.size ≤ ga; omega) _, l1, l2, l3⟩
/-- What the call returns: the variable's device, copied into the result's box. -/
theorem StD.ret {w0 wr : World} {ga : Nat} {g0 : Nat} {PA PB PL PD : Value} {n c1 : Nat} {M : List Int} {L : Int} {down : Bool} {B : Option Addr} {d k : Nat} {l : List Dw} {left : Int}
    (h : StD w0 wr w0.heap.size g0 ga PA PB PL PD n c1 M L down B d k l) (hm : M.length = n) (hl : left = L) :
    RetW w0 (M, l, left, down) (.returned (.agg #[.slice (some ⟨ga, 0, none⟩) n c1, .slice B k d, .int .i64 L, .bool down])) ((((wr.setCell ⟨w0.heap.size + 1, 0, none⟩ (.slice (some ⟨ga, 0, none⟩) n c1)).setCell ⟨w0.heap.size + 1, 1, none⟩ (.slice B k d)).setCell ⟨w0.heap.size + 1, 2, none⟩ (.int .i64 L)).setCell ⟨w0.heap.size + 1, 3, none⟩ (.bool down)) := by
  have l2 := h.ga1
  have l3 := h.ga2
  have hA3 := own_set4 h.img (b := w0.heap.size + 1) (by omega) (.slice (some ⟨ga, 0, none⟩) n c1) (.slice B k d) (.int .i64 L) (.bool down)
  have hB3 := own_set4 h.own (b := w0.heap.size + 1) (by omega) (.slice (some ⟨ga, 0, none⟩) n c1) (.slice B k d) (.int .i64 L) (.bool down)
  exact retW_at hm h.len hl (own_sl4 hA3) (own_sl4 hB3) (own_new hA3 (by omega)) (own_new hB3 (by omega)) (set4_ext h.x (Nat.le_succ _) _ _ _ _)
end Go.Proofs.Ytmmcbleoglgamaa
