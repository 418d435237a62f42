/-
  The closure of atomic.Change.
-/
import Derived.Test.YtmkcpnklaijkfaaAList
namespace Go.Proofs.Ytmkcpnklaijkfaa
open Go.RowKit
/-- Other slices with the same contents in the variable. -/
theorem PT.set2 {w0 wr : World} {gd ge : Nat} {m : List Int} {q : List Dw} {left : Int} {down : Bool} (h : PT w0 wr gd ge m q left down) {A B : Option Addr} {c d : Nat} (hA : Sl wr A m.length c (fU m)) (hB : Sl wr B q.length d (fD q)) (fA : ∀ ad, A = some ad → ad.block ≠ gd) (fB : ∀ ad, B = some ad → ad.block ≠ gd) :
    PT w0 ((wr.setCell ⟨gd, 0, none⟩ (.slice A m.length c)).setCell ⟨gd, 1, none⟩ (.slice B q.length d)) gd ge m q left down := by
  obtain ⟨A0, c0, B0, d0, hb, -, -⟩ := h.d
  have l1 := h.lo
  have l2 := h.lt
  have hne : gd ≠ ge := by omega
  refine ⟨⟨A, c, B, d, (hb.set0 _).set1 _, (hA.setCell (p := ⟨gd, 0, none⟩) fA _).setCell (p := ⟨gd, 1, none⟩) fA _, (hB.setCell (p := ⟨gd, 0, none⟩) fB _).setCell (p := ⟨gd, 1, none⟩) fB _⟩, ?_, ?_, ?_, (h.x.setCell (p := ⟨gd, 0, none⟩) l1 _).setCell (p := ⟨gd, 1, none⟩) l1 _, l1, l2⟩
  · rw [cell_other (by intro e; injection e with e; omega), cell_other (by intro e; injection e with e; omega)]
    exact h.e
  · intro o
    rw [World.frozen?_setCell, World.frozen?_setCell]
    exact h.ef o
  · exact (h.r.far (p := ⟨gd, 0, none⟩) (by show gd ≠ gd + 1; omega) _).far (p := ⟨gd, 1, none⟩) (by show gd ≠ gd + 1; omega) _
theorem PT.set2' {w0 wr : World} {gd ge : Nat} {m : List Int} {q : List Dw} {left : Int} {down : Bool} (h : PT w0 wr gd ge m q left down) {A B : Option Addr} {c d : Nat} (hA : Sl wr A m.length c (fU m)) (hB : Sl wr B q.length d (fD q)) (fA : ∀ ad, A = some ad → ad.block ≠ gd) (fB : ∀ ad, B = some ad → ad.block ≠ gd) :
    PT w0 ((wr.setCell ⟨gd, 1, none⟩ (.slice B q.length d)).setCell ⟨gd, 0, none⟩ (.slice A m.length c)) gd ge m q left down := by
  obtain ⟨A0, c0, B0, d0, hb, -, -⟩ := h.d
  have l1 := h.lo
  have l2 := h.lt
  have hne : gd ≠ ge := by omega
  refine ⟨⟨A, c, B, d, (hb.set1 _).set0 _, (hA.setCell (p := ⟨gd, 1, none⟩) fA _).setCell (p := ⟨gd, 0, none⟩) fA _, (hB.setCell (p := ⟨gd, 1, none⟩) fB _).setCell (p := ⟨gd, 0, none⟩) fB _⟩, ?_, ?_, ?_, (h.x.setCell (p := ⟨gd, 1, none⟩) l1 _).setCell (p := ⟨gd, 0, none⟩) l1 _, l1, l2⟩
  · rw [cell_other (by intro e; injection e with e; omega), cell_other (by intro e; injection e with e; omega)]
    exact h.e
  · intro o
    rw [World.frozen?_setCell, World.frozen?_setCell]
    exact h.ef o
  · exact (h.r.far (p := ⟨gd, 1, none⟩) (by show gd ≠ gd + 1; omega) _).far (p := ⟨gd, 0, none⟩) (by show gd ≠ gd + 1; omega) _
set_option maxRecDepth 100000 in
set_option maxHeartbeats 800000 in
theorem chF_any {w0 w : World} {gd ge : Nat} {m : List Int} {q : List Dw} {left : Int} {down : Bool} (h : PT w0 w gd ge m q left down) (l : List (Int × Int)) (E : Option Addr) (f : Nat) (hE : Sl w E l.length f (fE l)) (hd : devB m q left down = true) (hl : l.length ≤ 64) (hr : ∀ e ∈ l, 0 ≤ e.1 ∧ e.1 < (m.length : Int)) (wf : WfE l) {m' : List Int} {q' : List Dw} {l' : Int} {n' : Bool} (hD : runD (m, q, left, down) (putOps l 256) = (m', q', l', n')) :
    Calls Try.prog 88 #[.slice E l.length f, .pointer (some ⟨ge, 0, none⟩), .pointer (some ⟨gd, 0, none⟩)] w fun e w' => e = .returned (.tuple #[]) ∧ PT w0 w' gd ge m' q' l' n' := by
  have hp := fun A c B d W (ha : Sl W A m.length c (fU m)) (hb : Sl W B q.length d (fD q)) (he : Sl W E l.length f (fE l)) => put_ok m q left down l A c B d E f W ha hb he hd hl hr wf
  rw [hD] at hp
  have HP := Lib.hid (And.intro hp h)
  have he := h.e
  have hef := h.ef
  obtain ⟨A0, c0, B0, d0, ⟨b0, b1, b2, b3, bf, bl⟩, sA, sB⟩ := h.d
  clear hp hd hr wf hD h
  go_enter Try.func88, Try.ntmps88
  go_wp2_with fail
  refine (HP.out.1 A0 c0 B0 d0 w sA sB hE).mono ?_
  rintro e w1 ⟨A1, c1, B1, d1, rfl, sA1, sB1, hx⟩
  clear b0 b1 b2 b3 bf bl sA sB he hef
  have h1 := HP.out.2.ext hx
  have H1 := Lib.hid (h1.set sA1 sB1 l' n')
  have he := h1.e
  have hef := h1.ef
  have hlt := h1.lt
  obtain ⟨A0, c0, B0, d0, ⟨b0, b1, b2, b3, bf, bl⟩, -, -⟩ := h1.d
  clear h1
  go_wp2_with fail
  refine bodyPost_end (v := .tuple #[]) (by simp [results, Try.results88, go_sem]) rfl ?_
  exact ⟨rfl, H1.out⟩
end Go.Proofs.Ytmkcpnklaijkfaa
