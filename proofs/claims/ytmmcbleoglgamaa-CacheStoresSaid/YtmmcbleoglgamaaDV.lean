/-
  A variable that holds a device.
-/
import Derived.Test.YtmmcbleoglgamaaDFence
import Derived.Test.YtmmcbleoglgamaaDRSto2
import Derived.Test.YtmmcbleoglgamaaDRFen2
namespace Go.Proofs.Ytmmcbleoglgamaa
open Go.RowKit
/-- The variable in block g holds a device. -/
def DV (w : World) (g : Nat) (m : List Int) (q : List Dw) (l : Int) (n : Bool) : Prop :=
  ∃ A c B d, Box4 w g (.slice A m.length c) (.slice B q.length d) (.int .i64 l) (.bool n) ∧ Sl w A m.length c (fU m) ∧ Sl w B q.length d (fD q)
theorem DV.mk {w : World} {g : Nat} {m : List Int} {q : List Dw} {l : Int} {n : Bool} {A B : Option Addr} {c d : Nat} (h : Box4 w g (.slice A m.length c) (.slice B q.length d) (.int .i64 l) (.bool n)) (hA : Sl w A m.length c (fU m)) (hB : Sl w B q.length d (fD q)) : DV w g m q l n := ⟨A, c, B, d, h, hA, hB⟩
theorem DV.new (w : World) (m : List Int) (q : List Dw) (l : Int) (n : Bool) (A : Option Addr) (c : Nat) (B : Option Addr) (d : Nat) (T : TypeId) (hA : Sl w A m.length c (fU m)) (hB : Sl w B q.length d (fD q)) :
    DV (w.alloc (Obj.cells #[.slice A m.length c, .slice B q.length d, .int .i64 l, .bool n] T)) w.heap.size m q l n := ⟨A, c, B, d, Box4.new w _ _ _ _ _, hA.alloc _, hB.alloc _⟩
theorem DV.ext {w w' : World} {g : Nat} {m : List Int} {q : List Dw} {l : Int} {n : Bool} (h : DV w g m q l n) (x : Ext w w') : DV w' g m q l n := by
  obtain ⟨A, c, B, d, hb, hA, hB⟩ := h
  exact ⟨A, c, B, d, hb.ext x, hA.ext x, hB.ext x⟩
theorem DV.lt {w : World} {g : Nat} {m : List Int} {q : List Dw} {l : Int} {n : Bool} (h : DV w g m q l n) : g < w.heap.size := by
  obtain ⟨A, c, B, d, hb, -, -⟩ := h
  exact hb.lt
end Go.Proofs.Ytmmcbleoglgamaa
