/-
  The library's slices.IndexFunc and slices.DeleteFunc with the closure of cache.Fence.
-/
import Derived.Test.YtmmcbleoglgamaaDSto2
import Derived.Test.YtmmcbleoglgamaaDRFen1
namespace Go.Proofs.Ytmmcbleoglgamaa
open Go.RowKit
/-- A device in the box pb, of its own: the words M in block ga, the dirty row in block g. -/
structure FS (w0 wr : World) (pb ga g n c1 k d1 : Nat) (M : List Int) (kk : Nat) (l : List Dw) (L : Int) (down : Bool) : Prop where
  o : Box4 wr pb (.slice (some ⟨ga, 0, none⟩) n c1) (.slice (some ⟨g, 0, none⟩) k d1) (.int .i64 L) (.bool down)
  r : Box4 wr (pb + 1) (.slice none 0 0) (.slice none 0 0) (.int .i64 0) (.bool false)
  img : wr.ownsRow (pb + 2) 26 1 (.slice (some ⟨ga, 0, none⟩) n c1) n (fU M)
  row : wr.ownsRow (pb + 2) 44 3 (.slice (some ⟨g, 0, none⟩) kk d1) kk (fD l)
  x : Ext w0 wr
  lo : w0.heap.size ≤ pb
section
variable {w0 wr w' : World} {pb ga g n c1 k d1 : Nat} {M : List Int} {kk : Nat} {l : List Dw} {L : Int} {down : Bool}
theorem FS.ext (h : FS w0 wr pb ga g n c1 k d1 M kk l L down) (x : Ext wr w') : FS w0 w' pb ga g n c1 k d1 M kk l L down :=
  ⟨h.o.ext x, h.r.ext x, own_ext h.img x, own_ext h.row x, h.x.trans x, h.lo⟩
theorem FS.ne (h : FS w0 wr pb ga g n c1 k d1 M kk l L down) : ga ≠ g := own_apart h.img h.row (by decide) _ rfl
theorem FS.ga_le (h : FS w0 wr pb ga g n c1 k d1 M kk l L down) : pb + 2 ≤ ga := (h.img.lt ga rfl).1
theorem FS.g_le (h : FS w0 wr pb ga g n c1 k d1 M kk l L down) : pb + 2 ≤ g := (h.row.lt g rfl).1
theorem FS.len (h : FS w0 wr pb ga g n c1 k d1 M kk l L down) : l.length = kk := by
  have := h.row.1
  rw [fD_length] at this
  omega
theorem FS.word (h : FS w0 wr pb ga g n c1 k d1 M kk l L down) (i : Nat) (v : Int) : FS w0 (wr.setCell ⟨ga, i, none⟩ (.int .u64 v)) pb ga g n c1 k d1 (M.set i v) kk l L down := by
  have l1 := h.lo
  have l2 := h.ga_le
  have l3 := h.ne
  exact ⟨h.o.far (p := ⟨ga, i, none⟩) (by show ga ≠ pb; omega) _, h.r.far (p := ⟨ga, i, none⟩) (by show ga ≠ pb + 1; omega) _, own_set_U h.img _ _,
    own_cellF h.row (fun ad e => by injection e with e; subst e; exact Ne.symm l3) i _, h.x.setCell (p := ⟨ga, i, none⟩) (by show w0.heap.size ≤ ga; omega) _, l1⟩
theorem FS.put (h : FS w0 wr pb ga g n c1 k d1 M kk l L down) {i : Nat} (hi : i < l.length) (y : Dw) :
    FS w0 (((wr.setCell ⟨g, i * 3, none⟩ (.int .i64 y.1)).setCell ⟨g, i * 3 + 1, none⟩ (.int .u64 y.2.1)).setCell ⟨g, i * 3 + 2, none⟩ (.bool y.2.2)) pb ga g n c1 k d1 M kk (l.set i y) L down := by
  have l1 := h.lo
  have l2 := h.g_le
  have l3 := h.ne
  have hap : ∀ ad, (some (⟨ga, 0, none⟩ : Addr)) = some ad → ad.block ≠ g := fun ad e => by injection e with e; subst e; exact l3
  exact ⟨((h.o.far (p := ⟨g, i * 3, none⟩) (by show g ≠ pb; omega) _).far (p := ⟨g, i * 3 + 1, none⟩) (by show g ≠ pb; omega) _).far (p := ⟨g, i * 3 + 2, none⟩) (by show g ≠ pb; omega) _,
    ((h.r.far (p := ⟨g, i * 3, none⟩) (by show g ≠ pb + 1; omega) _).far (p := ⟨g, i * 3 + 1, none⟩) (by show g ≠ pb + 1; omega) _).far (p := ⟨g, i * 3 + 2, none⟩) (by show g ≠ pb + 1; omega) _,
    own_cellF (own_cellF (own_cellF h.img hap _ _) hap _ _) hap _ _, own_set_D3 h.row hi y,
    ((h.x.setCell (p := ⟨g, i * 3, none⟩) (by show w0.heap.size ≤ g; omega) _).setCell (p := ⟨g, i * 3 + 1, none⟩) (by show w0.heap.size ≤ g; omega) _).setCell (p := ⟨g, i * 3 + 2, none⟩) (by show w0.heap.size ≤ g; omega) _, l1⟩
end
/-- The closure, at a word that is not flushed, and at one that is. -/
theorem fenF_no (a v : Int) (pb : Nat) (w : World) :
    Calls Try.prog 62 #[.agg #[.int .i64 a, .int .u64 v, .bool false], .pointer (some ⟨pb, 0, none⟩)] w fun e w' => e = .returned (.bool false) ∧ Ext w w' := by
  go_enter Try.func62, Try.ntmps62
  go_wp2_with fail
  go_ret
  exact ⟨rfl, (by repeat (first | assumption | exact Ext.refl _ | refine Ext.drewN ?_ _ | refine Ext.drew ?_ | refine Ext.alloc ?_ _ | refine Ext.trans ?_ (by assumption)))⟩
theorem fenF_yes (a v : Int) (a0 : 0 ≤ a) {w0 : World} {pb ga g n c1 k d1 : Nat} {M : List Int} {kk : Nat} {l : List Dw} {L : Int} {down : Bool} (w : World) (h : FS w0 w pb ga g n c1 k d1 M kk l L down) (a1 : a < M.length) (hn : M.length ≤ 2048) :
    Calls Try.prog 62 #[.agg #[.int .i64 a, .int .u64 v, .bool true], .pointer (some ⟨pb, 0, none⟩)] w fun e w' => e = .returned (.bool true) ∧ FS w0 w' pb ga g n c1 k d1 (M.set a.toNat v) kk l L down := by
  have hm : M.length = n := by have := h.img.1; simpa using this
  obtain ⟨y, hy, c0, cf⟩ := own_at_U h.img (i := a.toNat) (by omega)
  obtain ⟨o0, o1, o2, o3, of, ol⟩ := h.o
  have hgl := block_lt_of_cell c0
  have i1 : a < n := by omega
  have HS := Lib.hid h
  clear h hy hm
  go_enter Try.func62, Try.ntmps62
  go_wp2_with fail
  go_ret
  refine ⟨rfl, ?_⟩
  first | exact (HS.out.ext ((Ext.refl _).alloc _)).word _ _ | exact (HS.out.word _ _).ext ((Ext.refl _).alloc _)
end Go.Proofs.Ytmmcbleoglgamaa
