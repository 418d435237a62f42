/-
  The arguments of this seat's laws, opened.
-/
import Derived.Test.YtibeolemelmpcaaRow
import Derived.Test.YtibeolemelmpcaaTys
namespace Go.Proofs.Ytibeolemelmpcaa
open Go.RowKit Go.ChangeShapes Go.WideShapes Go.ChangeAt Go.Deep Go.Joins
set_option maxRecDepth 100000

theorem own_knob : ownKnob Try.prog.godebug = none := by kernel_rfl
theorem laid_out : laidOutB Try.prog = true := by kernel_rfl
section
variable {H : Type} {enc : TypeId × Value → H} {w : World} {base : Nat} {spare : Nat → Bool} {held : Bool} {r : Reach} {b0 : Nat} {v : Value} {d : DataW H} {p : List MemPlace}
theorem op_i (hv : Value.okWide Try.prog w r b0 3 v) (h : DataW.Trod enc Try.prog w base spare held 3 v d p) : ∃ x, v = .int .i64 x ∧ InI x := by
  obtain ⟨x, rfl, rfl, rfl, wx⟩ := open_int Try.underlying3 hv h
  exact ⟨x, rfl, inI_of wx⟩
theorem op_u (hv : Value.okWide Try.prog w r b0 23 v) (h : DataW.Trod enc Try.prog w base spare held 23 v d p) : ∃ x, v = .int .u64 x ∧ InU x := by
  obtain ⟨x, rfl, rfl, rfl, wx⟩ := open_int Try.underlying23 hv h
  exact ⟨x, rfl, inU_of wx⟩
theorem op_y (hv : Value.okWide Try.prog w r b0 5 v) (h : DataW.Trod enc Try.prog w base spare held 5 v d p) : ∃ x, v = .int .u8 x ∧ 0 ≤ x ∧ x ≤ 255 := by
  obtain ⟨x, rfl, rfl, rfl, wx⟩ := open_int Try.underlying5 hv h
  refine ⟨x, rfl, ?_⟩
  simp [Lit.wf, IntKind.min, IntKind.max, IntKind.signed, IntKind.bits] at wx
  exact ⟨by omega, by omega⟩
theorem op_U (hv : Value.okWide Try.prog w r b0 35 v) (h : DataW.Trod enc Try.prog w base spare held 35 v d p) : ∃ A c m, v = .slice A m.length c ∧ Sl w A m.length c (fU m) ∧ WfU m := by
  obtain ⟨fuel, hf⟩ := slice_cells Try.underlying35 hv h
  exact rd_U Try.underlying35 Try.underlying23 (by kernel_rfl) hf
theorem op_I (hv : Value.okWide Try.prog w r b0 61 v) (h : DataW.Trod enc Try.prog w base spare held 61 v d p) : ∃ A c m, v = .slice A m.length c ∧ Sl w A m.length c (fI m) ∧ WfI m := by
  obtain ⟨fuel, hf⟩ := slice_cells Try.underlying61 hv h
  exact rd_I Try.underlying61 Try.underlying3 (by kernel_rfl) hf
theorem op_E (hv : Value.okWide Try.prog w r b0 22 v) (h : DataW.Trod enc Try.prog w base spare held 22 v d p) : ∃ A c l, v = .slice A l.length c ∧ Sl w A l.length c (fE l) ∧ WfE l := by
  obtain ⟨fuel, hf⟩ := slice_cells Try.underlying22 hv h
  exact rd_E Try.underlying22 Try.underlying56 (by kernel_rfl) (by kernel_rfl) rfl rfl Try.underlying3 Try.underlying23 hf
end
end Go.Proofs.Ytibeolemelmpcaa
