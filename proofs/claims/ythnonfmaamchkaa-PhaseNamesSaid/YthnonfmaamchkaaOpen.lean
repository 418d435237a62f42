/-
  The arguments of this seat's laws, opened.
-/
import Derived.Test.YthnonfmaamchkaaRow
import Derived.Test.YthnonfmaamchkaaTys
namespace Go.Proofs.Ythnonfmaamchkaa
open Go.RowKit Go.ChangeShapes Go.WideShapes Go.ChangeAt Go.Deep Go.Joins
set_option maxRecDepth 100000

theorem own_knob : ownKnob Try.prog.godebug = none := by kernel_rfl
theorem laid_out : laidOutB Try.prog = true := by kernel_rfl
section
variable {H : Type} {enc : TypeId × Value → H} {w : World} {base : Nat} {spare : Nat → Bool} {held : Bool} {r : Reach} {b0 : Nat} {v : Value} {d : DataW H} {p : List MemPlace}
theorem op_i (hv : Value.okWide Try.prog w r b0 3 v) (h : DataW.Trod enc Try.prog w base spare held 3 v d p) : ∃ x, v = .int .i64 x ∧ InI x := by
  obtain ⟨x, rfl, rfl, rfl, wx⟩ := open_int Try.underlying3 hv h
  exact ⟨x, rfl, inI_of wx⟩
theorem op_u (hv : Value.okWide Try.prog w r b0 31 v) (h : DataW.Trod enc Try.prog w base spare held 31 v d p) : ∃ x, v = .int .u64 x ∧ InU x := by
  obtain ⟨x, rfl, rfl, rfl, wx⟩ := open_int Try.underlying31 hv h
  exact ⟨x, rfl, inU_of wx⟩
theorem op_y (hv : Value.okWide Try.prog w r b0 5 v) (h : DataW.Trod enc Try.prog w base spare held 5 v d p) : ∃ x, v = .int .u8 x ∧ 0 ≤ x ∧ x ≤ 255 := by
  obtain ⟨x, rfl, rfl, rfl, wx⟩ := open_int Try.underlying5 hv h
  refine ⟨x, rfl, ?_⟩
  simp [Lit.wf, IntKind.min, IntKind.max, IntKind.signed, IntKind.bits] at wx
  exact ⟨by omega, by omega⟩
theorem op_U (hv : Value.okWide Try.prog w r b0 41 v) (h : DataW.Trod enc Try.prog w base spare held 41 v d p) : ∃ A c m, v = .slice A m.length c ∧ Sl w A m.length c (fU m) ∧ WfU m := by
  obtain ⟨fuel, hf⟩ := slice_cells Try.underlying41 hv h
  exact rd_U Try.underlying41 Try.underlying31 (by kernel_rfl) hf
theorem op_I (hv : Value.okWide Try.prog w r b0 57 v) (h : DataW.Trod enc Try.prog w base spare held 57 v d p) : ∃ A c m, v = .slice A m.length c ∧ Sl w A m.length c (fI m) ∧ WfI m := by
  obtain ⟨fuel, hf⟩ := slice_cells Try.underlying57 hv h
  exact rd_I Try.underlying57 Try.underlying3 (by kernel_rfl) hf
theorem op_E (hv : Value.okWide Try.prog w r b0 24 v) (h : DataW.Trod enc Try.prog w base spare held 24 v d p) : ∃ A c l, v = .slice A l.length c ∧ Sl w A l.length c (fE l) ∧ WfE l := by
  obtain ⟨fuel, hf⟩ := slice_cells Try.underlying24 hv h
  exact rd_E Try.underlying24 Try.underlying33 (by kernel_rfl) (by kernel_rfl) rfl rfl Try.underlying3 Try.underlying31 hf
theorem op_P (hv : Value.okWide Try.prog w r b0 23 v) (h : DataW.Trod enc Try.prog w base spare held 23 v d p) : ∃ a b c, v = .agg #[.int .i64 a, .int .i64 b, .int .i64 c] ∧ InI a ∧ InI b ∧ InI c := by
  obtain ⟨c0, c1, c2, y0, y1, y2, m, rfl, rfl, rfl, h0, h1, h2⟩ := open_agg3 Try.underlying23 (by kernel_rfl) (by kernel_rfl) hv h
  obtain ⟨a, e0, _, w0⟩ := DataW.trod_int Try.underlying3 h0
  obtain ⟨b, e1, _, w1⟩ := DataW.trod_int Try.underlying3 h1
  obtain ⟨c, e2, _, w2⟩ := DataW.trod_int Try.underlying3 h2
  simp only [List.cons.injEq, and_true] at e0 e1 e2
  subst e0 e1 e2
  exact ⟨a, b, c, rfl, inI_of w0, inI_of w1, inI_of w2⟩
end
end Go.Proofs.Ythnonfmaamchkaa
