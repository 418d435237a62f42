/-
  The arguments of this seat's laws, opened.
-/
import Derived.Test.YtmmcbleoglgamaaRow
import Derived.Test.YtmmcbleoglgamaaTys
namespace Go.Proofs.Ytmmcbleoglgamaa
open Go.RowKit Go.ChangeShapes Go.WideShapes Go.ChangeAt Go.Deep Go.Joins
set_option maxRecDepth 100000

theorem own_knob : ownKnob Try.prog.godebug = none := by kernel_rfl
theorem laid_out : laidOutB Try.prog = true := by kernel_rfl
section
variable {H : Type} {enc : TypeId × Value → H} {w : World} {base : Nat} {spare : Nat → Bool} {held : Bool} {r : Reach} {b0 : Nat} {v : Value} {d : DataW H} {p : List MemPlace}
theorem op_i (hv : Value.okWide Try.prog w r b0 3 v) (h : DataW.Trod enc Try.prog w base spare held 3 v d p) : ∃ x, v = .int .i64 x ∧ InI x := by
  obtain ⟨x, rfl, rfl, rfl, wx⟩ := open_int Try.underlying3 hv h
  exact ⟨x, rfl, inI_of wx⟩
theorem op_u (hv : Value.okWide Try.prog w r b0 26 v) (h : DataW.Trod enc Try.prog w base spare held 26 v d p) : ∃ x, v = .int .u64 x ∧ InU x := by
  obtain ⟨x, rfl, rfl, rfl, wx⟩ := open_int Try.underlying26 hv h
  exact ⟨x, rfl, inU_of wx⟩
theorem op_y (hv : Value.okWide Try.prog w r b0 5 v) (h : DataW.Trod enc Try.prog w base spare held 5 v d p) : ∃ x, v = .int .u8 x ∧ 0 ≤ x ∧ x ≤ 255 := by
  obtain ⟨x, rfl, rfl, rfl, wx⟩ := open_int Try.underlying5 hv h
  refine ⟨x, rfl, ?_⟩
  simp [Lit.wf, IntKind.min, IntKind.max, IntKind.signed, IntKind.bits] at wx
  exact ⟨by omega, by omega⟩
theorem op_U (hv : Value.okWide Try.prog w r b0 22 v) (h : DataW.Trod enc Try.prog w base spare held 22 v d p) : ∃ A c m, v = .slice A m.length c ∧ Sl w A m.length c (fU m) ∧ WfU m := by
  obtain ⟨fuel, hf⟩ := slice_cells Try.underlying22 hv h
  exact rd_U Try.underlying22 Try.underlying26 (by kernel_rfl) hf
theorem op_I (hv : Value.okWide Try.prog w r b0 39 v) (h : DataW.Trod enc Try.prog w base spare held 39 v d p) : ∃ A c m, v = .slice A m.length c ∧ Sl w A m.length c (fI m) ∧ WfI m := by
  obtain ⟨fuel, hf⟩ := slice_cells Try.underlying39 hv h
  exact rd_I Try.underlying39 Try.underlying3 (by kernel_rfl) hf
theorem op_E (hv : Value.okWide Try.prog w r b0 71 v) (h : DataW.Trod enc Try.prog w base spare held 71 v d p) : ∃ A c l, v = .slice A l.length c ∧ Sl w A l.length c (fE l) ∧ WfE l := by
  obtain ⟨fuel, hf⟩ := slice_cells Try.underlying71 hv h
  exact rd_E Try.underlying71 Try.underlying73 (by kernel_rfl) (by kernel_rfl) rfl rfl Try.underlying3 Try.underlying26 hf
theorem op_V (hv : Value.okWide Try.prog w r b0 25 v) (h : DataW.Trod enc Try.prog w base spare held 25 v d p) :
    ∃ A c m B k ds left down, v = .agg #[.slice A m.length c, .slice B ds.length k, .int .i64 left, .bool down] ∧ Sl w A m.length c (fU m) ∧ WfU m ∧ Sl w B ds.length k (fD ds) ∧ WfD ds ∧ InI left := by
  obtain ⟨c0, c1, c2, c3, y0, y1, y2, y3, n, rfl, rfl, rfl, h0, h1, h2, h3⟩ := open_agg4 Try.underlying25 (by kernel_rfl) (by kernel_rfl) hv h
  obtain ⟨A, c, m, rfl, hA, wA⟩ := rd_U Try.underlying22 Try.underlying26 (by kernel_rfl) h0
  obtain ⟨B, k, ds, rfl, hB, wB⟩ := rd_D Try.underlying23 Try.underlying44 (by kernel_rfl) (by kernel_rfl) rfl rfl rfl Try.underlying3 Try.underlying26 Try.underlying4 h1
  obtain ⟨a, e2, _, w2⟩ := DataW.trod_int Try.underlying3 h2
  obtain ⟨b, e3, _⟩ := DataW.trod_bool Try.underlying4 h3
  simp only [List.cons.injEq, and_true] at e2 e3
  subst e2 e3
  exact ⟨A, c, m, B, k, ds, a, b, rfl, hA, wA, hB, wB, inI_of w2⟩
end
end Go.Proofs.Ytmmcbleoglgamaa
