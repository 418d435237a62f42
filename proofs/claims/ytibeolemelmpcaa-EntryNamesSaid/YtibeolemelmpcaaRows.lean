/-
  No cell of these rows narrows 'for every input' (looked for: loops, veiled, ifaces, maps, wideKeys, modest, calm, conditions, laid).
  DERIVED. THE GIVEN ROWS OF THIS SEAT. 8 by the template 'for every input the law returns true; each argument reads behind the call as it read before'; 0 by the template 'total and deterministic' (their statements: YtibeolemelmpcaaTotals.lean).
  GIVEN WITH THE SEED: the statements are not yours to turn. If you find one false, say at which input.
  Laid BY PROGRAM, IN A SANDBOX (cutbox-rows.mjs): the forced cells as the released guide's own fill.sh prints them over the translation 8823b72739f2af0c… (all of the seat's roots in one cut). By AI agents, Wed Nov 11 2026. No macro, syntax, notation, axiom, sorry.
-/
import Derived.Test.YtibeolemelmpcaaChecked
import GoSem.Claim
import GoSem.ClaimJoined
import GoSem.ClaimMapViews
import Derived.JoinedTies
import Derived.KernelRfl
namespace Go.Proofs.Ytibeolemelmpcaa
/- THE CELL 'sum', in the pinned program and in every row, IS THE sha256 OF THE DUMP (.gsa) THAT YtibeolemelmpcaaProg.lean LOADS. Nothing in Lean hashes anything: it is a label: what it is worth is what the hold of that sum in a sandbox is worth. -/
noncomputable def Try.pinned : Pinned := { name := "ytibeolemelmpcaa", sum := "8823b72739f2af0c78e9bf7cd8870535c4f329e3d8bbba965d28ca3acd58db9c", checked := Try.checked }
namespace Rows
def none {H : Type} : Left H := { results := [], args := [] }

/-- 'ballastlaw09.CommitWords': WHATEVER THE INPUT: true; the input reads as it did. -/
def commitWordsSpec : ChangeSpec := { name := "commitWords", fn := fun _ => fun
  | [d1, d2, d3] => { results := [.lit (.bool true)], args := [d1, d2, d3] }
  | _ => none }
def commitWordsRow : OpenClaim := { program := "ytibeolemelmpcaa", sum := "8823b72739f2af0c78e9bf7cd8870535c4f329e3d8bbba965d28ca3acd58db9c", func := "ballast/ballastlaw09.CommitWords", spec := "commitWords", apart := false }
def CommitWordsSaid : Prop := commitWordsRow.holds Try.pinned (OpenSpec.ofChange commitWordsSpec)

/-- ITS FALSE NEIGHBOUR: 'it returns false'. Refute it at one input. -/
def commitWordsWrong : ChangeSpec := { name := "commitWords", fn := fun _ => fun
  | [d1, d2, d3] => { results := [.lit (.bool false)], args := [d1, d2, d3] }
  | _ => none }
def CommitWordsWrongFalsely : Prop := commitWordsRow.holds Try.pinned (OpenSpec.ofChange commitWordsWrong)

/-- 'ballastlaw09.CommitReads': WHATEVER THE INPUT: true; the input reads as it did. -/
def commitReadsSpec : ChangeSpec := { name := "commitReads", fn := fun _ => fun
  | [d] => { results := [.lit (.bool true)], args := [d] }
  | _ => none }
def commitReadsRow : OpenClaim := { program := "ytibeolemelmpcaa", sum := "8823b72739f2af0c78e9bf7cd8870535c4f329e3d8bbba965d28ca3acd58db9c", func := "ballast/ballastlaw09.CommitReads", spec := "commitReads", apart := false }
def CommitReadsSaid : Prop := commitReadsRow.holds Try.pinned (OpenSpec.ofChange commitReadsSpec)

/-- ITS FALSE NEIGHBOUR: 'it returns false'. Refute it at one input. -/
def commitReadsWrong : ChangeSpec := { name := "commitReads", fn := fun _ => fun
  | [d] => { results := [.lit (.bool false)], args := [d] }
  | _ => none }
def CommitReadsWrongFalsely : Prop := commitReadsRow.holds Try.pinned (OpenSpec.ofChange commitReadsWrong)

/-- 'ballastlaw09.CommitOnce': WHATEVER THE INPUT: true; the input reads as it did. -/
def commitOnceSpec : ChangeSpec := { name := "commitOnce", fn := fun _ => fun
  | [d] => { results := [.lit (.bool true)], args := [d] }
  | _ => none }
def commitOnceRow : OpenClaim := { program := "ytibeolemelmpcaa", sum := "8823b72739f2af0c78e9bf7cd8870535c4f329e3d8bbba965d28ca3acd58db9c", func := "ballast/ballastlaw09.CommitOnce", spec := "commitOnce", apart := false }
def CommitOnceSaid : Prop := commitOnceRow.holds Try.pinned (OpenSpec.ofChange commitOnceSpec)

/-- ITS FALSE NEIGHBOUR: 'it returns false'. Refute it at one input. -/
def commitOnceWrong : ChangeSpec := { name := "commitOnce", fn := fun _ => fun
  | [d] => { results := [.lit (.bool false)], args := [d] }
  | _ => none }
def CommitOnceWrongFalsely : Prop := commitOnceRow.holds Try.pinned (OpenSpec.ofChange commitOnceWrong)

/-- 'ballastlaw09.CommitSum': WHATEVER THE INPUT: true; the input reads as it did. -/
def commitSumSpec : ChangeSpec := { name := "commitSum", fn := fun _ => fun
  | [d1, d2] => { results := [.lit (.bool true)], args := [d1, d2] }
  | _ => none }
def commitSumRow : OpenClaim := { program := "ytibeolemelmpcaa", sum := "8823b72739f2af0c78e9bf7cd8870535c4f329e3d8bbba965d28ca3acd58db9c", func := "ballast/ballastlaw09.CommitSum", spec := "commitSum", apart := false }
def CommitSumSaid : Prop := commitSumRow.holds Try.pinned (OpenSpec.ofChange commitSumSpec)

/-- ITS FALSE NEIGHBOUR: 'it returns false'. Refute it at one input. -/
def commitSumWrong : ChangeSpec := { name := "commitSum", fn := fun _ => fun
  | [d1, d2] => { results := [.lit (.bool false)], args := [d1, d2] }
  | _ => none }
def CommitSumWrongFalsely : Prop := commitSumRow.holds Try.pinned (OpenSpec.ofChange commitSumWrong)

/-- 'ballastlaw09.CommitNames': WHATEVER THE INPUT: true; the input reads as it did. -/
def commitNamesSpec : ChangeSpec := { name := "commitNames", fn := fun _ => fun
  | [] => { results := [.lit (.bool true)], args := [] }
  | _ => none }
def commitNamesRow : OpenClaim := { program := "ytibeolemelmpcaa", sum := "8823b72739f2af0c78e9bf7cd8870535c4f329e3d8bbba965d28ca3acd58db9c", func := "ballast/ballastlaw09.CommitNames", spec := "commitNames", apart := false }
def CommitNamesSaid : Prop := commitNamesRow.holds Try.pinned (OpenSpec.ofChange commitNamesSpec)

/-- ITS FALSE NEIGHBOUR: 'it returns false'. Refute it at one input. -/
def commitNamesWrong : ChangeSpec := { name := "commitNames", fn := fun _ => fun
  | [] => { results := [.lit (.bool false)], args := [] }
  | _ => none }
def CommitNamesWrongFalsely : Prop := commitNamesRow.holds Try.pinned (OpenSpec.ofChange commitNamesWrong)

/-- 'ballastlaw09.CommitTold': WHATEVER THE INPUT: true; the input reads as it did. -/
def commitToldSpec : ChangeSpec := { name := "commitTold", fn := fun _ => fun
  | [d1, d2] => { results := [.lit (.bool true)], args := [d1, d2] }
  | _ => none }
def commitToldRow : OpenClaim := { program := "ytibeolemelmpcaa", sum := "8823b72739f2af0c78e9bf7cd8870535c4f329e3d8bbba965d28ca3acd58db9c", func := "ballast/ballastlaw09.CommitTold", spec := "commitTold", apart := false }
def CommitToldSaid : Prop := commitToldRow.holds Try.pinned (OpenSpec.ofChange commitToldSpec)

/-- ITS FALSE NEIGHBOUR: 'it returns false'. Refute it at one input. -/
def commitToldWrong : ChangeSpec := { name := "commitTold", fn := fun _ => fun
  | [d1, d2] => { results := [.lit (.bool false)], args := [d1, d2] }
  | _ => none }
def CommitToldWrongFalsely : Prop := commitToldRow.holds Try.pinned (OpenSpec.ofChange commitToldWrong)

/-- 'ballastlaw09.CommitByte': WHATEVER THE INPUT: true; the input reads as it did. -/
def commitByteSpec : ChangeSpec := { name := "commitByte", fn := fun _ => fun
  | [d1, d2, d3, d4, d5] => { results := [.lit (.bool true)], args := [d1, d2, d3, d4, d5] }
  | _ => none }
def commitByteRow : OpenClaim := { program := "ytibeolemelmpcaa", sum := "8823b72739f2af0c78e9bf7cd8870535c4f329e3d8bbba965d28ca3acd58db9c", func := "ballast/ballastlaw09.CommitByte", spec := "commitByte", apart := false }
def CommitByteSaid : Prop := commitByteRow.holds Try.pinned (OpenSpec.ofChange commitByteSpec)

/-- ITS FALSE NEIGHBOUR: 'it returns false'. Refute it at one input. -/
def commitByteWrong : ChangeSpec := { name := "commitByte", fn := fun _ => fun
  | [d1, d2, d3, d4, d5] => { results := [.lit (.bool false)], args := [d1, d2, d3, d4, d5] }
  | _ => none }
def CommitByteWrongFalsely : Prop := commitByteRow.holds Try.pinned (OpenSpec.ofChange commitByteWrong)

/-- 'ballastlaw08.EntryNames': WHATEVER THE INPUT: true; the input reads as it did. -/
def entryNamesSpec : ChangeSpec := { name := "entryNames", fn := fun _ => fun
  | [] => { results := [.lit (.bool true)], args := [] }
  | _ => none }
def entryNamesRow : OpenClaim := { program := "ytibeolemelmpcaa", sum := "8823b72739f2af0c78e9bf7cd8870535c4f329e3d8bbba965d28ca3acd58db9c", func := "ballast/ballastlaw08.EntryNames", spec := "entryNames", apart := false }
def EntryNamesSaid : Prop := entryNamesRow.holds Try.pinned (OpenSpec.ofChange entryNamesSpec)

/-- ITS FALSE NEIGHBOUR: 'it returns false'. Refute it at one input. -/
def entryNamesWrong : ChangeSpec := { name := "entryNames", fn := fun _ => fun
  | [] => { results := [.lit (.bool false)], args := [] }
  | _ => none }
def EntryNamesWrongFalsely : Prop := entryNamesRow.holds Try.pinned (OpenSpec.ofChange entryNamesWrong)

/- THE SECOND FORM. 'bulk': how many values and letters a reading holds, each counted each time it is reached (what is shared counts as often as it is met; a slice's spare places count too). A statement '..UptoSaid' is the law's where the arguments, and the package variables that the reading takes, are together of bulk at most 1048576: NARROWER than '..Said'. Prove '..Said' where nothing that the law and all that it calls make is longer than what came in: it says more and counts as full. Else prove '..UptoSaid'. A law counts once. -/
mutual
def uptoBulk {H : Type} : DataW H → Nat
  | .lit (.string bytes) => bytes.length + 1
  | .lit _ => 1
  | .nil => 1
  | .ptr d => uptoBulk d + 1
  | .slice elems spare => uptoBulkAll elems + uptoBulkAll spare + 1
  | .agg parts => uptoBulkAll parts + 1
  | .iface _ d => uptoBulk d + 1
  | .map entries => uptoBulkEntries entries + 1
  | .held _ => 1
def uptoBulkAll {H : Type} : List (DataW H) → Nat
  | [] => 0
  | d :: r => uptoBulk d + uptoBulkAll r
def uptoBulkEntries {H : Type} : List (Lit × DataW H) → Nat
  | [] => 0
  | x :: r => uptoBulkEntry x + uptoBulkEntries r
def uptoBulkEntry {H : Type} : Lit × DataW H → Nat
  | (.string bytes, d) => bytes.length + uptoBulk d + 1
  | (_, d) => uptoBulk d + 1
 end
def uptoSmall : (H : Type) → List (DataW H) → Bool := fun _ ds => decide (uptoBulkAll ds ≤ 1048576)
def OpenSpec.upto (s : _root_.Go.ChangeSpec) : _root_.Go.OpenSpec := { _root_.Go.OpenSpec.ofChange s with cond := some uptoSmall }

/-- 'ballastlaw09.CommitWords', WHERE WHAT IT READS IS OF BULK AT MOST 1048576: true; the input reads as it did. -/
def commitWordsUptoRow : OpenClaim := { program := "ytibeolemelmpcaa", sum := "8823b72739f2af0c78e9bf7cd8870535c4f329e3d8bbba965d28ca3acd58db9c", func := "ballast/ballastlaw09.CommitWords", spec := "commitWords", apart := false, narrowed := true }
def CommitWordsUptoSaid : Prop := commitWordsUptoRow.holds Try.pinned (OpenSpec.upto commitWordsSpec)

/-- 'ballastlaw09.CommitReads', WHERE WHAT IT READS IS OF BULK AT MOST 1048576: true; the input reads as it did. -/
def commitReadsUptoRow : OpenClaim := { program := "ytibeolemelmpcaa", sum := "8823b72739f2af0c78e9bf7cd8870535c4f329e3d8bbba965d28ca3acd58db9c", func := "ballast/ballastlaw09.CommitReads", spec := "commitReads", apart := false, narrowed := true }
def CommitReadsUptoSaid : Prop := commitReadsUptoRow.holds Try.pinned (OpenSpec.upto commitReadsSpec)

/-- 'ballastlaw09.CommitOnce', WHERE WHAT IT READS IS OF BULK AT MOST 1048576: true; the input reads as it did. -/
def commitOnceUptoRow : OpenClaim := { program := "ytibeolemelmpcaa", sum := "8823b72739f2af0c78e9bf7cd8870535c4f329e3d8bbba965d28ca3acd58db9c", func := "ballast/ballastlaw09.CommitOnce", spec := "commitOnce", apart := false, narrowed := true }
def CommitOnceUptoSaid : Prop := commitOnceUptoRow.holds Try.pinned (OpenSpec.upto commitOnceSpec)

/-- 'ballastlaw09.CommitSum', WHERE WHAT IT READS IS OF BULK AT MOST 1048576: true; the input reads as it did. -/
def commitSumUptoRow : OpenClaim := { program := "ytibeolemelmpcaa", sum := "8823b72739f2af0c78e9bf7cd8870535c4f329e3d8bbba965d28ca3acd58db9c", func := "ballast/ballastlaw09.CommitSum", spec := "commitSum", apart := false, narrowed := true }
def CommitSumUptoSaid : Prop := commitSumUptoRow.holds Try.pinned (OpenSpec.upto commitSumSpec)

/-- 'ballastlaw09.CommitNames', WHERE WHAT IT READS IS OF BULK AT MOST 1048576: true; the input reads as it did. -/
def commitNamesUptoRow : OpenClaim := { program := "ytibeolemelmpcaa", sum := "8823b72739f2af0c78e9bf7cd8870535c4f329e3d8bbba965d28ca3acd58db9c", func := "ballast/ballastlaw09.CommitNames", spec := "commitNames", apart := false, narrowed := true }
def CommitNamesUptoSaid : Prop := commitNamesUptoRow.holds Try.pinned (OpenSpec.upto commitNamesSpec)

/-- 'ballastlaw09.CommitTold', WHERE WHAT IT READS IS OF BULK AT MOST 1048576: true; the input reads as it did. -/
def commitToldUptoRow : OpenClaim := { program := "ytibeolemelmpcaa", sum := "8823b72739f2af0c78e9bf7cd8870535c4f329e3d8bbba965d28ca3acd58db9c", func := "ballast/ballastlaw09.CommitTold", spec := "commitTold", apart := false, narrowed := true }
def CommitToldUptoSaid : Prop := commitToldUptoRow.holds Try.pinned (OpenSpec.upto commitToldSpec)

/-- 'ballastlaw09.CommitByte', WHERE WHAT IT READS IS OF BULK AT MOST 1048576: true; the input reads as it did. -/
def commitByteUptoRow : OpenClaim := { program := "ytibeolemelmpcaa", sum := "8823b72739f2af0c78e9bf7cd8870535c4f329e3d8bbba965d28ca3acd58db9c", func := "ballast/ballastlaw09.CommitByte", spec := "commitByte", apart := false, narrowed := true }
def CommitByteUptoSaid : Prop := commitByteUptoRow.holds Try.pinned (OpenSpec.upto commitByteSpec)

/-- 'ballastlaw08.EntryNames', WHERE WHAT IT READS IS OF BULK AT MOST 1048576: true; the input reads as it did. -/
def entryNamesUptoRow : OpenClaim := { program := "ytibeolemelmpcaa", sum := "8823b72739f2af0c78e9bf7cd8870535c4f329e3d8bbba965d28ca3acd58db9c", func := "ballast/ballastlaw08.EntryNames", spec := "entryNames", apart := false, narrowed := true }
def EntryNamesUptoSaid : Prop := entryNamesUptoRow.holds Try.pinned (OpenSpec.upto entryNamesSpec)

end Rows
end Go.Proofs.Ytibeolemelmpcaa
