/-
  No cell of these rows narrows 'for every input' (looked for: loops, veiled, ifaces, maps, wideKeys, modest, calm, conditions, laid).
  DERIVED. THE GIVEN ROWS OF THIS SEAT. 12 by the template 'for every input the law returns true; each argument reads behind the call as it read before'; 0 by the template 'total and deterministic' (their statements: YthnonfmaamchkaaTotals.lean).
  GIVEN WITH THE SEED: the statements are not yours to turn. If you find one false, say at which input.
  Laid BY PROGRAM, IN A SANDBOX (cutbox-rows.mjs): the forced cells as the released guide's own fill.sh prints them over the translation ee884e56b8e0b8ad… (all of the seat's roots in one cut). By AI agents, Wed Nov 11 2026. No macro, syntax, notation, axiom, sorry.
-/
import Derived.Test.YthnonfmaamchkaaChecked
import GoSem.Claim
import GoSem.ClaimJoined
import GoSem.ClaimMapViews
import Derived.JoinedTies
import Derived.KernelRfl
namespace Go.Proofs.Ythnonfmaamchkaa
/- THE CELL 'sum', in the pinned program and in every row, IS THE sha256 OF THE DUMP (.gsa) THAT YthnonfmaamchkaaProg.lean LOADS. Nothing in Lean hashes anything: it is a label: what it is worth is what the hold of that sum in a sandbox is worth. -/
noncomputable def Try.pinned : Pinned := { name := "ythnonfmaamchkaa", sum := "ee884e56b8e0b8ad6fd7602ab2a710e36a1d104d4dfb94ea10a853a98bf2c09f", checked := Try.checked }
namespace Rows
def none {H : Type} : Left H := { results := [], args := [] }

/-- 'ballastlaw11.PhaseApart': WHATEVER THE INPUT: true; the input reads as it did. -/
def phaseApartSpec : ChangeSpec := { name := "phaseApart", fn := fun _ => fun
  | [d1, d2] => { results := [.lit (.bool true)], args := [d1, d2] }
  | _ => none }
def phaseApartRow : OpenClaim := { program := "ythnonfmaamchkaa", sum := "ee884e56b8e0b8ad6fd7602ab2a710e36a1d104d4dfb94ea10a853a98bf2c09f", func := "ballast/ballastlaw11.PhaseApart", spec := "phaseApart", apart := false }
def PhaseApartSaid : Prop := phaseApartRow.holds Try.pinned (OpenSpec.ofChange phaseApartSpec)

/-- ITS FALSE NEIGHBOUR: 'it returns false'. Refute it at one input. -/
def phaseApartWrong : ChangeSpec := { name := "phaseApart", fn := fun _ => fun
  | [d1, d2] => { results := [.lit (.bool false)], args := [d1, d2] }
  | _ => none }
def PhaseApartWrongFalsely : Prop := phaseApartRow.holds Try.pinned (OpenSpec.ofChange phaseApartWrong)

/-- 'ballastlaw08.EntryChecks': WHATEVER THE INPUT: true; the input reads as it did. -/
def entryChecksSpec : ChangeSpec := { name := "entryChecks", fn := fun _ => fun
  | [d1, d2, d3] => { results := [.lit (.bool true)], args := [d1, d2, d3] }
  | _ => none }
def entryChecksRow : OpenClaim := { program := "ythnonfmaamchkaa", sum := "ee884e56b8e0b8ad6fd7602ab2a710e36a1d104d4dfb94ea10a853a98bf2c09f", func := "ballast/ballastlaw08.EntryChecks", spec := "entryChecks", apart := false }
def EntryChecksSaid : Prop := entryChecksRow.holds Try.pinned (OpenSpec.ofChange entryChecksSpec)

/-- ITS FALSE NEIGHBOUR: 'it returns false'. Refute it at one input. -/
def entryChecksWrong : ChangeSpec := { name := "entryChecks", fn := fun _ => fun
  | [d1, d2, d3] => { results := [.lit (.bool false)], args := [d1, d2, d3] }
  | _ => none }
def EntryChecksWrongFalsely : Prop := entryChecksRow.holds Try.pinned (OpenSpec.ofChange entryChecksWrong)

/-- 'ballastlaw08.EntryOrder': WHATEVER THE INPUT: true; the input reads as it did. -/
def entryOrderSpec : ChangeSpec := { name := "entryOrder", fn := fun _ => fun
  | [d1, d2, d3] => { results := [.lit (.bool true)], args := [d1, d2, d3] }
  | _ => none }
def entryOrderRow : OpenClaim := { program := "ythnonfmaamchkaa", sum := "ee884e56b8e0b8ad6fd7602ab2a710e36a1d104d4dfb94ea10a853a98bf2c09f", func := "ballast/ballastlaw08.EntryOrder", spec := "entryOrder", apart := false }
def EntryOrderSaid : Prop := entryOrderRow.holds Try.pinned (OpenSpec.ofChange entryOrderSpec)

/-- ITS FALSE NEIGHBOUR: 'it returns false'. Refute it at one input. -/
def entryOrderWrong : ChangeSpec := { name := "entryOrder", fn := fun _ => fun
  | [d1, d2, d3] => { results := [.lit (.bool false)], args := [d1, d2, d3] }
  | _ => none }
def EntryOrderWrongFalsely : Prop := entryOrderRow.holds Try.pinned (OpenSpec.ofChange entryOrderWrong)

/-- 'ballastlaw11.PhaseNames': WHATEVER THE INPUT: true; the input reads as it did. -/
def phaseNamesSpec : ChangeSpec := { name := "phaseNames", fn := fun _ => fun
  | [] => { results := [.lit (.bool true)], args := [] }
  | _ => none }
def phaseNamesRow : OpenClaim := { program := "ythnonfmaamchkaa", sum := "ee884e56b8e0b8ad6fd7602ab2a710e36a1d104d4dfb94ea10a853a98bf2c09f", func := "ballast/ballastlaw11.PhaseNames", spec := "phaseNames", apart := false }
def PhaseNamesSaid : Prop := phaseNamesRow.holds Try.pinned (OpenSpec.ofChange phaseNamesSpec)

/-- ITS FALSE NEIGHBOUR: 'it returns false'. Refute it at one input. -/
def phaseNamesWrong : ChangeSpec := { name := "phaseNames", fn := fun _ => fun
  | [] => { results := [.lit (.bool false)], args := [] }
  | _ => none }
def PhaseNamesWrongFalsely : Prop := phaseNamesRow.holds Try.pinned (OpenSpec.ofChange phaseNamesWrong)

/-- 'ballastlaw11.PhaseTells': WHATEVER THE INPUT: true; the input reads as it did. -/
def phaseTellsSpec : ChangeSpec := { name := "phaseTells", fn := fun _ => fun
  | [d1, d2] => { results := [.lit (.bool true)], args := [d1, d2] }
  | _ => none }
def phaseTellsRow : OpenClaim := { program := "ythnonfmaamchkaa", sum := "ee884e56b8e0b8ad6fd7602ab2a710e36a1d104d4dfb94ea10a853a98bf2c09f", func := "ballast/ballastlaw11.PhaseTells", spec := "phaseTells", apart := false }
def PhaseTellsSaid : Prop := phaseTellsRow.holds Try.pinned (OpenSpec.ofChange phaseTellsSpec)

/-- ITS FALSE NEIGHBOUR: 'it returns false'. Refute it at one input. -/
def phaseTellsWrong : ChangeSpec := { name := "phaseTells", fn := fun _ => fun
  | [d1, d2] => { results := [.lit (.bool false)], args := [d1, d2] }
  | _ => none }
def PhaseTellsWrongFalsely : Prop := phaseTellsRow.holds Try.pinned (OpenSpec.ofChange phaseTellsWrong)

/-- 'ballastlaw11.PhaseOnce': WHATEVER THE INPUT: true; the input reads as it did. -/
def phaseOnceSpec : ChangeSpec := { name := "phaseOnce", fn := fun _ => fun
  | [d] => { results := [.lit (.bool true)], args := [d] }
  | _ => none }
def phaseOnceRow : OpenClaim := { program := "ythnonfmaamchkaa", sum := "ee884e56b8e0b8ad6fd7602ab2a710e36a1d104d4dfb94ea10a853a98bf2c09f", func := "ballast/ballastlaw11.PhaseOnce", spec := "phaseOnce", apart := false }
def PhaseOnceSaid : Prop := phaseOnceRow.holds Try.pinned (OpenSpec.ofChange phaseOnceSpec)

/-- ITS FALSE NEIGHBOUR: 'it returns false'. Refute it at one input. -/
def phaseOnceWrong : ChangeSpec := { name := "phaseOnce", fn := fun _ => fun
  | [d] => { results := [.lit (.bool false)], args := [d] }
  | _ => none }
def PhaseOnceWrongFalsely : Prop := phaseOnceRow.holds Try.pinned (OpenSpec.ofChange phaseOnceWrong)

/-- 'ballastlaw08.EntryReads': WHATEVER THE INPUT: true; the input reads as it did. -/
def entryReadsSpec : ChangeSpec := { name := "entryReads", fn := fun _ => fun
  | [d1, d2, d3] => { results := [.lit (.bool true)], args := [d1, d2, d3] }
  | _ => none }
def entryReadsRow : OpenClaim := { program := "ythnonfmaamchkaa", sum := "ee884e56b8e0b8ad6fd7602ab2a710e36a1d104d4dfb94ea10a853a98bf2c09f", func := "ballast/ballastlaw08.EntryReads", spec := "entryReads", apart := false }
def EntryReadsSaid : Prop := entryReadsRow.holds Try.pinned (OpenSpec.ofChange entryReadsSpec)

/-- ITS FALSE NEIGHBOUR: 'it returns false'. Refute it at one input. -/
def entryReadsWrong : ChangeSpec := { name := "entryReads", fn := fun _ => fun
  | [d1, d2, d3] => { results := [.lit (.bool false)], args := [d1, d2, d3] }
  | _ => none }
def EntryReadsWrongFalsely : Prop := entryReadsRow.holds Try.pinned (OpenSpec.ofChange entryReadsWrong)

/-- 'ballastlaw08.EntryTwice': WHATEVER THE INPUT: true; the input reads as it did. -/
def entryTwiceSpec : ChangeSpec := { name := "entryTwice", fn := fun _ => fun
  | [d1, d2] => { results := [.lit (.bool true)], args := [d1, d2] }
  | _ => none }
def entryTwiceRow : OpenClaim := { program := "ythnonfmaamchkaa", sum := "ee884e56b8e0b8ad6fd7602ab2a710e36a1d104d4dfb94ea10a853a98bf2c09f", func := "ballast/ballastlaw08.EntryTwice", spec := "entryTwice", apart := false }
def EntryTwiceSaid : Prop := entryTwiceRow.holds Try.pinned (OpenSpec.ofChange entryTwiceSpec)

/-- ITS FALSE NEIGHBOUR: 'it returns false'. Refute it at one input. -/
def entryTwiceWrong : ChangeSpec := { name := "entryTwice", fn := fun _ => fun
  | [d1, d2] => { results := [.lit (.bool false)], args := [d1, d2] }
  | _ => none }
def EntryTwiceWrongFalsely : Prop := entryTwiceRow.holds Try.pinned (OpenSpec.ofChange entryTwiceWrong)

/-- 'ballastlaw08.EntryOnce': WHATEVER THE INPUT: true; the input reads as it did. -/
def entryOnceSpec : ChangeSpec := { name := "entryOnce", fn := fun _ => fun
  | [d1, d2] => { results := [.lit (.bool true)], args := [d1, d2] }
  | _ => none }
def entryOnceRow : OpenClaim := { program := "ythnonfmaamchkaa", sum := "ee884e56b8e0b8ad6fd7602ab2a710e36a1d104d4dfb94ea10a853a98bf2c09f", func := "ballast/ballastlaw08.EntryOnce", spec := "entryOnce", apart := false }
def EntryOnceSaid : Prop := entryOnceRow.holds Try.pinned (OpenSpec.ofChange entryOnceSpec)

/-- ITS FALSE NEIGHBOUR: 'it returns false'. Refute it at one input. -/
def entryOnceWrong : ChangeSpec := { name := "entryOnce", fn := fun _ => fun
  | [d1, d2] => { results := [.lit (.bool false)], args := [d1, d2] }
  | _ => none }
def EntryOnceWrongFalsely : Prop := entryOnceRow.holds Try.pinned (OpenSpec.ofChange entryOnceWrong)

/-- 'ballastlaw11.PhaseSet': WHATEVER THE INPUT: true; the input reads as it did. -/
def phaseSetSpec : ChangeSpec := { name := "phaseSet", fn := fun _ => fun
  | [d1, d2] => { results := [.lit (.bool true)], args := [d1, d2] }
  | _ => none }
def phaseSetRow : OpenClaim := { program := "ythnonfmaamchkaa", sum := "ee884e56b8e0b8ad6fd7602ab2a710e36a1d104d4dfb94ea10a853a98bf2c09f", func := "ballast/ballastlaw11.PhaseSet", spec := "phaseSet", apart := false }
def PhaseSetSaid : Prop := phaseSetRow.holds Try.pinned (OpenSpec.ofChange phaseSetSpec)

/-- ITS FALSE NEIGHBOUR: 'it returns false'. Refute it at one input. -/
def phaseSetWrong : ChangeSpec := { name := "phaseSet", fn := fun _ => fun
  | [d1, d2] => { results := [.lit (.bool false)], args := [d1, d2] }
  | _ => none }
def PhaseSetWrongFalsely : Prop := phaseSetRow.holds Try.pinned (OpenSpec.ofChange phaseSetWrong)

/-- 'ballastlaw08.EntryBack': WHATEVER THE INPUT: true; the input reads as it did. -/
def entryBackSpec : ChangeSpec := { name := "entryBack", fn := fun _ => fun
  | [d1, d2, d3] => { results := [.lit (.bool true)], args := [d1, d2, d3] }
  | _ => none }
def entryBackRow : OpenClaim := { program := "ythnonfmaamchkaa", sum := "ee884e56b8e0b8ad6fd7602ab2a710e36a1d104d4dfb94ea10a853a98bf2c09f", func := "ballast/ballastlaw08.EntryBack", spec := "entryBack", apart := false }
def EntryBackSaid : Prop := entryBackRow.holds Try.pinned (OpenSpec.ofChange entryBackSpec)

/-- ITS FALSE NEIGHBOUR: 'it returns false'. Refute it at one input. -/
def entryBackWrong : ChangeSpec := { name := "entryBack", fn := fun _ => fun
  | [d1, d2, d3] => { results := [.lit (.bool false)], args := [d1, d2, d3] }
  | _ => none }
def EntryBackWrongFalsely : Prop := entryBackRow.holds Try.pinned (OpenSpec.ofChange entryBackWrong)

/-- 'ballastlaw11.PhaseChange': WHATEVER THE INPUT: true; the input reads as it did. -/
def phaseChangeSpec : ChangeSpec := { name := "phaseChange", fn := fun _ => fun
  | [d1, d2, d3] => { results := [.lit (.bool true)], args := [d1, d2, d3] }
  | _ => none }
def phaseChangeRow : OpenClaim := { program := "ythnonfmaamchkaa", sum := "ee884e56b8e0b8ad6fd7602ab2a710e36a1d104d4dfb94ea10a853a98bf2c09f", func := "ballast/ballastlaw11.PhaseChange", spec := "phaseChange", apart := false }
def PhaseChangeSaid : Prop := phaseChangeRow.holds Try.pinned (OpenSpec.ofChange phaseChangeSpec)

/-- ITS FALSE NEIGHBOUR: 'it returns false'. Refute it at one input. -/
def phaseChangeWrong : ChangeSpec := { name := "phaseChange", fn := fun _ => fun
  | [d1, d2, d3] => { results := [.lit (.bool false)], args := [d1, d2, d3] }
  | _ => none }
def PhaseChangeWrongFalsely : Prop := phaseChangeRow.holds Try.pinned (OpenSpec.ofChange phaseChangeWrong)

/- THE SECOND FORM. 'bulk': how many values and letters a reading holds, each counted each time it is reached (what is shared counts as often as it is met; a slice's spare places count too). A statement '..UptoSaid' is the law's where the arguments, and the package variables that the reading takes, are together of bulk at most 1048576: NARROWER than '..Said'. Prove '..Said' where nothing that the law and all that it calls make is longer than what came in: it says more and counts as full. Else prove '..UptoSaid'. A law counts once. -/
mutual
def uptoBulk {H : Type} : DataW H → Nat
  | .lit (.string bytes) => bytes.length + 1
  | .lit _ => 1
  | .nil => 1
  | .ptr d => uptoBulk d + 1
  | .slice elems spare => uptoBulkAll elems + uptoBulkAll spare + 1
  | .agg parts => uptoBulkAll parts + 1
  | .iface _ d => uptoBulk d + 1
  | .map entries => uptoBulkEntries entries + 1
  | .held _ => 1
def uptoBulkAll {H : Type} : List (DataW H) → Nat
  | [] => 0
  | d :: r => uptoBulk d + uptoBulkAll r
def uptoBulkEntries {H : Type} : List (Lit × DataW H) → Nat
  | [] => 0
  | x :: r => uptoBulkEntry x + uptoBulkEntries r
def uptoBulkEntry {H : Type} : Lit × DataW H → Nat
  | (.string bytes, d) => bytes.length + uptoBulk d + 1
  | (_, d) => uptoBulk d + 1
 end
def uptoSmall : (H : Type) → List (DataW H) → Bool := fun _ ds => decide (uptoBulkAll ds ≤ 1048576)
def OpenSpec.upto (s : _root_.Go.ChangeSpec) : _root_.Go.OpenSpec := { _root_.Go.OpenSpec.ofChange s with cond := some uptoSmall }

/-- 'ballastlaw11.PhaseApart', WHERE WHAT IT READS IS OF BULK AT MOST 1048576: true; the input reads as it did. -/
def phaseApartUptoRow : OpenClaim := { program := "ythnonfmaamchkaa", sum := "ee884e56b8e0b8ad6fd7602ab2a710e36a1d104d4dfb94ea10a853a98bf2c09f", func := "ballast/ballastlaw11.PhaseApart", spec := "phaseApart", apart := false, narrowed := true }
def PhaseApartUptoSaid : Prop := phaseApartUptoRow.holds Try.pinned (OpenSpec.upto phaseApartSpec)

/-- 'ballastlaw08.EntryChecks', WHERE WHAT IT READS IS OF BULK AT MOST 1048576: true; the input reads as it did. -/
def entryChecksUptoRow : OpenClaim := { program := "ythnonfmaamchkaa", sum := "ee884e56b8e0b8ad6fd7602ab2a710e36a1d104d4dfb94ea10a853a98bf2c09f", func := "ballast/ballastlaw08.EntryChecks", spec := "entryChecks", apart := false, narrowed := true }
def EntryChecksUptoSaid : Prop := entryChecksUptoRow.holds Try.pinned (OpenSpec.upto entryChecksSpec)

/-- 'ballastlaw08.EntryOrder', WHERE WHAT IT READS IS OF BULK AT MOST 1048576: true; the input reads as it did. -/
def entryOrderUptoRow : OpenClaim := { program := "ythnonfmaamchkaa", sum := "ee884e56b8e0b8ad6fd7602ab2a710e36a1d104d4dfb94ea10a853a98bf2c09f", func := "ballast/ballastlaw08.EntryOrder", spec := "entryOrder", apart := false, narrowed := true }
def EntryOrderUptoSaid : Prop := entryOrderUptoRow.holds Try.pinned (OpenSpec.upto entryOrderSpec)

/-- 'ballastlaw11.PhaseNames', WHERE WHAT IT READS IS OF BULK AT MOST 1048576: true; the input reads as it did. -/
def phaseNamesUptoRow : OpenClaim := { program := "ythnonfmaamchkaa", sum := "ee884e56b8e0b8ad6fd7602ab2a710e36a1d104d4dfb94ea10a853a98bf2c09f", func := "ballast/ballastlaw11.PhaseNames", spec := "phaseNames", apart := false, narrowed := true }
def PhaseNamesUptoSaid : Prop := phaseNamesUptoRow.holds Try.pinned (OpenSpec.upto phaseNamesSpec)

/-- 'ballastlaw11.PhaseTells', WHERE WHAT IT READS IS OF BULK AT MOST 1048576: true; the input reads as it did. -/
def phaseTellsUptoRow : OpenClaim := { program := "ythnonfmaamchkaa", sum := "ee884e56b8e0b8ad6fd7602ab2a710e36a1d104d4dfb94ea10a853a98bf2c09f", func := "ballast/ballastlaw11.PhaseTells", spec := "phaseTells", apart := false, narrowed := true }
def PhaseTellsUptoSaid : Prop := phaseTellsUptoRow.holds Try.pinned (OpenSpec.upto phaseTellsSpec)

/-- 'ballastlaw11.PhaseOnce', WHERE WHAT IT READS IS OF BULK AT MOST 1048576: true; the input reads as it did. -/
def phaseOnceUptoRow : OpenClaim := { program := "ythnonfmaamchkaa", sum := "ee884e56b8e0b8ad6fd7602ab2a710e36a1d104d4dfb94ea10a853a98bf2c09f", func := "ballast/ballastlaw11.PhaseOnce", spec := "phaseOnce", apart := false, narrowed := true }
def PhaseOnceUptoSaid : Prop := phaseOnceUptoRow.holds Try.pinned (OpenSpec.upto phaseOnceSpec)

/-- 'ballastlaw08.EntryReads', WHERE WHAT IT READS IS OF BULK AT MOST 1048576: true; the input reads as it did. -/
def entryReadsUptoRow : OpenClaim := { program := "ythnonfmaamchkaa", sum := "ee884e56b8e0b8ad6fd7602ab2a710e36a1d104d4dfb94ea10a853a98bf2c09f", func := "ballast/ballastlaw08.EntryReads", spec := "entryReads", apart := false, narrowed := true }
def EntryReadsUptoSaid : Prop := entryReadsUptoRow.holds Try.pinned (OpenSpec.upto entryReadsSpec)

/-- 'ballastlaw08.EntryTwice', WHERE WHAT IT READS IS OF BULK AT MOST 1048576: true; the input reads as it did. -/
def entryTwiceUptoRow : OpenClaim := { program := "ythnonfmaamchkaa", sum := "ee884e56b8e0b8ad6fd7602ab2a710e36a1d104d4dfb94ea10a853a98bf2c09f", func := "ballast/ballastlaw08.EntryTwice", spec := "entryTwice", apart := false, narrowed := true }
def EntryTwiceUptoSaid : Prop := entryTwiceUptoRow.holds Try.pinned (OpenSpec.upto entryTwiceSpec)

/-- 'ballastlaw08.EntryOnce', WHERE WHAT IT READS IS OF BULK AT MOST 1048576: true; the input reads as it did. -/
def entryOnceUptoRow : OpenClaim := { program := "ythnonfmaamchkaa", sum := "ee884e56b8e0b8ad6fd7602ab2a710e36a1d104d4dfb94ea10a853a98bf2c09f", func := "ballast/ballastlaw08.EntryOnce", spec := "entryOnce", apart := false, narrowed := true }
def EntryOnceUptoSaid : Prop := entryOnceUptoRow.holds Try.pinned (OpenSpec.upto entryOnceSpec)

/-- 'ballastlaw11.PhaseSet', WHERE WHAT IT READS IS OF BULK AT MOST 1048576: true; the input reads as it did. -/
def phaseSetUptoRow : OpenClaim := { program := "ythnonfmaamchkaa", sum := "ee884e56b8e0b8ad6fd7602ab2a710e36a1d104d4dfb94ea10a853a98bf2c09f", func := "ballast/ballastlaw11.PhaseSet", spec := "phaseSet", apart := false, narrowed := true }
def PhaseSetUptoSaid : Prop := phaseSetUptoRow.holds Try.pinned (OpenSpec.upto phaseSetSpec)

/-- 'ballastlaw08.EntryBack', WHERE WHAT IT READS IS OF BULK AT MOST 1048576: true; the input reads as it did. -/
def entryBackUptoRow : OpenClaim := { program := "ythnonfmaamchkaa", sum := "ee884e56b8e0b8ad6fd7602ab2a710e36a1d104d4dfb94ea10a853a98bf2c09f", func := "ballast/ballastlaw08.EntryBack", spec := "entryBack", apart := false, narrowed := true }
def EntryBackUptoSaid : Prop := entryBackUptoRow.holds Try.pinned (OpenSpec.upto entryBackSpec)

/-- 'ballastlaw11.PhaseChange', WHERE WHAT IT READS IS OF BULK AT MOST 1048576: true; the input reads as it did. -/
def phaseChangeUptoRow : OpenClaim := { program := "ythnonfmaamchkaa", sum := "ee884e56b8e0b8ad6fd7602ab2a710e36a1d104d4dfb94ea10a853a98bf2c09f", func := "ballast/ballastlaw11.PhaseChange", spec := "phaseChange", apart := false, narrowed := true }
def PhaseChangeUptoSaid : Prop := phaseChangeUptoRow.holds Try.pinned (OpenSpec.upto phaseChangeSpec)

end Rows
end Go.Proofs.Ythnonfmaamchkaa
