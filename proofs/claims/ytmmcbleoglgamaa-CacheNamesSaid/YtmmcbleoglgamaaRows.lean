/-
  No cell of these rows narrows 'for every input' (looked for: loops, veiled, ifaces, maps, wideKeys, modest, calm, conditions, laid).
  DERIVED. THE GIVEN ROWS OF THIS SEAT. 13 by the template 'for every input the law returns true; each argument reads behind the call as it read before'; 0 by the template 'total and deterministic' (their statements: YtmmcbleoglgamaaTotals.lean).
  GIVEN WITH THE SEED: the statements are not yours to turn. If you find one false, say at which input.
  Laid BY PROGRAM, IN A SANDBOX (cutbox-rows.mjs): the forced cells as the released guide's own fill.sh prints them over the translation 61bd5b63df3324b8… (all of the seat's roots in one cut). By AI agents, Wed Nov 11 2026. No macro, syntax, notation, axiom, sorry.
-/
import Derived.Test.YtmmcbleoglgamaaChecked
import GoSem.Claim
import GoSem.ClaimJoined
import GoSem.ClaimMapViews
import Derived.JoinedTies
import Derived.KernelRfl
namespace Go.Proofs.Ytmmcbleoglgamaa
/- THE CELL 'sum', in the pinned program and in every row, IS THE sha256 OF THE DUMP (.gsa) THAT YtmmcbleoglgamaaProg.lean LOADS. Nothing in Lean hashes anything: it is a label: what it is worth is what the hold of that sum in a sandbox is worth. -/
noncomputable def Try.pinned : Pinned := { name := "ytmmcbleoglgamaa", sum := "61bd5b63df3324b82baee3725a11a7059e6c0bbf1679df2d26c30590c7bb0e95", checked := Try.checked }
namespace Rows
def none {H : Type} : Left H := { results := [], args := [] }

/-- 'ballastlaw04.CrashEnds': WHATEVER THE INPUT: true; the input reads as it did. -/
def crashEndsSpec : ChangeSpec := { name := "crashEnds", fn := fun _ => fun
  | [d1, d2, d3] => { results := [.lit (.bool true)], args := [d1, d2, d3] }
  | _ => none }
def crashEndsRow : OpenClaim := { program := "ytmmcbleoglgamaa", sum := "61bd5b63df3324b82baee3725a11a7059e6c0bbf1679df2d26c30590c7bb0e95", func := "ballast/ballastlaw04.CrashEnds", spec := "crashEnds", unfollowed := true, recurses := true, apart := false }
def CrashEndsSaid : Prop := crashEndsRow.holds Try.pinned (OpenSpec.ofChange crashEndsSpec)

/-- ITS FALSE NEIGHBOUR: 'it returns false'. Refute it at one input. -/
def crashEndsWrong : ChangeSpec := { name := "crashEnds", fn := fun _ => fun
  | [d1, d2, d3] => { results := [.lit (.bool false)], args := [d1, d2, d3] }
  | _ => none }
def CrashEndsWrongFalsely : Prop := crashEndsRow.holds Try.pinned (OpenSpec.ofChange crashEndsWrong)

/-- 'ballastlaw04.CrashNames': WHATEVER THE INPUT: true; the input reads as it did. -/
def crashNamesSpec : ChangeSpec := { name := "crashNames", fn := fun _ => fun
  | [] => { results := [.lit (.bool true)], args := [] }
  | _ => none }
def crashNamesRow : OpenClaim := { program := "ytmmcbleoglgamaa", sum := "61bd5b63df3324b82baee3725a11a7059e6c0bbf1679df2d26c30590c7bb0e95", func := "ballast/ballastlaw04.CrashNames", spec := "crashNames", unfollowed := true, recurses := true, apart := false }
def CrashNamesSaid : Prop := crashNamesRow.holds Try.pinned (OpenSpec.ofChange crashNamesSpec)

/-- ITS FALSE NEIGHBOUR: 'it returns false'. Refute it at one input. -/
def crashNamesWrong : ChangeSpec := { name := "crashNames", fn := fun _ => fun
  | [] => { results := [.lit (.bool false)], args := [] }
  | _ => none }
def CrashNamesWrongFalsely : Prop := crashNamesRow.holds Try.pinned (OpenSpec.ofChange crashNamesWrong)

/-- 'ballastlaw04.CrashTells': WHATEVER THE INPUT: true; the input reads as it did. -/
def crashTellsSpec : ChangeSpec := { name := "crashTells", fn := fun _ => fun
  | [d1, d2, d3] => { results := [.lit (.bool true)], args := [d1, d2, d3] }
  | _ => none }
def crashTellsRow : OpenClaim := { program := "ytmmcbleoglgamaa", sum := "61bd5b63df3324b82baee3725a11a7059e6c0bbf1679df2d26c30590c7bb0e95", func := "ballast/ballastlaw04.CrashTells", spec := "crashTells", unfollowed := true, recurses := true, apart := false }
def CrashTellsSaid : Prop := crashTellsRow.holds Try.pinned (OpenSpec.ofChange crashTellsSpec)

/-- ITS FALSE NEIGHBOUR: 'it returns false'. Refute it at one input. -/
def crashTellsWrong : ChangeSpec := { name := "crashTells", fn := fun _ => fun
  | [d1, d2, d3] => { results := [.lit (.bool false)], args := [d1, d2, d3] }
  | _ => none }
def CrashTellsWrongFalsely : Prop := crashTellsRow.holds Try.pinned (OpenSpec.ofChange crashTellsWrong)

/-- 'ballastlaw04.CrashMasks': WHATEVER THE INPUT: true; the input reads as it did. -/
def crashMasksSpec : ChangeSpec := { name := "crashMasks", fn := fun _ => fun
  | [d1, d2, d3, d4] => { results := [.lit (.bool true)], args := [d1, d2, d3, d4] }
  | _ => none }
def crashMasksRow : OpenClaim := { program := "ytmmcbleoglgamaa", sum := "61bd5b63df3324b82baee3725a11a7059e6c0bbf1679df2d26c30590c7bb0e95", func := "ballast/ballastlaw04.CrashMasks", spec := "crashMasks", unfollowed := true, recurses := true, apart := false }
def CrashMasksSaid : Prop := crashMasksRow.holds Try.pinned (OpenSpec.ofChange crashMasksSpec)

/-- ITS FALSE NEIGHBOUR: 'it returns false'. Refute it at one input. -/
def crashMasksWrong : ChangeSpec := { name := "crashMasks", fn := fun _ => fun
  | [d1, d2, d3, d4] => { results := [.lit (.bool false)], args := [d1, d2, d3, d4] }
  | _ => none }
def CrashMasksWrongFalsely : Prop := crashMasksRow.holds Try.pinned (OpenSpec.ofChange crashMasksWrong)

/-- 'ballastlaw04.CrashWords': WHATEVER THE INPUT: true; the input reads as it did. -/
def crashWordsSpec : ChangeSpec := { name := "crashWords", fn := fun _ => fun
  | [d1, d2] => { results := [.lit (.bool true)], args := [d1, d2] }
  | _ => none }
def crashWordsRow : OpenClaim := { program := "ytmmcbleoglgamaa", sum := "61bd5b63df3324b82baee3725a11a7059e6c0bbf1679df2d26c30590c7bb0e95", func := "ballast/ballastlaw04.CrashWords", spec := "crashWords", unfollowed := true, recurses := true, apart := false }
def CrashWordsSaid : Prop := crashWordsRow.holds Try.pinned (OpenSpec.ofChange crashWordsSpec)

/-- ITS FALSE NEIGHBOUR: 'it returns false'. Refute it at one input. -/
def crashWordsWrong : ChangeSpec := { name := "crashWords", fn := fun _ => fun
  | [d1, d2] => { results := [.lit (.bool false)], args := [d1, d2] }
  | _ => none }
def CrashWordsWrongFalsely : Prop := crashWordsRow.holds Try.pinned (OpenSpec.ofChange crashWordsWrong)

/-- 'ballastlaw03.CacheLoads': WHATEVER THE INPUT: true; the input reads as it did. -/
def cacheLoadsSpec : ChangeSpec := { name := "cacheLoads", fn := fun _ => fun
  | [d1, d2] => { results := [.lit (.bool true)], args := [d1, d2] }
  | _ => none }
def cacheLoadsRow : OpenClaim := { program := "ytmmcbleoglgamaa", sum := "61bd5b63df3324b82baee3725a11a7059e6c0bbf1679df2d26c30590c7bb0e95", func := "ballast/ballastlaw03.CacheLoads", spec := "cacheLoads", unfollowed := true, recurses := true, apart := false }
def CacheLoadsSaid : Prop := cacheLoadsRow.holds Try.pinned (OpenSpec.ofChange cacheLoadsSpec)

/-- ITS FALSE NEIGHBOUR: 'it returns false'. Refute it at one input. -/
def cacheLoadsWrong : ChangeSpec := { name := "cacheLoads", fn := fun _ => fun
  | [d1, d2] => { results := [.lit (.bool false)], args := [d1, d2] }
  | _ => none }
def CacheLoadsWrongFalsely : Prop := cacheLoadsRow.holds Try.pinned (OpenSpec.ofChange cacheLoadsWrong)

/-- 'ballastlaw03.CacheStores': WHATEVER THE INPUT: true; the input reads as it did. -/
def cacheStoresSpec : ChangeSpec := { name := "cacheStores", fn := fun _ => fun
  | [d1, d2, d3] => { results := [.lit (.bool true)], args := [d1, d2, d3] }
  | _ => none }
def cacheStoresRow : OpenClaim := { program := "ytmmcbleoglgamaa", sum := "61bd5b63df3324b82baee3725a11a7059e6c0bbf1679df2d26c30590c7bb0e95", func := "ballast/ballastlaw03.CacheStores", spec := "cacheStores", inPlace := ["slices.overlaps[ballast/api.Dirty]"], unfollowed := true, recurses := true, apart := false }
def CacheStoresSaid : Prop := cacheStoresRow.holds Try.pinned (OpenSpec.ofChange cacheStoresSpec)

/-- ITS FALSE NEIGHBOUR: 'it returns false'. Refute it at one input. -/
def cacheStoresWrong : ChangeSpec := { name := "cacheStores", fn := fun _ => fun
  | [d1, d2, d3] => { results := [.lit (.bool false)], args := [d1, d2, d3] }
  | _ => none }
def CacheStoresWrongFalsely : Prop := cacheStoresRow.holds Try.pinned (OpenSpec.ofChange cacheStoresWrong)

/-- 'ballastlaw03.CacheOrder': WHATEVER THE INPUT: true; the input reads as it did. -/
def cacheOrderSpec : ChangeSpec := { name := "cacheOrder", fn := fun _ => fun
  | [d1, d2, d3, d4, d5] => { results := [.lit (.bool true)], args := [d1, d2, d3, d4, d5] }
  | _ => none }
def cacheOrderRow : OpenClaim := { program := "ytmmcbleoglgamaa", sum := "61bd5b63df3324b82baee3725a11a7059e6c0bbf1679df2d26c30590c7bb0e95", func := "ballast/ballastlaw03.CacheOrder", spec := "cacheOrder", inPlace := ["slices.overlaps[ballast/api.Dirty]"], unfollowed := true, recurses := true, apart := false }
def CacheOrderSaid : Prop := cacheOrderRow.holds Try.pinned (OpenSpec.ofChange cacheOrderSpec)

/-- ITS FALSE NEIGHBOUR: 'it returns false'. Refute it at one input. -/
def cacheOrderWrong : ChangeSpec := { name := "cacheOrder", fn := fun _ => fun
  | [d1, d2, d3, d4, d5] => { results := [.lit (.bool false)], args := [d1, d2, d3, d4, d5] }
  | _ => none }
def CacheOrderWrongFalsely : Prop := cacheOrderRow.holds Try.pinned (OpenSpec.ofChange cacheOrderWrong)

/-- 'ballastlaw03.CacheDown': WHATEVER THE INPUT: true; the input reads as it did. -/
def cacheDownSpec : ChangeSpec := { name := "cacheDown", fn := fun _ => fun
  | [d1, d2, d3] => { results := [.lit (.bool true)], args := [d1, d2, d3] }
  | _ => none }
def cacheDownRow : OpenClaim := { program := "ytmmcbleoglgamaa", sum := "61bd5b63df3324b82baee3725a11a7059e6c0bbf1679df2d26c30590c7bb0e95", func := "ballast/ballastlaw03.CacheDown", spec := "cacheDown", inPlace := ["slices.overlaps[ballast/api.Dirty]"], unfollowed := true, recurses := true, apart := false }
def CacheDownSaid : Prop := cacheDownRow.holds Try.pinned (OpenSpec.ofChange cacheDownSpec)

/-- ITS FALSE NEIGHBOUR: 'it returns false'. Refute it at one input. -/
def cacheDownWrong : ChangeSpec := { name := "cacheDown", fn := fun _ => fun
  | [d1, d2, d3] => { results := [.lit (.bool false)], args := [d1, d2, d3] }
  | _ => none }
def CacheDownWrongFalsely : Prop := cacheDownRow.holds Try.pinned (OpenSpec.ofChange cacheDownWrong)

/-- 'ballastlaw03.CacheNames': WHATEVER THE INPUT: true; the input reads as it did. -/
def cacheNamesSpec : ChangeSpec := { name := "cacheNames", fn := fun _ => fun
  | [] => { results := [.lit (.bool true)], args := [] }
  | _ => none }
def cacheNamesRow : OpenClaim := { program := "ytmmcbleoglgamaa", sum := "61bd5b63df3324b82baee3725a11a7059e6c0bbf1679df2d26c30590c7bb0e95", func := "ballast/ballastlaw03.CacheNames", spec := "cacheNames", inPlace := ["slices.overlaps[ballast/api.Dirty]"], unfollowed := true, recurses := true, apart := false }
def CacheNamesSaid : Prop := cacheNamesRow.holds Try.pinned (OpenSpec.ofChange cacheNamesSpec)

/-- ITS FALSE NEIGHBOUR: 'it returns false'. Refute it at one input. -/
def cacheNamesWrong : ChangeSpec := { name := "cacheNames", fn := fun _ => fun
  | [] => { results := [.lit (.bool false)], args := [] }
  | _ => none }
def CacheNamesWrongFalsely : Prop := cacheNamesRow.holds Try.pinned (OpenSpec.ofChange cacheNamesWrong)

/-- 'ballastlaw03.CacheLast': WHATEVER THE INPUT: true; the input reads as it did. -/
def cacheLastSpec : ChangeSpec := { name := "cacheLast", fn := fun _ => fun
  | [d1, d2, d3, d4] => { results := [.lit (.bool true)], args := [d1, d2, d3, d4] }
  | _ => none }
def cacheLastRow : OpenClaim := { program := "ytmmcbleoglgamaa", sum := "61bd5b63df3324b82baee3725a11a7059e6c0bbf1679df2d26c30590c7bb0e95", func := "ballast/ballastlaw03.CacheLast", spec := "cacheLast", inPlace := ["slices.overlaps[ballast/api.Dirty]"], unfollowed := true, recurses := true, apart := false }
def CacheLastSaid : Prop := cacheLastRow.holds Try.pinned (OpenSpec.ofChange cacheLastSpec)

/-- ITS FALSE NEIGHBOUR: 'it returns false'. Refute it at one input. -/
def cacheLastWrong : ChangeSpec := { name := "cacheLast", fn := fun _ => fun
  | [d1, d2, d3, d4] => { results := [.lit (.bool false)], args := [d1, d2, d3, d4] }
  | _ => none }
def CacheLastWrongFalsely : Prop := cacheLastRow.holds Try.pinned (OpenSpec.ofChange cacheLastWrong)

/-- 'ballastlaw03.CacheImage': WHATEVER THE INPUT: true; the input reads as it did. -/
def cacheImageSpec : ChangeSpec := { name := "cacheImage", fn := fun _ => fun
  | [d1, d2, d3] => { results := [.lit (.bool true)], args := [d1, d2, d3] }
  | _ => none }
def cacheImageRow : OpenClaim := { program := "ytmmcbleoglgamaa", sum := "61bd5b63df3324b82baee3725a11a7059e6c0bbf1679df2d26c30590c7bb0e95", func := "ballast/ballastlaw03.CacheImage", spec := "cacheImage", inPlace := ["slices.overlaps[ballast/api.Dirty]"], unfollowed := true, recurses := true, apart := false }
def CacheImageSaid : Prop := cacheImageRow.holds Try.pinned (OpenSpec.ofChange cacheImageSpec)

/-- ITS FALSE NEIGHBOUR: 'it returns false'. Refute it at one input. -/
def cacheImageWrong : ChangeSpec := { name := "cacheImage", fn := fun _ => fun
  | [d1, d2, d3] => { results := [.lit (.bool false)], args := [d1, d2, d3] }
  | _ => none }
def CacheImageWrongFalsely : Prop := cacheImageRow.holds Try.pinned (OpenSpec.ofChange cacheImageWrong)

/-- 'ballastlaw04.CrashFenced': WHATEVER THE INPUT: true; the input reads as it did. -/
def crashFencedSpec : ChangeSpec := { name := "crashFenced", fn := fun _ => fun
  | [d1, d2, d3, d4, d5] => { results := [.lit (.bool true)], args := [d1, d2, d3, d4, d5] }
  | _ => none }
def crashFencedRow : OpenClaim := { program := "ytmmcbleoglgamaa", sum := "61bd5b63df3324b82baee3725a11a7059e6c0bbf1679df2d26c30590c7bb0e95", func := "ballast/ballastlaw04.CrashFenced", spec := "crashFenced", inPlace := ["slices.overlaps[ballast/api.Dirty]"], unfollowed := true, recurses := true, apart := false }
def CrashFencedSaid : Prop := crashFencedRow.holds Try.pinned (OpenSpec.ofChange crashFencedSpec)

/-- ITS FALSE NEIGHBOUR: 'it returns false'. Refute it at one input. -/
def crashFencedWrong : ChangeSpec := { name := "crashFenced", fn := fun _ => fun
  | [d1, d2, d3, d4, d5] => { results := [.lit (.bool false)], args := [d1, d2, d3, d4, d5] }
  | _ => none }
def CrashFencedWrongFalsely : Prop := crashFencedRow.holds Try.pinned (OpenSpec.ofChange crashFencedWrong)

/- THE SECOND FORM. 'bulk': how many values and letters a reading holds, each counted each time it is reached (what is shared counts as often as it is met; a slice's spare places count too). A statement '..UptoSaid' is the law's where the arguments, and the package variables that the reading takes, are together of bulk at most 1048576: NARROWER than '..Said'. Prove '..Said' where nothing that the law and all that it calls make is longer than what came in: it says more and counts as full. Else prove '..UptoSaid'. A law counts once. -/
mutual
def uptoBulk {H : Type} : DataW H → Nat
  | .lit (.string bytes) => bytes.length + 1
  | .lit _ => 1
  | .nil => 1
  | .ptr d => uptoBulk d + 1
  | .slice elems spare => uptoBulkAll elems + uptoBulkAll spare + 1
  | .agg parts => uptoBulkAll parts + 1
  | .iface _ d => uptoBulk d + 1
  | .map entries => uptoBulkEntries entries + 1
  | .held _ => 1
def uptoBulkAll {H : Type} : List (DataW H) → Nat
  | [] => 0
  | d :: r => uptoBulk d + uptoBulkAll r
def uptoBulkEntries {H : Type} : List (Lit × DataW H) → Nat
  | [] => 0
  | x :: r => uptoBulkEntry x + uptoBulkEntries r
def uptoBulkEntry {H : Type} : Lit × DataW H → Nat
  | (.string bytes, d) => bytes.length + uptoBulk d + 1
  | (_, d) => uptoBulk d + 1
 end
def uptoSmall : (H : Type) → List (DataW H) → Bool := fun _ ds => decide (uptoBulkAll ds ≤ 1048576)
def OpenSpec.upto (s : _root_.Go.ChangeSpec) : _root_.Go.OpenSpec := { _root_.Go.OpenSpec.ofChange s with cond := some uptoSmall }

/-- 'ballastlaw04.CrashEnds', WHERE WHAT IT READS IS OF BULK AT MOST 1048576: true; the input reads as it did. -/
def crashEndsUptoRow : OpenClaim := { program := "ytmmcbleoglgamaa", sum := "61bd5b63df3324b82baee3725a11a7059e6c0bbf1679df2d26c30590c7bb0e95", func := "ballast/ballastlaw04.CrashEnds", spec := "crashEnds", unfollowed := true, recurses := true, apart := false, narrowed := true }
def CrashEndsUptoSaid : Prop := crashEndsUptoRow.holds Try.pinned (OpenSpec.upto crashEndsSpec)

/-- 'ballastlaw04.CrashNames', WHERE WHAT IT READS IS OF BULK AT MOST 1048576: true; the input reads as it did. -/
def crashNamesUptoRow : OpenClaim := { program := "ytmmcbleoglgamaa", sum := "61bd5b63df3324b82baee3725a11a7059e6c0bbf1679df2d26c30590c7bb0e95", func := "ballast/ballastlaw04.CrashNames", spec := "crashNames", unfollowed := true, recurses := true, apart := false, narrowed := true }
def CrashNamesUptoSaid : Prop := crashNamesUptoRow.holds Try.pinned (OpenSpec.upto crashNamesSpec)

/-- 'ballastlaw04.CrashTells', WHERE WHAT IT READS IS OF BULK AT MOST 1048576: true; the input reads as it did. -/
def crashTellsUptoRow : OpenClaim := { program := "ytmmcbleoglgamaa", sum := "61bd5b63df3324b82baee3725a11a7059e6c0bbf1679df2d26c30590c7bb0e95", func := "ballast/ballastlaw04.CrashTells", spec := "crashTells", unfollowed := true, recurses := true, apart := false, narrowed := true }
def CrashTellsUptoSaid : Prop := crashTellsUptoRow.holds Try.pinned (OpenSpec.upto crashTellsSpec)

/-- 'ballastlaw04.CrashMasks', WHERE WHAT IT READS IS OF BULK AT MOST 1048576: true; the input reads as it did. -/
def crashMasksUptoRow : OpenClaim := { program := "ytmmcbleoglgamaa", sum := "61bd5b63df3324b82baee3725a11a7059e6c0bbf1679df2d26c30590c7bb0e95", func := "ballast/ballastlaw04.CrashMasks", spec := "crashMasks", unfollowed := true, recurses := true, apart := false, narrowed := true }
def CrashMasksUptoSaid : Prop := crashMasksUptoRow.holds Try.pinned (OpenSpec.upto crashMasksSpec)

/-- 'ballastlaw04.CrashWords', WHERE WHAT IT READS IS OF BULK AT MOST 1048576: true; the input reads as it did. -/
def crashWordsUptoRow : OpenClaim := { program := "ytmmcbleoglgamaa", sum := "61bd5b63df3324b82baee3725a11a7059e6c0bbf1679df2d26c30590c7bb0e95", func := "ballast/ballastlaw04.CrashWords", spec := "crashWords", unfollowed := true, recurses := true, apart := false, narrowed := true }
def CrashWordsUptoSaid : Prop := crashWordsUptoRow.holds Try.pinned (OpenSpec.upto crashWordsSpec)

/-- 'ballastlaw03.CacheLoads', WHERE WHAT IT READS IS OF BULK AT MOST 1048576: true; the input reads as it did. -/
def cacheLoadsUptoRow : OpenClaim := { program := "ytmmcbleoglgamaa", sum := "61bd5b63df3324b82baee3725a11a7059e6c0bbf1679df2d26c30590c7bb0e95", func := "ballast/ballastlaw03.CacheLoads", spec := "cacheLoads", unfollowed := true, recurses := true, apart := false, narrowed := true }
def CacheLoadsUptoSaid : Prop := cacheLoadsUptoRow.holds Try.pinned (OpenSpec.upto cacheLoadsSpec)

/-- 'ballastlaw03.CacheStores', WHERE WHAT IT READS IS OF BULK AT MOST 1048576: true; the input reads as it did. -/
def cacheStoresUptoRow : OpenClaim := { program := "ytmmcbleoglgamaa", sum := "61bd5b63df3324b82baee3725a11a7059e6c0bbf1679df2d26c30590c7bb0e95", func := "ballast/ballastlaw03.CacheStores", spec := "cacheStores", inPlace := ["slices.overlaps[ballast/api.Dirty]"], unfollowed := true, recurses := true, apart := false, narrowed := true }
def CacheStoresUptoSaid : Prop := cacheStoresUptoRow.holds Try.pinned (OpenSpec.upto cacheStoresSpec)

/-- 'ballastlaw03.CacheOrder', WHERE WHAT IT READS IS OF BULK AT MOST 1048576: true; the input reads as it did. -/
def cacheOrderUptoRow : OpenClaim := { program := "ytmmcbleoglgamaa", sum := "61bd5b63df3324b82baee3725a11a7059e6c0bbf1679df2d26c30590c7bb0e95", func := "ballast/ballastlaw03.CacheOrder", spec := "cacheOrder", inPlace := ["slices.overlaps[ballast/api.Dirty]"], unfollowed := true, recurses := true, apart := false, narrowed := true }
def CacheOrderUptoSaid : Prop := cacheOrderUptoRow.holds Try.pinned (OpenSpec.upto cacheOrderSpec)

/-- 'ballastlaw03.CacheDown', WHERE WHAT IT READS IS OF BULK AT MOST 1048576: true; the input reads as it did. -/
def cacheDownUptoRow : OpenClaim := { program := "ytmmcbleoglgamaa", sum := "61bd5b63df3324b82baee3725a11a7059e6c0bbf1679df2d26c30590c7bb0e95", func := "ballast/ballastlaw03.CacheDown", spec := "cacheDown", inPlace := ["slices.overlaps[ballast/api.Dirty]"], unfollowed := true, recurses := true, apart := false, narrowed := true }
def CacheDownUptoSaid : Prop := cacheDownUptoRow.holds Try.pinned (OpenSpec.upto cacheDownSpec)

/-- 'ballastlaw03.CacheNames', WHERE WHAT IT READS IS OF BULK AT MOST 1048576: true; the input reads as it did. -/
def cacheNamesUptoRow : OpenClaim := { program := "ytmmcbleoglgamaa", sum := "61bd5b63df3324b82baee3725a11a7059e6c0bbf1679df2d26c30590c7bb0e95", func := "ballast/ballastlaw03.CacheNames", spec := "cacheNames", inPlace := ["slices.overlaps[ballast/api.Dirty]"], unfollowed := true, recurses := true, apart := false, narrowed := true }
def CacheNamesUptoSaid : Prop := cacheNamesUptoRow.holds Try.pinned (OpenSpec.upto cacheNamesSpec)

/-- 'ballastlaw03.CacheLast', WHERE WHAT IT READS IS OF BULK AT MOST 1048576: true; the input reads as it did. -/
def cacheLastUptoRow : OpenClaim := { program := "ytmmcbleoglgamaa", sum := "61bd5b63df3324b82baee3725a11a7059e6c0bbf1679df2d26c30590c7bb0e95", func := "ballast/ballastlaw03.CacheLast", spec := "cacheLast", inPlace := ["slices.overlaps[ballast/api.Dirty]"], unfollowed := true, recurses := true, apart := false, narrowed := true }
def CacheLastUptoSaid : Prop := cacheLastUptoRow.holds Try.pinned (OpenSpec.upto cacheLastSpec)

/-- 'ballastlaw03.CacheImage', WHERE WHAT IT READS IS OF BULK AT MOST 1048576: true; the input reads as it did. -/
def cacheImageUptoRow : OpenClaim := { program := "ytmmcbleoglgamaa", sum := "61bd5b63df3324b82baee3725a11a7059e6c0bbf1679df2d26c30590c7bb0e95", func := "ballast/ballastlaw03.CacheImage", spec := "cacheImage", inPlace := ["slices.overlaps[ballast/api.Dirty]"], unfollowed := true, recurses := true, apart := false, narrowed := true }
def CacheImageUptoSaid : Prop := cacheImageUptoRow.holds Try.pinned (OpenSpec.upto cacheImageSpec)

/-- 'ballastlaw04.CrashFenced', WHERE WHAT IT READS IS OF BULK AT MOST 1048576: true; the input reads as it did. -/
def crashFencedUptoRow : OpenClaim := { program := "ytmmcbleoglgamaa", sum := "61bd5b63df3324b82baee3725a11a7059e6c0bbf1679df2d26c30590c7bb0e95", func := "ballast/ballastlaw04.CrashFenced", spec := "crashFenced", inPlace := ["slices.overlaps[ballast/api.Dirty]"], unfollowed := true, recurses := true, apart := false, narrowed := true }
def CrashFencedUptoSaid : Prop := crashFencedUptoRow.holds Try.pinned (OpenSpec.upto crashFencedSpec)

end Rows
end Go.Proofs.Ytmmcbleoglgamaa
