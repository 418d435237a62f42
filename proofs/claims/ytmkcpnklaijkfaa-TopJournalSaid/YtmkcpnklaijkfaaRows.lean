/-
  No cell of these rows narrows 'for every input' (looked for: loops, veiled, ifaces, maps, wideKeys, modest, calm, conditions, laid).
  DERIVED. THE GIVEN ROWS OF THIS SEAT. 17 by the template 'for every input the law returns true; each argument reads behind the call as it read before'; 0 by the template 'total and deterministic' (their statements: YtmkcpnklaijkfaaTotals.lean).
  GIVEN WITH THE SEED: the statements are not yours to turn. If you find one false, say at which input.
  Laid BY PROGRAM, IN A SANDBOX (cutbox-rows.mjs): the forced cells as the released guide's own fill.sh prints them over the translation c3214962490102fd… (all of the seat's roots in one cut). By AI agents, Wed Nov 11 2026. No macro, syntax, notation, axiom, sorry.
-/
import Derived.Test.YtmkcpnklaijkfaaChecked
import GoSem.Claim
import GoSem.ClaimJoined
import GoSem.ClaimMapViews
import Derived.JoinedTies
import Derived.KernelRfl
namespace Go.Proofs.Ytmkcpnklaijkfaa
/- THE CELL 'sum', in the pinned program and in every row, IS THE sha256 OF THE DUMP (.gsa) THAT YtmkcpnklaijkfaaProg.lean LOADS. Nothing in Lean hashes anything: it is a label: what it is worth is what the hold of that sum in a sandbox is worth. -/
noncomputable def Try.pinned : Pinned := { name := "ytmkcpnklaijkfaa", sum := "c3214962490102fdf5df4ef2737be0e791e2e73f65c10084b1ccac06d2bc1ffe", checked := Try.checked }
namespace Rows
def none {H : Type} : Left H := { results := [], args := [] }

/-- 'ballasttop.TopJournal': WHATEVER THE INPUT: true; the input reads as it did. -/
def topJournalSpec : ChangeSpec := { name := "topJournal", fn := fun _ => fun
  | [d1, d2, d3, d4, d5, d6, d7, d8, d9] => { results := [.lit (.bool true)], args := [d1, d2, d3, d4, d5, d6, d7, d8, d9] }
  | _ => none }
def topJournalRow : OpenClaim := { program := "ytmkcpnklaijkfaa", sum := "c3214962490102fdf5df4ef2737be0e791e2e73f65c10084b1ccac06d2bc1ffe", func := "ballast/ballasttop.TopJournal", spec := "topJournal", inPlace := ["slices.overlaps[ballast/api.Dirty]"], unfollowed := true, recurses := true, apart := false }
def TopJournalSaid : Prop := topJournalRow.holds Try.pinned (OpenSpec.ofChange topJournalSpec)

/-- ITS FALSE NEIGHBOUR: 'it returns false'. Refute it at one input. -/
def topJournalWrong : ChangeSpec := { name := "topJournal", fn := fun _ => fun
  | [d1, d2, d3, d4, d5, d6, d7, d8, d9] => { results := [.lit (.bool false)], args := [d1, d2, d3, d4, d5, d6, d7, d8, d9] }
  | _ => none }
def TopJournalWrongFalsely : Prop := topJournalRow.holds Try.pinned (OpenSpec.ofChange topJournalWrong)

/-- 'ballastlaw10.ReplayImages': WHATEVER THE INPUT: true; the input reads as it did. -/
def replayImagesSpec : ChangeSpec := { name := "replayImages", fn := fun _ => fun
  | [d1, d2] => { results := [.lit (.bool true)], args := [d1, d2] }
  | _ => none }
def replayImagesRow : OpenClaim := { program := "ytmkcpnklaijkfaa", sum := "c3214962490102fdf5df4ef2737be0e791e2e73f65c10084b1ccac06d2bc1ffe", func := "ballast/ballastlaw10.ReplayImages", spec := "replayImages", apart := false }
def ReplayImagesSaid : Prop := replayImagesRow.holds Try.pinned (OpenSpec.ofChange replayImagesSpec)

/-- ITS FALSE NEIGHBOUR: 'it returns false'. Refute it at one input. -/
def replayImagesWrong : ChangeSpec := { name := "replayImages", fn := fun _ => fun
  | [d1, d2] => { results := [.lit (.bool false)], args := [d1, d2] }
  | _ => none }
def ReplayImagesWrongFalsely : Prop := replayImagesRow.holds Try.pinned (OpenSpec.ofChange replayImagesWrong)

/-- 'ballastlaw10.ReplayTwice': WHATEVER THE INPUT: true; the input reads as it did. -/
def replayTwiceSpec : ChangeSpec := { name := "replayTwice", fn := fun _ => fun
  | [d] => { results := [.lit (.bool true)], args := [d] }
  | _ => none }
def replayTwiceRow : OpenClaim := { program := "ytmkcpnklaijkfaa", sum := "c3214962490102fdf5df4ef2737be0e791e2e73f65c10084b1ccac06d2bc1ffe", func := "ballast/ballastlaw10.ReplayTwice", spec := "replayTwice", apart := false }
def ReplayTwiceSaid : Prop := replayTwiceRow.holds Try.pinned (OpenSpec.ofChange replayTwiceSpec)

/-- ITS FALSE NEIGHBOUR: 'it returns false'. Refute it at one input. -/
def replayTwiceWrong : ChangeSpec := { name := "replayTwice", fn := fun _ => fun
  | [d] => { results := [.lit (.bool false)], args := [d] }
  | _ => none }
def ReplayTwiceWrongFalsely : Prop := replayTwiceRow.holds Try.pinned (OpenSpec.ofChange replayTwiceWrong)

/-- 'ballastlaw10.ReplayWords': WHATEVER THE INPUT: true; the input reads as it did. -/
def replayWordsSpec : ChangeSpec := { name := "replayWords", fn := fun _ => fun
  | [d1, d2] => { results := [.lit (.bool true)], args := [d1, d2] }
  | _ => none }
def replayWordsRow : OpenClaim := { program := "ytmkcpnklaijkfaa", sum := "c3214962490102fdf5df4ef2737be0e791e2e73f65c10084b1ccac06d2bc1ffe", func := "ballast/ballastlaw10.ReplayWords", spec := "replayWords", apart := false }
def ReplayWordsSaid : Prop := replayWordsRow.holds Try.pinned (OpenSpec.ofChange replayWordsSpec)

/-- ITS FALSE NEIGHBOUR: 'it returns false'. Refute it at one input. -/
def replayWordsWrong : ChangeSpec := { name := "replayWords", fn := fun _ => fun
  | [d1, d2] => { results := [.lit (.bool false)], args := [d1, d2] }
  | _ => none }
def ReplayWordsWrongFalsely : Prop := replayWordsRow.holds Try.pinned (OpenSpec.ofChange replayWordsWrong)

/-- 'ballastlaw12.AtomicChanges': WHATEVER THE INPUT: true; the input reads as it did. -/
def atomicChangesSpec : ChangeSpec := { name := "atomicChanges", fn := fun _ => fun
  | [d1, d2, d3] => { results := [.lit (.bool true)], args := [d1, d2, d3] }
  | _ => none }
def atomicChangesRow : OpenClaim := { program := "ytmkcpnklaijkfaa", sum := "c3214962490102fdf5df4ef2737be0e791e2e73f65c10084b1ccac06d2bc1ffe", func := "ballast/ballastlaw12.AtomicChanges", spec := "atomicChanges", inPlace := ["slices.overlaps[ballast/api.Dirty]"], unfollowed := true, recurses := true, apart := false }
def AtomicChangesSaid : Prop := atomicChangesRow.holds Try.pinned (OpenSpec.ofChange atomicChangesSpec)

/-- ITS FALSE NEIGHBOUR: 'it returns false'. Refute it at one input. -/
def atomicChangesWrong : ChangeSpec := { name := "atomicChanges", fn := fun _ => fun
  | [d1, d2, d3] => { results := [.lit (.bool false)], args := [d1, d2, d3] }
  | _ => none }
def AtomicChangesWrongFalsely : Prop := atomicChangesRow.holds Try.pinned (OpenSpec.ofChange atomicChangesWrong)

/-- 'ballastlaw10.ReplayDevices': WHATEVER THE INPUT: true; the input reads as it did. -/
def replayDevicesSpec : ChangeSpec := { name := "replayDevices", fn := fun _ => fun
  | [d1, d2] => { results := [.lit (.bool true)], args := [d1, d2] }
  | _ => none }
def replayDevicesRow : OpenClaim := { program := "ytmkcpnklaijkfaa", sum := "c3214962490102fdf5df4ef2737be0e791e2e73f65c10084b1ccac06d2bc1ffe", func := "ballast/ballastlaw10.ReplayDevices", spec := "replayDevices", inPlace := ["slices.overlaps[ballast/api.Dirty]"], unfollowed := true, recurses := true, apart := false }
def ReplayDevicesSaid : Prop := replayDevicesRow.holds Try.pinned (OpenSpec.ofChange replayDevicesSpec)

/-- ITS FALSE NEIGHBOUR: 'it returns false'. Refute it at one input. -/
def replayDevicesWrong : ChangeSpec := { name := "replayDevices", fn := fun _ => fun
  | [d1, d2] => { results := [.lit (.bool false)], args := [d1, d2] }
  | _ => none }
def ReplayDevicesWrongFalsely : Prop := replayDevicesRow.holds Try.pinned (OpenSpec.ofChange replayDevicesWrong)

/-- 'ballastlaw10.ReplayPut': WHATEVER THE INPUT: true; the input reads as it did. -/
def replayPutSpec : ChangeSpec := { name := "replayPut", fn := fun _ => fun
  | [d1, d2] => { results := [.lit (.bool true)], args := [d1, d2] }
  | _ => none }
def replayPutRow : OpenClaim := { program := "ytmkcpnklaijkfaa", sum := "c3214962490102fdf5df4ef2737be0e791e2e73f65c10084b1ccac06d2bc1ffe", func := "ballast/ballastlaw10.ReplayPut", spec := "replayPut", inPlace := ["slices.overlaps[ballast/api.Dirty]"], unfollowed := true, recurses := true, apart := false }
def ReplayPutSaid : Prop := replayPutRow.holds Try.pinned (OpenSpec.ofChange replayPutSpec)

/-- ITS FALSE NEIGHBOUR: 'it returns false'. Refute it at one input. -/
def replayPutWrong : ChangeSpec := { name := "replayPut", fn := fun _ => fun
  | [d1, d2] => { results := [.lit (.bool false)], args := [d1, d2] }
  | _ => none }
def ReplayPutWrongFalsely : Prop := replayPutRow.holds Try.pinned (OpenSpec.ofChange replayPutWrong)

/-- 'ballastlaw10.ReplayNames': WHATEVER THE INPUT: true; the input reads as it did. -/
def replayNamesSpec : ChangeSpec := { name := "replayNames", fn := fun _ => fun
  | [] => { results := [.lit (.bool true)], args := [] }
  | _ => none }
def replayNamesRow : OpenClaim := { program := "ytmkcpnklaijkfaa", sum := "c3214962490102fdf5df4ef2737be0e791e2e73f65c10084b1ccac06d2bc1ffe", func := "ballast/ballastlaw10.ReplayNames", spec := "replayNames", inPlace := ["slices.overlaps[ballast/api.Dirty]"], unfollowed := true, recurses := true, apart := false }
def ReplayNamesSaid : Prop := replayNamesRow.holds Try.pinned (OpenSpec.ofChange replayNamesSpec)

/-- ITS FALSE NEIGHBOUR: 'it returns false'. Refute it at one input. -/
def replayNamesWrong : ChangeSpec := { name := "replayNames", fn := fun _ => fun
  | [] => { results := [.lit (.bool false)], args := [] }
  | _ => none }
def ReplayNamesWrongFalsely : Prop := replayNamesRow.holds Try.pinned (OpenSpec.ofChange replayNamesWrong)

/-- 'ballastlaw10.ReplaySame': WHATEVER THE INPUT: true; the input reads as it did. -/
def replaySameSpec : ChangeSpec := { name := "replaySame", fn := fun _ => fun
  | [d] => { results := [.lit (.bool true)], args := [d] }
  | _ => none }
def replaySameRow : OpenClaim := { program := "ytmkcpnklaijkfaa", sum := "c3214962490102fdf5df4ef2737be0e791e2e73f65c10084b1ccac06d2bc1ffe", func := "ballast/ballastlaw10.ReplaySame", spec := "replaySame", inPlace := ["slices.overlaps[ballast/api.Dirty]"], unfollowed := true, recurses := true, apart := false }
def ReplaySameSaid : Prop := replaySameRow.holds Try.pinned (OpenSpec.ofChange replaySameSpec)

/-- ITS FALSE NEIGHBOUR: 'it returns false'. Refute it at one input. -/
def replaySameWrong : ChangeSpec := { name := "replaySame", fn := fun _ => fun
  | [d] => { results := [.lit (.bool false)], args := [d] }
  | _ => none }
def ReplaySameWrongFalsely : Prop := replaySameRow.holds Try.pinned (OpenSpec.ofChange replaySameWrong)

/-- 'ballastlaw10.ReplayCrash': WHATEVER THE INPUT: true; the input reads as it did. -/
def replayCrashSpec : ChangeSpec := { name := "replayCrash", fn := fun _ => fun
  | [d1, d2, d3, d4] => { results := [.lit (.bool true)], args := [d1, d2, d3, d4] }
  | _ => none }
def replayCrashRow : OpenClaim := { program := "ytmkcpnklaijkfaa", sum := "c3214962490102fdf5df4ef2737be0e791e2e73f65c10084b1ccac06d2bc1ffe", func := "ballast/ballastlaw10.ReplayCrash", spec := "replayCrash", inPlace := ["slices.overlaps[ballast/api.Dirty]"], unfollowed := true, recurses := true, apart := false }
def ReplayCrashSaid : Prop := replayCrashRow.holds Try.pinned (OpenSpec.ofChange replayCrashSpec)

/-- ITS FALSE NEIGHBOUR: 'it returns false'. Refute it at one input. -/
def replayCrashWrong : ChangeSpec := { name := "replayCrash", fn := fun _ => fun
  | [d1, d2, d3, d4] => { results := [.lit (.bool false)], args := [d1, d2, d3, d4] }
  | _ => none }
def ReplayCrashWrongFalsely : Prop := replayCrashRow.holds Try.pinned (OpenSpec.ofChange replayCrashWrong)

/-- 'ballastlaw12.AtomicAfter': WHATEVER THE INPUT: true; the input reads as it did. -/
def atomicAfterSpec : ChangeSpec := { name := "atomicAfter", fn := fun _ => fun
  | [d1, d2, d3] => { results := [.lit (.bool true)], args := [d1, d2, d3] }
  | _ => none }
def atomicAfterRow : OpenClaim := { program := "ytmkcpnklaijkfaa", sum := "c3214962490102fdf5df4ef2737be0e791e2e73f65c10084b1ccac06d2bc1ffe", func := "ballast/ballastlaw12.AtomicAfter", spec := "atomicAfter", inPlace := ["slices.overlaps[ballast/api.Dirty]"], unfollowed := true, recurses := true, apart := false }
def AtomicAfterSaid : Prop := atomicAfterRow.holds Try.pinned (OpenSpec.ofChange atomicAfterSpec)

/-- ITS FALSE NEIGHBOUR: 'it returns false'. Refute it at one input. -/
def atomicAfterWrong : ChangeSpec := { name := "atomicAfter", fn := fun _ => fun
  | [d1, d2, d3] => { results := [.lit (.bool false)], args := [d1, d2, d3] }
  | _ => none }
def AtomicAfterWrongFalsely : Prop := atomicAfterRow.holds Try.pinned (OpenSpec.ofChange atomicAfterWrong)

/-- 'ballastlaw12.AtomicNames': WHATEVER THE INPUT: true; the input reads as it did. -/
def atomicNamesSpec : ChangeSpec := { name := "atomicNames", fn := fun _ => fun
  | [] => { results := [.lit (.bool true)], args := [] }
  | _ => none }
def atomicNamesRow : OpenClaim := { program := "ytmkcpnklaijkfaa", sum := "c3214962490102fdf5df4ef2737be0e791e2e73f65c10084b1ccac06d2bc1ffe", func := "ballast/ballastlaw12.AtomicNames", spec := "atomicNames", inPlace := ["slices.overlaps[ballast/api.Dirty]"], unfollowed := true, recurses := true, apart := false }
def AtomicNamesSaid : Prop := atomicNamesRow.holds Try.pinned (OpenSpec.ofChange atomicNamesSpec)

/-- ITS FALSE NEIGHBOUR: 'it returns false'. Refute it at one input. -/
def atomicNamesWrong : ChangeSpec := { name := "atomicNames", fn := fun _ => fun
  | [] => { results := [.lit (.bool false)], args := [] }
  | _ => none }
def AtomicNamesWrongFalsely : Prop := atomicNamesRow.holds Try.pinned (OpenSpec.ofChange atomicNamesWrong)

/-- 'ballastlaw12.AtomicAll': WHATEVER THE INPUT: true; the input reads as it did. -/
def atomicAllSpec : ChangeSpec := { name := "atomicAll", fn := fun _ => fun
  | [d1, d2, d3, d4] => { results := [.lit (.bool true)], args := [d1, d2, d3, d4] }
  | _ => none }
def atomicAllRow : OpenClaim := { program := "ytmkcpnklaijkfaa", sum := "c3214962490102fdf5df4ef2737be0e791e2e73f65c10084b1ccac06d2bc1ffe", func := "ballast/ballastlaw12.AtomicAll", spec := "atomicAll", inPlace := ["slices.overlaps[ballast/api.Dirty]"], unfollowed := true, recurses := true, apart := false }
def AtomicAllSaid : Prop := atomicAllRow.holds Try.pinned (OpenSpec.ofChange atomicAllSpec)

/-- ITS FALSE NEIGHBOUR: 'it returns false'. Refute it at one input. -/
def atomicAllWrong : ChangeSpec := { name := "atomicAll", fn := fun _ => fun
  | [d1, d2, d3, d4] => { results := [.lit (.bool false)], args := [d1, d2, d3, d4] }
  | _ => none }
def AtomicAllWrongFalsely : Prop := atomicAllRow.holds Try.pinned (OpenSpec.ofChange atomicAllWrong)

/-- 'ballastlaw12.AtomicMore': WHATEVER THE INPUT: true; the input reads as it did. -/
def atomicMoreSpec : ChangeSpec := { name := "atomicMore", fn := fun _ => fun
  | [d1, d2, d3, d4, d5] => { results := [.lit (.bool true)], args := [d1, d2, d3, d4, d5] }
  | _ => none }
def atomicMoreRow : OpenClaim := { program := "ytmkcpnklaijkfaa", sum := "c3214962490102fdf5df4ef2737be0e791e2e73f65c10084b1ccac06d2bc1ffe", func := "ballast/ballastlaw12.AtomicMore", spec := "atomicMore", inPlace := ["slices.overlaps[ballast/api.Dirty]"], unfollowed := true, recurses := true, apart := false }
def AtomicMoreSaid : Prop := atomicMoreRow.holds Try.pinned (OpenSpec.ofChange atomicMoreSpec)

/-- ITS FALSE NEIGHBOUR: 'it returns false'. Refute it at one input. -/
def atomicMoreWrong : ChangeSpec := { name := "atomicMore", fn := fun _ => fun
  | [d1, d2, d3, d4, d5] => { results := [.lit (.bool false)], args := [d1, d2, d3, d4, d5] }
  | _ => none }
def AtomicMoreWrongFalsely : Prop := atomicMoreRow.holds Try.pinned (OpenSpec.ofChange atomicMoreWrong)

/-- 'ballastlaw12.AtomicCalm': WHATEVER THE INPUT: true; the input reads as it did. -/
def atomicCalmSpec : ChangeSpec := { name := "atomicCalm", fn := fun _ => fun
  | [d1, d2] => { results := [.lit (.bool true)], args := [d1, d2] }
  | _ => none }
def atomicCalmRow : OpenClaim := { program := "ytmkcpnklaijkfaa", sum := "c3214962490102fdf5df4ef2737be0e791e2e73f65c10084b1ccac06d2bc1ffe", func := "ballast/ballastlaw12.AtomicCalm", spec := "atomicCalm", inPlace := ["slices.overlaps[ballast/api.Dirty]"], unfollowed := true, recurses := true, apart := false }
def AtomicCalmSaid : Prop := atomicCalmRow.holds Try.pinned (OpenSpec.ofChange atomicCalmSpec)

/-- ITS FALSE NEIGHBOUR: 'it returns false'. Refute it at one input. -/
def atomicCalmWrong : ChangeSpec := { name := "atomicCalm", fn := fun _ => fun
  | [d1, d2] => { results := [.lit (.bool false)], args := [d1, d2] }
  | _ => none }
def AtomicCalmWrongFalsely : Prop := atomicCalmRow.holds Try.pinned (OpenSpec.ofChange atomicCalmWrong)

/-- 'ballastlaw12.AtomicTwo': WHATEVER THE INPUT: true; the input reads as it did. -/
def atomicTwoSpec : ChangeSpec := { name := "atomicTwo", fn := fun _ => fun
  | [d1, d2, d3] => { results := [.lit (.bool true)], args := [d1, d2, d3] }
  | _ => none }
def atomicTwoRow : OpenClaim := { program := "ytmkcpnklaijkfaa", sum := "c3214962490102fdf5df4ef2737be0e791e2e73f65c10084b1ccac06d2bc1ffe", func := "ballast/ballastlaw12.AtomicTwo", spec := "atomicTwo", inPlace := ["slices.overlaps[ballast/api.Dirty]"], unfollowed := true, recurses := true, apart := false }
def AtomicTwoSaid : Prop := atomicTwoRow.holds Try.pinned (OpenSpec.ofChange atomicTwoSpec)

/-- ITS FALSE NEIGHBOUR: 'it returns false'. Refute it at one input. -/
def atomicTwoWrong : ChangeSpec := { name := "atomicTwo", fn := fun _ => fun
  | [d1, d2, d3] => { results := [.lit (.bool false)], args := [d1, d2, d3] }
  | _ => none }
def AtomicTwoWrongFalsely : Prop := atomicTwoRow.holds Try.pinned (OpenSpec.ofChange atomicTwoWrong)

/-- 'ballastlaw12.AtomicAgain': WHATEVER THE INPUT: true; the input reads as it did. -/
def atomicAgainSpec : ChangeSpec := { name := "atomicAgain", fn := fun _ => fun
  | [d1, d2, d3, d4, d5, d6] => { results := [.lit (.bool true)], args := [d1, d2, d3, d4, d5, d6] }
  | _ => none }
def atomicAgainRow : OpenClaim := { program := "ytmkcpnklaijkfaa", sum := "c3214962490102fdf5df4ef2737be0e791e2e73f65c10084b1ccac06d2bc1ffe", func := "ballast/ballastlaw12.AtomicAgain", spec := "atomicAgain", inPlace := ["slices.overlaps[ballast/api.Dirty]"], unfollowed := true, recurses := true, apart := false }
def AtomicAgainSaid : Prop := atomicAgainRow.holds Try.pinned (OpenSpec.ofChange atomicAgainSpec)

/-- ITS FALSE NEIGHBOUR: 'it returns false'. Refute it at one input. -/
def atomicAgainWrong : ChangeSpec := { name := "atomicAgain", fn := fun _ => fun
  | [d1, d2, d3, d4, d5, d6] => { results := [.lit (.bool false)], args := [d1, d2, d3, d4, d5, d6] }
  | _ => none }
def AtomicAgainWrongFalsely : Prop := atomicAgainRow.holds Try.pinned (OpenSpec.ofChange atomicAgainWrong)

/- THE SECOND FORM. 'bulk': how many values and letters a reading holds, each counted each time it is reached (what is shared counts as often as it is met; a slice's spare places count too). A statement '..UptoSaid' is the law's where the arguments, and the package variables that the reading takes, are together of bulk at most 1048576: NARROWER than '..Said'. Prove '..Said' where nothing that the law and all that it calls make is longer than what came in: it says more and counts as full. Else prove '..UptoSaid'. A law counts once. -/
mutual
def uptoBulk {H : Type} : DataW H → Nat
  | .lit (.string bytes) => bytes.length + 1
  | .lit _ => 1
  | .nil => 1
  | .ptr d => uptoBulk d + 1
  | .slice elems spare => uptoBulkAll elems + uptoBulkAll spare + 1
  | .agg parts => uptoBulkAll parts + 1
  | .iface _ d => uptoBulk d + 1
  | .map entries => uptoBulkEntries entries + 1
  | .held _ => 1
def uptoBulkAll {H : Type} : List (DataW H) → Nat
  | [] => 0
  | d :: r => uptoBulk d + uptoBulkAll r
def uptoBulkEntries {H : Type} : List (Lit × DataW H) → Nat
  | [] => 0
  | x :: r => uptoBulkEntry x + uptoBulkEntries r
def uptoBulkEntry {H : Type} : Lit × DataW H → Nat
  | (.string bytes, d) => bytes.length + uptoBulk d + 1
  | (_, d) => uptoBulk d + 1
 end
def uptoSmall : (H : Type) → List (DataW H) → Bool := fun _ ds => decide (uptoBulkAll ds ≤ 1048576)
def OpenSpec.upto (s : _root_.Go.ChangeSpec) : _root_.Go.OpenSpec := { _root_.Go.OpenSpec.ofChange s with cond := some uptoSmall }

/-- 'ballasttop.TopJournal', WHERE WHAT IT READS IS OF BULK AT MOST 1048576: true; the input reads as it did. -/
def topJournalUptoRow : OpenClaim := { program := "ytmkcpnklaijkfaa", sum := "c3214962490102fdf5df4ef2737be0e791e2e73f65c10084b1ccac06d2bc1ffe", func := "ballast/ballasttop.TopJournal", spec := "topJournal", inPlace := ["slices.overlaps[ballast/api.Dirty]"], unfollowed := true, recurses := true, apart := false, narrowed := true }
def TopJournalUptoSaid : Prop := topJournalUptoRow.holds Try.pinned (OpenSpec.upto topJournalSpec)

/-- 'ballastlaw10.ReplayImages', WHERE WHAT IT READS IS OF BULK AT MOST 1048576: true; the input reads as it did. -/
def replayImagesUptoRow : OpenClaim := { program := "ytmkcpnklaijkfaa", sum := "c3214962490102fdf5df4ef2737be0e791e2e73f65c10084b1ccac06d2bc1ffe", func := "ballast/ballastlaw10.ReplayImages", spec := "replayImages", apart := false, narrowed := true }
def ReplayImagesUptoSaid : Prop := replayImagesUptoRow.holds Try.pinned (OpenSpec.upto replayImagesSpec)

/-- 'ballastlaw10.ReplayTwice', WHERE WHAT IT READS IS OF BULK AT MOST 1048576: true; the input reads as it did. -/
def replayTwiceUptoRow : OpenClaim := { program := "ytmkcpnklaijkfaa", sum := "c3214962490102fdf5df4ef2737be0e791e2e73f65c10084b1ccac06d2bc1ffe", func := "ballast/ballastlaw10.ReplayTwice", spec := "replayTwice", apart := false, narrowed := true }
def ReplayTwiceUptoSaid : Prop := replayTwiceUptoRow.holds Try.pinned (OpenSpec.upto replayTwiceSpec)

/-- 'ballastlaw10.ReplayWords', WHERE WHAT IT READS IS OF BULK AT MOST 1048576: true; the input reads as it did. -/
def replayWordsUptoRow : OpenClaim := { program := "ytmkcpnklaijkfaa", sum := "c3214962490102fdf5df4ef2737be0e791e2e73f65c10084b1ccac06d2bc1ffe", func := "ballast/ballastlaw10.ReplayWords", spec := "replayWords", apart := false, narrowed := true }
def ReplayWordsUptoSaid : Prop := replayWordsUptoRow.holds Try.pinned (OpenSpec.upto replayWordsSpec)

/-- 'ballastlaw12.AtomicChanges', WHERE WHAT IT READS IS OF BULK AT MOST 1048576: true; the input reads as it did. -/
def atomicChangesUptoRow : OpenClaim := { program := "ytmkcpnklaijkfaa", sum := "c3214962490102fdf5df4ef2737be0e791e2e73f65c10084b1ccac06d2bc1ffe", func := "ballast/ballastlaw12.AtomicChanges", spec := "atomicChanges", inPlace := ["slices.overlaps[ballast/api.Dirty]"], unfollowed := true, recurses := true, apart := false, narrowed := true }
def AtomicChangesUptoSaid : Prop := atomicChangesUptoRow.holds Try.pinned (OpenSpec.upto atomicChangesSpec)

/-- 'ballastlaw10.ReplayDevices', WHERE WHAT IT READS IS OF BULK AT MOST 1048576: true; the input reads as it did. -/
def replayDevicesUptoRow : OpenClaim := { program := "ytmkcpnklaijkfaa", sum := "c3214962490102fdf5df4ef2737be0e791e2e73f65c10084b1ccac06d2bc1ffe", func := "ballast/ballastlaw10.ReplayDevices", spec := "replayDevices", inPlace := ["slices.overlaps[ballast/api.Dirty]"], unfollowed := true, recurses := true, apart := false, narrowed := true }
def ReplayDevicesUptoSaid : Prop := replayDevicesUptoRow.holds Try.pinned (OpenSpec.upto replayDevicesSpec)

/-- 'ballastlaw10.ReplayPut', WHERE WHAT IT READS IS OF BULK AT MOST 1048576: true; the input reads as it did. -/
def replayPutUptoRow : OpenClaim := { program := "ytmkcpnklaijkfaa", sum := "c3214962490102fdf5df4ef2737be0e791e2e73f65c10084b1ccac06d2bc1ffe", func := "ballast/ballastlaw10.ReplayPut", spec := "replayPut", inPlace := ["slices.overlaps[ballast/api.Dirty]"], unfollowed := true, recurses := true, apart := false, narrowed := true }
def ReplayPutUptoSaid : Prop := replayPutUptoRow.holds Try.pinned (OpenSpec.upto replayPutSpec)

/-- 'ballastlaw10.ReplayNames', WHERE WHAT IT READS IS OF BULK AT MOST 1048576: true; the input reads as it did. -/
def replayNamesUptoRow : OpenClaim := { program := "ytmkcpnklaijkfaa", sum := "c3214962490102fdf5df4ef2737be0e791e2e73f65c10084b1ccac06d2bc1ffe", func := "ballast/ballastlaw10.ReplayNames", spec := "replayNames", inPlace := ["slices.overlaps[ballast/api.Dirty]"], unfollowed := true, recurses := true, apart := false, narrowed := true }
def ReplayNamesUptoSaid : Prop := replayNamesUptoRow.holds Try.pinned (OpenSpec.upto replayNamesSpec)

/-- 'ballastlaw10.ReplaySame', WHERE WHAT IT READS IS OF BULK AT MOST 1048576: true; the input reads as it did. -/
def replaySameUptoRow : OpenClaim := { program := "ytmkcpnklaijkfaa", sum := "c3214962490102fdf5df4ef2737be0e791e2e73f65c10084b1ccac06d2bc1ffe", func := "ballast/ballastlaw10.ReplaySame", spec := "replaySame", inPlace := ["slices.overlaps[ballast/api.Dirty]"], unfollowed := true, recurses := true, apart := false, narrowed := true }
def ReplaySameUptoSaid : Prop := replaySameUptoRow.holds Try.pinned (OpenSpec.upto replaySameSpec)

/-- 'ballastlaw10.ReplayCrash', WHERE WHAT IT READS IS OF BULK AT MOST 1048576: true; the input reads as it did. -/
def replayCrashUptoRow : OpenClaim := { program := "ytmkcpnklaijkfaa", sum := "c3214962490102fdf5df4ef2737be0e791e2e73f65c10084b1ccac06d2bc1ffe", func := "ballast/ballastlaw10.ReplayCrash", spec := "replayCrash", inPlace := ["slices.overlaps[ballast/api.Dirty]"], unfollowed := true, recurses := true, apart := false, narrowed := true }
def ReplayCrashUptoSaid : Prop := replayCrashUptoRow.holds Try.pinned (OpenSpec.upto replayCrashSpec)

/-- 'ballastlaw12.AtomicAfter', WHERE WHAT IT READS IS OF BULK AT MOST 1048576: true; the input reads as it did. -/
def atomicAfterUptoRow : OpenClaim := { program := "ytmkcpnklaijkfaa", sum := "c3214962490102fdf5df4ef2737be0e791e2e73f65c10084b1ccac06d2bc1ffe", func := "ballast/ballastlaw12.AtomicAfter", spec := "atomicAfter", inPlace := ["slices.overlaps[ballast/api.Dirty]"], unfollowed := true, recurses := true, apart := false, narrowed := true }
def AtomicAfterUptoSaid : Prop := atomicAfterUptoRow.holds Try.pinned (OpenSpec.upto atomicAfterSpec)

/-- 'ballastlaw12.AtomicNames', WHERE WHAT IT READS IS OF BULK AT MOST 1048576: true; the input reads as it did. -/
def atomicNamesUptoRow : OpenClaim := { program := "ytmkcpnklaijkfaa", sum := "c3214962490102fdf5df4ef2737be0e791e2e73f65c10084b1ccac06d2bc1ffe", func := "ballast/ballastlaw12.AtomicNames", spec := "atomicNames", inPlace := ["slices.overlaps[ballast/api.Dirty]"], unfollowed := true, recurses := true, apart := false, narrowed := true }
def AtomicNamesUptoSaid : Prop := atomicNamesUptoRow.holds Try.pinned (OpenSpec.upto atomicNamesSpec)

/-- 'ballastlaw12.AtomicAll', WHERE WHAT IT READS IS OF BULK AT MOST 1048576: true; the input reads as it did. -/
def atomicAllUptoRow : OpenClaim := { program := "ytmkcpnklaijkfaa", sum := "c3214962490102fdf5df4ef2737be0e791e2e73f65c10084b1ccac06d2bc1ffe", func := "ballast/ballastlaw12.AtomicAll", spec := "atomicAll", inPlace := ["slices.overlaps[ballast/api.Dirty]"], unfollowed := true, recurses := true, apart := false, narrowed := true }
def AtomicAllUptoSaid : Prop := atomicAllUptoRow.holds Try.pinned (OpenSpec.upto atomicAllSpec)

/-- 'ballastlaw12.AtomicMore', WHERE WHAT IT READS IS OF BULK AT MOST 1048576: true; the input reads as it did. -/
def atomicMoreUptoRow : OpenClaim := { program := "ytmkcpnklaijkfaa", sum := "c3214962490102fdf5df4ef2737be0e791e2e73f65c10084b1ccac06d2bc1ffe", func := "ballast/ballastlaw12.AtomicMore", spec := "atomicMore", inPlace := ["slices.overlaps[ballast/api.Dirty]"], unfollowed := true, recurses := true, apart := false, narrowed := true }
def AtomicMoreUptoSaid : Prop := atomicMoreUptoRow.holds Try.pinned (OpenSpec.upto atomicMoreSpec)

/-- 'ballastlaw12.AtomicCalm', WHERE WHAT IT READS IS OF BULK AT MOST 1048576: true; the input reads as it did. -/
def atomicCalmUptoRow : OpenClaim := { program := "ytmkcpnklaijkfaa", sum := "c3214962490102fdf5df4ef2737be0e791e2e73f65c10084b1ccac06d2bc1ffe", func := "ballast/ballastlaw12.AtomicCalm", spec := "atomicCalm", inPlace := ["slices.overlaps[ballast/api.Dirty]"], unfollowed := true, recurses := true, apart := false, narrowed := true }
def AtomicCalmUptoSaid : Prop := atomicCalmUptoRow.holds Try.pinned (OpenSpec.upto atomicCalmSpec)

/-- 'ballastlaw12.AtomicTwo', WHERE WHAT IT READS IS OF BULK AT MOST 1048576: true; the input reads as it did. -/
def atomicTwoUptoRow : OpenClaim := { program := "ytmkcpnklaijkfaa", sum := "c3214962490102fdf5df4ef2737be0e791e2e73f65c10084b1ccac06d2bc1ffe", func := "ballast/ballastlaw12.AtomicTwo", spec := "atomicTwo", inPlace := ["slices.overlaps[ballast/api.Dirty]"], unfollowed := true, recurses := true, apart := false, narrowed := true }
def AtomicTwoUptoSaid : Prop := atomicTwoUptoRow.holds Try.pinned (OpenSpec.upto atomicTwoSpec)

/-- 'ballastlaw12.AtomicAgain', WHERE WHAT IT READS IS OF BULK AT MOST 1048576: true; the input reads as it did. -/
def atomicAgainUptoRow : OpenClaim := { program := "ytmkcpnklaijkfaa", sum := "c3214962490102fdf5df4ef2737be0e791e2e73f65c10084b1ccac06d2bc1ffe", func := "ballast/ballastlaw12.AtomicAgain", spec := "atomicAgain", inPlace := ["slices.overlaps[ballast/api.Dirty]"], unfollowed := true, recurses := true, apart := false, narrowed := true }
def AtomicAgainUptoSaid : Prop := atomicAgainUptoRow.holds Try.pinned (OpenSpec.upto atomicAgainSpec)

end Rows
end Go.Proofs.Ytmkcpnklaijkfaa
