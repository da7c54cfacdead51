/-
  No cell of these rows narrows 'for every input' (looked for: loops, veiled, ifaces, maps, wideKeys, modest, calm, conditions, laid).
  DERIVED. THE GIVEN ROWS OF THIS SEAT. 6 by the template 'for every input the law returns true; each argument reads behind the call as it read before'; 0 by the template 'total and deterministic' (their statements: YthoefhocecdlhaaTotals.lean).
  GIVEN WITH THE SEED: the statements are not yours to turn. If you find one false, say at which input.
  Laid BY PROGRAM, IN A SANDBOX (cutbox-rows.mjs): the forced cells as the released guide's own fill.sh prints them over the translation 429734a0ef510de7… (all of the seat's roots in one cut). By AI agents, Wed Nov 11 2026. No macro, syntax, notation, axiom, sorry.
-/
import Derived.Test.YthoefhocecdlhaaChecked
import GoSem.Claim
import GoSem.ClaimJoined
import GoSem.ClaimMapViews
import Derived.JoinedTies
import Derived.KernelRfl
namespace Go.Proofs.Ythoefhocecdlhaa
/- THE CELL 'sum', in the pinned program and in every row, IS THE sha256 OF THE DUMP (.gsa) THAT YthoefhocecdlhaaProg.lean LOADS. Nothing in Lean hashes anything: it is a label: what it is worth is what the hold of that sum in a sandbox is worth. -/
noncomputable def Try.pinned : Pinned := { name := "ythoefhocecdlhaa", sum := "429734a0ef510de73f1e0c7b264d58dce670990987741df1439a00f4dbaf4dbc", checked := Try.checked }
namespace Rows
def none {H : Type} : Left H := { results := [], args := [] }

/-- 'patchbaylaw13.MeterKnown': WHATEVER THE INPUT: true; the input reads as it did. -/
def meterKnownSpec : ChangeSpec := { name := "meterKnown", fn := fun _ => fun
  | [] => { results := [.lit (.bool true)], args := [] }
  | _ => none }
def meterKnownRow : OpenClaim := { program := "ythoefhocecdlhaa", sum := "429734a0ef510de73f1e0c7b264d58dce670990987741df1439a00f4dbaf4dbc", func := "patchbay/patchbaylaw13.MeterKnown", spec := "meterKnown", inPlace := ["sync/atomic.LoadUint64", "math/bits.Add64", "sync/atomic.CompareAndSwapUint64"], unfollowed := true, recurses := true, leaving := true, apart := false }
def MeterKnownSaid : Prop := meterKnownRow.holds Try.pinned (OpenSpec.ofChange meterKnownSpec)

/-- ITS FALSE NEIGHBOUR: 'it returns false'. Refute it at one input. -/
def meterKnownWrong : ChangeSpec := { name := "meterKnown", fn := fun _ => fun
  | [] => { results := [.lit (.bool false)], args := [] }
  | _ => none }
def MeterKnownWrongFalsely : Prop := meterKnownRow.holds Try.pinned (OpenSpec.ofChange meterKnownWrong)

/-- 'patchbaylaw13.MeterNotes': WHATEVER THE INPUT: true; the input reads as it did. -/
def meterNotesSpec : ChangeSpec := { name := "meterNotes", fn := fun _ => fun
  | [d1, d2] => { results := [.lit (.bool true)], args := [d1, d2] }
  | _ => none }
def meterNotesRow : OpenClaim := { program := "ythoefhocecdlhaa", sum := "429734a0ef510de73f1e0c7b264d58dce670990987741df1439a00f4dbaf4dbc", func := "patchbay/patchbaylaw13.MeterNotes", spec := "meterNotes", inPlace := ["sync/atomic.LoadUint64", "math/bits.Add64", "sync/atomic.CompareAndSwapUint64"], unfollowed := true, recurses := true, leaving := true, apart := false }
def MeterNotesSaid : Prop := meterNotesRow.holds Try.pinned (OpenSpec.ofChange meterNotesSpec)

/-- ITS FALSE NEIGHBOUR: 'it returns false'. Refute it at one input. -/
def meterNotesWrong : ChangeSpec := { name := "meterNotes", fn := fun _ => fun
  | [d1, d2] => { results := [.lit (.bool false)], args := [d1, d2] }
  | _ => none }
def MeterNotesWrongFalsely : Prop := meterNotesRow.holds Try.pinned (OpenSpec.ofChange meterNotesWrong)

/-- 'patchbaylaw13.MeterFree': WHATEVER THE INPUT: true; the input reads as it did. -/
def meterFreeSpec : ChangeSpec := { name := "meterFree", fn := fun _ => fun
  | [d1, d2] => { results := [.lit (.bool true)], args := [d1, d2] }
  | _ => none }
def meterFreeRow : OpenClaim := { program := "ythoefhocecdlhaa", sum := "429734a0ef510de73f1e0c7b264d58dce670990987741df1439a00f4dbaf4dbc", func := "patchbay/patchbaylaw13.MeterFree", spec := "meterFree", inPlace := ["sync/atomic.LoadUint64", "math/bits.Add64", "sync/atomic.CompareAndSwapUint64", "(*sync.WaitGroup).Add", "internal/race.ReleaseMerge", "internal/race.Disable", "internal/race.Enable", "internal/synctest.IsInBubble", "internal/synctest.Associate[sync.WaitGroup]", "sync.fatal", "sync/atomic.OrUint64", "sync/atomic.AddUint64", "internal/race.Read", "sync/atomic.StoreUint64", "internal/synctest.Disassociate[sync.WaitGroup]", "sync.runtime_Semrelease", "(*sync.WaitGroup).Done", "(*sync.WaitGroup).Wait", "internal/race.Acquire", "internal/synctest.IsAssociated[sync.WaitGroup]", "internal/race.Write", "sync.runtime_SemacquireWaitGroup"], unfollowed := true, recurses := true, leaving := true, apart := false }
def MeterFreeSaid : Prop := meterFreeRow.holds Try.pinned (OpenSpec.ofChange meterFreeSpec)

/-- ITS FALSE NEIGHBOUR: 'it returns false'. Refute it at one input. -/
def meterFreeWrong : ChangeSpec := { name := "meterFree", fn := fun _ => fun
  | [d1, d2] => { results := [.lit (.bool false)], args := [d1, d2] }
  | _ => none }
def MeterFreeWrongFalsely : Prop := meterFreeRow.holds Try.pinned (OpenSpec.ofChange meterFreeWrong)

/-- 'patchbaylaw13.MeterTurns': WHATEVER THE INPUT: true; the input reads as it did. -/
def meterTurnsSpec : ChangeSpec := { name := "meterTurns", fn := fun _ => fun
  | [d1, d2, d3] => { results := [.lit (.bool true)], args := [d1, d2, d3] }
  | _ => none }
def meterTurnsRow : OpenClaim := { program := "ythoefhocecdlhaa", sum := "429734a0ef510de73f1e0c7b264d58dce670990987741df1439a00f4dbaf4dbc", func := "patchbay/patchbaylaw13.MeterTurns", spec := "meterTurns", inPlace := ["sync/atomic.LoadUint64", "math/bits.Add64", "sync/atomic.CompareAndSwapUint64", "(*sync.WaitGroup).Add", "internal/race.ReleaseMerge", "internal/race.Disable", "internal/race.Enable", "internal/synctest.IsInBubble", "internal/synctest.Associate[sync.WaitGroup]", "sync.fatal", "sync/atomic.OrUint64", "sync/atomic.AddUint64", "internal/race.Read", "sync/atomic.StoreUint64", "internal/synctest.Disassociate[sync.WaitGroup]", "sync.runtime_Semrelease", "(*sync.WaitGroup).Done", "(*sync.WaitGroup).Wait", "internal/race.Acquire", "internal/synctest.IsAssociated[sync.WaitGroup]", "internal/race.Write", "sync.runtime_SemacquireWaitGroup"], unfollowed := true, recurses := true, leaving := true, apart := false }
def MeterTurnsSaid : Prop := meterTurnsRow.holds Try.pinned (OpenSpec.ofChange meterTurnsSpec)

/-- ITS FALSE NEIGHBOUR: 'it returns false'. Refute it at one input. -/
def meterTurnsWrong : ChangeSpec := { name := "meterTurns", fn := fun _ => fun
  | [d1, d2, d3] => { results := [.lit (.bool false)], args := [d1, d2, d3] }
  | _ => none }
def MeterTurnsWrongFalsely : Prop := meterTurnsRow.holds Try.pinned (OpenSpec.ofChange meterTurnsWrong)

/-- 'patchbaylaw13.MeterOne': WHATEVER THE INPUT: true; the input reads as it did. -/
def meterOneSpec : ChangeSpec := { name := "meterOne", fn := fun _ => fun
  | [d1, d2, d3] => { results := [.lit (.bool true)], args := [d1, d2, d3] }
  | _ => none }
def meterOneRow : OpenClaim := { program := "ythoefhocecdlhaa", sum := "429734a0ef510de73f1e0c7b264d58dce670990987741df1439a00f4dbaf4dbc", func := "patchbay/patchbaylaw13.MeterOne", spec := "meterOne", inPlace := ["sync/atomic.LoadUint64", "math/bits.Add64", "sync/atomic.CompareAndSwapUint64", "(*sync.WaitGroup).Add", "internal/race.ReleaseMerge", "internal/race.Disable", "internal/race.Enable", "internal/synctest.IsInBubble", "internal/synctest.Associate[sync.WaitGroup]", "sync.fatal", "sync/atomic.OrUint64", "sync/atomic.AddUint64", "internal/race.Read", "sync/atomic.StoreUint64", "internal/synctest.Disassociate[sync.WaitGroup]", "sync.runtime_Semrelease", "(*sync.WaitGroup).Done", "(*sync.WaitGroup).Wait", "internal/race.Acquire", "internal/synctest.IsAssociated[sync.WaitGroup]", "internal/race.Write", "sync.runtime_SemacquireWaitGroup"], unfollowed := true, recurses := true, leaving := true, apart := false }
def MeterOneSaid : Prop := meterOneRow.holds Try.pinned (OpenSpec.ofChange meterOneSpec)

/-- ITS FALSE NEIGHBOUR: 'it returns false'. Refute it at one input. -/
def meterOneWrong : ChangeSpec := { name := "meterOne", fn := fun _ => fun
  | [d1, d2, d3] => { results := [.lit (.bool false)], args := [d1, d2, d3] }
  | _ => none }
def MeterOneWrongFalsely : Prop := meterOneRow.holds Try.pinned (OpenSpec.ofChange meterOneWrong)

/-- 'patchbaylaw13.MeterPlays': WHATEVER THE INPUT: true; the input reads as it did. -/
def meterPlaysSpec : ChangeSpec := { name := "meterPlays", fn := fun _ => fun
  | [d1, d2, d3] => { results := [.lit (.bool true)], args := [d1, d2, d3] }
  | _ => none }
def meterPlaysRow : OpenClaim := { program := "ythoefhocecdlhaa", sum := "429734a0ef510de73f1e0c7b264d58dce670990987741df1439a00f4dbaf4dbc", func := "patchbay/patchbaylaw13.MeterPlays", spec := "meterPlays", inPlace := ["sync/atomic.LoadUint64", "math/bits.Add64", "sync/atomic.CompareAndSwapUint64", "(*sync.WaitGroup).Add", "internal/race.ReleaseMerge", "internal/race.Disable", "internal/race.Enable", "internal/synctest.IsInBubble", "internal/synctest.Associate[sync.WaitGroup]", "sync.fatal", "sync/atomic.OrUint64", "sync/atomic.AddUint64", "internal/race.Read", "sync/atomic.StoreUint64", "internal/synctest.Disassociate[sync.WaitGroup]", "sync.runtime_Semrelease", "(*sync.WaitGroup).Done", "(*sync.WaitGroup).Wait", "internal/race.Acquire", "internal/synctest.IsAssociated[sync.WaitGroup]", "internal/race.Write", "sync.runtime_SemacquireWaitGroup"], unfollowed := true, recurses := true, leaving := true, apart := false }
def MeterPlaysSaid : Prop := meterPlaysRow.holds Try.pinned (OpenSpec.ofChange meterPlaysSpec)

/-- ITS FALSE NEIGHBOUR: 'it returns false'. Refute it at one input. -/
def meterPlaysWrong : ChangeSpec := { name := "meterPlays", fn := fun _ => fun
  | [d1, d2, d3] => { results := [.lit (.bool false)], args := [d1, d2, d3] }
  | _ => none }
def MeterPlaysWrongFalsely : Prop := meterPlaysRow.holds Try.pinned (OpenSpec.ofChange meterPlaysWrong)

/- THE SECOND FORM. 'bulk': how many values and letters a reading holds, each counted each time it is reached (what is shared counts as often as it is met; a slice's spare places count too). A statement '..UptoSaid' is the law's where the arguments, and the package variables that the reading takes, are together of bulk at most 1048576: NARROWER than '..Said'. Prove '..Said' where nothing that the law and all that it calls make is longer than what came in: it says more and counts as full. Else prove '..UptoSaid'. A law counts once. -/
mutual
def uptoBulk {H : Type} : DataW H → Nat
  | .lit (.string bytes) => bytes.length + 1
  | .lit _ => 1
  | .nil => 1
  | .ptr d => uptoBulk d + 1
  | .slice elems spare => uptoBulkAll elems + uptoBulkAll spare + 1
  | .agg parts => uptoBulkAll parts + 1
  | .iface _ d => uptoBulk d + 1
  | .map entries => uptoBulkEntries entries + 1
  | .held _ => 1
def uptoBulkAll {H : Type} : List (DataW H) → Nat
  | [] => 0
  | d :: r => uptoBulk d + uptoBulkAll r
def uptoBulkEntries {H : Type} : List (Lit × DataW H) → Nat
  | [] => 0
  | x :: r => uptoBulkEntry x + uptoBulkEntries r
def uptoBulkEntry {H : Type} : Lit × DataW H → Nat
  | (.string bytes, d) => bytes.length + uptoBulk d + 1
  | (_, d) => uptoBulk d + 1
 end
def uptoSmall : (H : Type) → List (DataW H) → Bool := fun _ ds => decide (uptoBulkAll ds ≤ 1048576)
def OpenSpec.upto (s : _root_.Go.ChangeSpec) : _root_.Go.OpenSpec := { _root_.Go.OpenSpec.ofChange s with cond := some uptoSmall }

/-- 'patchbaylaw13.MeterKnown', WHERE WHAT IT READS IS OF BULK AT MOST 1048576: true; the input reads as it did. -/
def meterKnownUptoRow : OpenClaim := { program := "ythoefhocecdlhaa", sum := "429734a0ef510de73f1e0c7b264d58dce670990987741df1439a00f4dbaf4dbc", func := "patchbay/patchbaylaw13.MeterKnown", spec := "meterKnown", inPlace := ["sync/atomic.LoadUint64", "math/bits.Add64", "sync/atomic.CompareAndSwapUint64"], unfollowed := true, recurses := true, leaving := true, apart := false, narrowed := true }
def MeterKnownUptoSaid : Prop := meterKnownUptoRow.holds Try.pinned (OpenSpec.upto meterKnownSpec)

/-- 'patchbaylaw13.MeterNotes', WHERE WHAT IT READS IS OF BULK AT MOST 1048576: true; the input reads as it did. -/
def meterNotesUptoRow : OpenClaim := { program := "ythoefhocecdlhaa", sum := "429734a0ef510de73f1e0c7b264d58dce670990987741df1439a00f4dbaf4dbc", func := "patchbay/patchbaylaw13.MeterNotes", spec := "meterNotes", inPlace := ["sync/atomic.LoadUint64", "math/bits.Add64", "sync/atomic.CompareAndSwapUint64"], unfollowed := true, recurses := true, leaving := true, apart := false, narrowed := true }
def MeterNotesUptoSaid : Prop := meterNotesUptoRow.holds Try.pinned (OpenSpec.upto meterNotesSpec)

/-- 'patchbaylaw13.MeterFree', WHERE WHAT IT READS IS OF BULK AT MOST 1048576: true; the input reads as it did. -/
def meterFreeUptoRow : OpenClaim := { program := "ythoefhocecdlhaa", sum := "429734a0ef510de73f1e0c7b264d58dce670990987741df1439a00f4dbaf4dbc", func := "patchbay/patchbaylaw13.MeterFree", spec := "meterFree", inPlace := ["sync/atomic.LoadUint64", "math/bits.Add64", "sync/atomic.CompareAndSwapUint64", "(*sync.WaitGroup).Add", "internal/race.ReleaseMerge", "internal/race.Disable", "internal/race.Enable", "internal/synctest.IsInBubble", "internal/synctest.Associate[sync.WaitGroup]", "sync.fatal", "sync/atomic.OrUint64", "sync/atomic.AddUint64", "internal/race.Read", "sync/atomic.StoreUint64", "internal/synctest.Disassociate[sync.WaitGroup]", "sync.runtime_Semrelease", "(*sync.WaitGroup).Done", "(*sync.WaitGroup).Wait", "internal/race.Acquire", "internal/synctest.IsAssociated[sync.WaitGroup]", "internal/race.Write", "sync.runtime_SemacquireWaitGroup"], unfollowed := true, recurses := true, leaving := true, apart := false, narrowed := true }
def MeterFreeUptoSaid : Prop := meterFreeUptoRow.holds Try.pinned (OpenSpec.upto meterFreeSpec)

/-- 'patchbaylaw13.MeterTurns', WHERE WHAT IT READS IS OF BULK AT MOST 1048576: true; the input reads as it did. -/
def meterTurnsUptoRow : OpenClaim := { program := "ythoefhocecdlhaa", sum := "429734a0ef510de73f1e0c7b264d58dce670990987741df1439a00f4dbaf4dbc", func := "patchbay/patchbaylaw13.MeterTurns", spec := "meterTurns", inPlace := ["sync/atomic.LoadUint64", "math/bits.Add64", "sync/atomic.CompareAndSwapUint64", "(*sync.WaitGroup).Add", "internal/race.ReleaseMerge", "internal/race.Disable", "internal/race.Enable", "internal/synctest.IsInBubble", "internal/synctest.Associate[sync.WaitGroup]", "sync.fatal", "sync/atomic.OrUint64", "sync/atomic.AddUint64", "internal/race.Read", "sync/atomic.StoreUint64", "internal/synctest.Disassociate[sync.WaitGroup]", "sync.runtime_Semrelease", "(*sync.WaitGroup).Done", "(*sync.WaitGroup).Wait", "internal/race.Acquire", "internal/synctest.IsAssociated[sync.WaitGroup]", "internal/race.Write", "sync.runtime_SemacquireWaitGroup"], unfollowed := true, recurses := true, leaving := true, apart := false, narrowed := true }
def MeterTurnsUptoSaid : Prop := meterTurnsUptoRow.holds Try.pinned (OpenSpec.upto meterTurnsSpec)

/-- 'patchbaylaw13.MeterOne', WHERE WHAT IT READS IS OF BULK AT MOST 1048576: true; the input reads as it did. -/
def meterOneUptoRow : OpenClaim := { program := "ythoefhocecdlhaa", sum := "429734a0ef510de73f1e0c7b264d58dce670990987741df1439a00f4dbaf4dbc", func := "patchbay/patchbaylaw13.MeterOne", spec := "meterOne", inPlace := ["sync/atomic.LoadUint64", "math/bits.Add64", "sync/atomic.CompareAndSwapUint64", "(*sync.WaitGroup).Add", "internal/race.ReleaseMerge", "internal/race.Disable", "internal/race.Enable", "internal/synctest.IsInBubble", "internal/synctest.Associate[sync.WaitGroup]", "sync.fatal", "sync/atomic.OrUint64", "sync/atomic.AddUint64", "internal/race.Read", "sync/atomic.StoreUint64", "internal/synctest.Disassociate[sync.WaitGroup]", "sync.runtime_Semrelease", "(*sync.WaitGroup).Done", "(*sync.WaitGroup).Wait", "internal/race.Acquire", "internal/synctest.IsAssociated[sync.WaitGroup]", "internal/race.Write", "sync.runtime_SemacquireWaitGroup"], unfollowed := true, recurses := true, leaving := true, apart := false, narrowed := true }
def MeterOneUptoSaid : Prop := meterOneUptoRow.holds Try.pinned (OpenSpec.upto meterOneSpec)

/-- 'patchbaylaw13.MeterPlays', WHERE WHAT IT READS IS OF BULK AT MOST 1048576: true; the input reads as it did. -/
def meterPlaysUptoRow : OpenClaim := { program := "ythoefhocecdlhaa", sum := "429734a0ef510de73f1e0c7b264d58dce670990987741df1439a00f4dbaf4dbc", func := "patchbay/patchbaylaw13.MeterPlays", spec := "meterPlays", inPlace := ["sync/atomic.LoadUint64", "math/bits.Add64", "sync/atomic.CompareAndSwapUint64", "(*sync.WaitGroup).Add", "internal/race.ReleaseMerge", "internal/race.Disable", "internal/race.Enable", "internal/synctest.IsInBubble", "internal/synctest.Associate[sync.WaitGroup]", "sync.fatal", "sync/atomic.OrUint64", "sync/atomic.AddUint64", "internal/race.Read", "sync/atomic.StoreUint64", "internal/synctest.Disassociate[sync.WaitGroup]", "sync.runtime_Semrelease", "(*sync.WaitGroup).Done", "(*sync.WaitGroup).Wait", "internal/race.Acquire", "internal/synctest.IsAssociated[sync.WaitGroup]", "internal/race.Write", "sync.runtime_SemacquireWaitGroup"], unfollowed := true, recurses := true, leaving := true, apart := false, narrowed := true }
def MeterPlaysUptoSaid : Prop := meterPlaysUptoRow.holds Try.pinned (OpenSpec.upto meterPlaysSpec)

end Rows
end Go.Proofs.Ythoefhocecdlhaa
