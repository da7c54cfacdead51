/-
  No cell of these rows narrows 'for every input' (looked for: loops, veiled, ifaces, maps, wideKeys, modest, calm, conditions, laid).
  DERIVED. THE GIVEN ROWS OF THIS SEAT. 5 by the template 'for every input the law returns true; each argument reads behind the call as it read before'; 0 by the template 'total and deterministic' (their statements: YtmkkanmkjfnpdaaTotals.lean).
  GIVEN WITH THE SEED: the statements are not yours to turn. If you find one false, say at which input.
  Laid BY PROGRAM, IN A SANDBOX (cutbox-rows.mjs): the forced cells as the released guide's own fill.sh prints them over the translation 673a6e152b2a3324… (all of the seat's roots in one cut). By AI agents, Wed Nov 11 2026. No macro, syntax, notation, axiom, sorry.
-/
import Derived.Test.YtmkkanmkjfnpdaaChecked
import GoSem.Claim
import GoSem.ClaimJoined
import GoSem.ClaimMapViews
import Derived.JoinedTies
import Derived.KernelRfl
namespace Go.Proofs.Ytmkkanmkjfnpdaa
/- THE CELL 'sum', in the pinned program and in every row, IS THE sha256 OF THE DUMP (.gsa) THAT YtmkkanmkjfnpdaaProg.lean LOADS. Nothing in Lean hashes anything: it is a label: what it is worth is what the hold of that sum in a sandbox is worth. -/
noncomputable def Try.pinned : Pinned := { name := "ytmkkanmkjfnpdaa", sum := "673a6e152b2a332448b590b2f317f304145f350054cdf9ede206b23225dd4258", checked := Try.checked }
namespace Rows
def none {H : Type} : Left H := { results := [], args := [] }

/-- 'patchbaylaw23.MirrorNotes': WHATEVER THE INPUT: true; the input reads as it did. -/
def mirrorNotesSpec : ChangeSpec := { name := "mirrorNotes", fn := fun _ => fun
  | [d1, d2] => { results := [.lit (.bool true)], args := [d1, d2] }
  | _ => none }
def mirrorNotesRow : OpenClaim := { program := "ytmkkanmkjfnpdaa", sum := "673a6e152b2a332448b590b2f317f304145f350054cdf9ede206b23225dd4258", func := "patchbay/patchbaylaw23.MirrorNotes", spec := "mirrorNotes", inPlace := ["sync/atomic.StoreUint64", "sync/atomic.AddUint64", "sync/atomic.LoadUint64", "sync/atomic.CompareAndSwapUint64"], unfollowed := true, recurses := true, leaving := true, apart := false }
def MirrorNotesSaid : Prop := mirrorNotesRow.holds Try.pinned (OpenSpec.ofChange mirrorNotesSpec)

/-- ITS FALSE NEIGHBOUR: 'it returns false'. Refute it at one input. -/
def mirrorNotesWrong : ChangeSpec := { name := "mirrorNotes", fn := fun _ => fun
  | [d1, d2] => { results := [.lit (.bool false)], args := [d1, d2] }
  | _ => none }
def MirrorNotesWrongFalsely : Prop := mirrorNotesRow.holds Try.pinned (OpenSpec.ofChange mirrorNotesWrong)

/-- 'patchbaylaw23.MirrorKnown': WHATEVER THE INPUT: true; the input reads as it did. -/
def mirrorKnownSpec : ChangeSpec := { name := "mirrorKnown", fn := fun _ => fun
  | [] => { results := [.lit (.bool true)], args := [] }
  | _ => none }
def mirrorKnownRow : OpenClaim := { program := "ytmkkanmkjfnpdaa", sum := "673a6e152b2a332448b590b2f317f304145f350054cdf9ede206b23225dd4258", func := "patchbay/patchbaylaw23.MirrorKnown", spec := "mirrorKnown", inPlace := ["sync/atomic.AddUint64", "sync/atomic.LoadUint64", "sync/atomic.CompareAndSwapUint64", "sync/atomic.StoreUint64"], unfollowed := true, recurses := true, leaving := true, apart := false }
def MirrorKnownSaid : Prop := mirrorKnownRow.holds Try.pinned (OpenSpec.ofChange mirrorKnownSpec)

/-- ITS FALSE NEIGHBOUR: 'it returns false'. Refute it at one input. -/
def mirrorKnownWrong : ChangeSpec := { name := "mirrorKnown", fn := fun _ => fun
  | [] => { results := [.lit (.bool false)], args := [] }
  | _ => none }
def MirrorKnownWrongFalsely : Prop := mirrorKnownRow.holds Try.pinned (OpenSpec.ofChange mirrorKnownWrong)

/-- 'patchbaylaw23.MirrorStill': WHATEVER THE INPUT: true; the input reads as it did. -/
def mirrorStillSpec : ChangeSpec := { name := "mirrorStill", fn := fun _ => fun
  | [d] => { results := [.lit (.bool true)], args := [d] }
  | _ => none }
def mirrorStillRow : OpenClaim := { program := "ytmkkanmkjfnpdaa", sum := "673a6e152b2a332448b590b2f317f304145f350054cdf9ede206b23225dd4258", func := "patchbay/patchbaylaw23.MirrorStill", spec := "mirrorStill", inPlace := ["sync/atomic.StoreUint64", "sync/atomic.AddUint64", "sync/atomic.LoadUint64", "sync/atomic.CompareAndSwapUint64", "(*sync.WaitGroup).Add", "internal/race.ReleaseMerge", "internal/race.Disable", "internal/race.Enable", "internal/synctest.IsInBubble", "internal/synctest.Associate[sync.WaitGroup]", "sync.fatal", "sync/atomic.OrUint64", "internal/race.Read", "internal/synctest.Disassociate[sync.WaitGroup]", "sync.runtime_Semrelease", "(*sync.WaitGroup).Done", "(*sync.WaitGroup).Wait", "internal/race.Acquire", "internal/synctest.IsAssociated[sync.WaitGroup]", "internal/race.Write", "sync.runtime_SemacquireWaitGroup"], unfollowed := true, recurses := true, leaving := true, apart := false }
def MirrorStillSaid : Prop := mirrorStillRow.holds Try.pinned (OpenSpec.ofChange mirrorStillSpec)

/-- ITS FALSE NEIGHBOUR: 'it returns false'. Refute it at one input. -/
def mirrorStillWrong : ChangeSpec := { name := "mirrorStill", fn := fun _ => fun
  | [d] => { results := [.lit (.bool false)], args := [d] }
  | _ => none }
def MirrorStillWrongFalsely : Prop := mirrorStillRow.holds Try.pinned (OpenSpec.ofChange mirrorStillWrong)

/-- 'patchbaylaw23.MirrorPlays': WHATEVER THE INPUT: true; the input reads as it did. -/
def mirrorPlaysSpec : ChangeSpec := { name := "mirrorPlays", fn := fun _ => fun
  | [d1, d2, d3] => { results := [.lit (.bool true)], args := [d1, d2, d3] }
  | _ => none }
def mirrorPlaysRow : OpenClaim := { program := "ytmkkanmkjfnpdaa", sum := "673a6e152b2a332448b590b2f317f304145f350054cdf9ede206b23225dd4258", func := "patchbay/patchbaylaw23.MirrorPlays", spec := "mirrorPlays", inPlace := ["sync/atomic.StoreUint64", "sync/atomic.AddUint64", "sync/atomic.LoadUint64", "sync/atomic.CompareAndSwapUint64", "(*sync.WaitGroup).Add", "internal/race.ReleaseMerge", "internal/race.Disable", "internal/race.Enable", "internal/synctest.IsInBubble", "internal/synctest.Associate[sync.WaitGroup]", "sync.fatal", "sync/atomic.OrUint64", "internal/race.Read", "internal/synctest.Disassociate[sync.WaitGroup]", "sync.runtime_Semrelease", "(*sync.WaitGroup).Done", "(*sync.WaitGroup).Wait", "internal/race.Acquire", "internal/synctest.IsAssociated[sync.WaitGroup]", "internal/race.Write", "sync.runtime_SemacquireWaitGroup"], unfollowed := true, recurses := true, leaving := true, apart := false }
def MirrorPlaysSaid : Prop := mirrorPlaysRow.holds Try.pinned (OpenSpec.ofChange mirrorPlaysSpec)

/-- ITS FALSE NEIGHBOUR: 'it returns false'. Refute it at one input. -/
def mirrorPlaysWrong : ChangeSpec := { name := "mirrorPlays", fn := fun _ => fun
  | [d1, d2, d3] => { results := [.lit (.bool false)], args := [d1, d2, d3] }
  | _ => none }
def MirrorPlaysWrongFalsely : Prop := mirrorPlaysRow.holds Try.pinned (OpenSpec.ofChange mirrorPlaysWrong)

/-- 'patchbaylaw23.MirrorTurns': WHATEVER THE INPUT: true; the input reads as it did. -/
def mirrorTurnsSpec : ChangeSpec := { name := "mirrorTurns", fn := fun _ => fun
  | [d1, d2] => { results := [.lit (.bool true)], args := [d1, d2] }
  | _ => none }
def mirrorTurnsRow : OpenClaim := { program := "ytmkkanmkjfnpdaa", sum := "673a6e152b2a332448b590b2f317f304145f350054cdf9ede206b23225dd4258", func := "patchbay/patchbaylaw23.MirrorTurns", spec := "mirrorTurns", inPlace := ["sync/atomic.StoreUint64", "sync/atomic.AddUint64", "sync/atomic.LoadUint64", "sync/atomic.CompareAndSwapUint64", "(*sync.WaitGroup).Add", "internal/race.ReleaseMerge", "internal/race.Disable", "internal/race.Enable", "internal/synctest.IsInBubble", "internal/synctest.Associate[sync.WaitGroup]", "sync.fatal", "sync/atomic.OrUint64", "internal/race.Read", "internal/synctest.Disassociate[sync.WaitGroup]", "sync.runtime_Semrelease", "(*sync.WaitGroup).Done", "(*sync.WaitGroup).Wait", "internal/race.Acquire", "internal/synctest.IsAssociated[sync.WaitGroup]", "internal/race.Write", "sync.runtime_SemacquireWaitGroup"], unfollowed := true, recurses := true, leaving := true, apart := false }
def MirrorTurnsSaid : Prop := mirrorTurnsRow.holds Try.pinned (OpenSpec.ofChange mirrorTurnsSpec)

/-- ITS FALSE NEIGHBOUR: 'it returns false'. Refute it at one input. -/
def mirrorTurnsWrong : ChangeSpec := { name := "mirrorTurns", fn := fun _ => fun
  | [d1, d2] => { results := [.lit (.bool false)], args := [d1, d2] }
  | _ => none }
def MirrorTurnsWrongFalsely : Prop := mirrorTurnsRow.holds Try.pinned (OpenSpec.ofChange mirrorTurnsWrong)

/- THE SECOND FORM. 'bulk': how many values and letters a reading holds, each counted each time it is reached (what is shared counts as often as it is met; a slice's spare places count too). A statement '..UptoSaid' is the law's where the arguments, and the package variables that the reading takes, are together of bulk at most 1048576: NARROWER than '..Said'. Prove '..Said' where nothing that the law and all that it calls make is longer than what came in: it says more and counts as full. Else prove '..UptoSaid'. A law counts once. -/
mutual
def uptoBulk {H : Type} : DataW H → Nat
  | .lit (.string bytes) => bytes.length + 1
  | .lit _ => 1
  | .nil => 1
  | .ptr d => uptoBulk d + 1
  | .slice elems spare => uptoBulkAll elems + uptoBulkAll spare + 1
  | .agg parts => uptoBulkAll parts + 1
  | .iface _ d => uptoBulk d + 1
  | .map entries => uptoBulkEntries entries + 1
  | .held _ => 1
def uptoBulkAll {H : Type} : List (DataW H) → Nat
  | [] => 0
  | d :: r => uptoBulk d + uptoBulkAll r
def uptoBulkEntries {H : Type} : List (Lit × DataW H) → Nat
  | [] => 0
  | x :: r => uptoBulkEntry x + uptoBulkEntries r
def uptoBulkEntry {H : Type} : Lit × DataW H → Nat
  | (.string bytes, d) => bytes.length + uptoBulk d + 1
  | (_, d) => uptoBulk d + 1
 end
def uptoSmall : (H : Type) → List (DataW H) → Bool := fun _ ds => decide (uptoBulkAll ds ≤ 1048576)
def OpenSpec.upto (s : _root_.Go.ChangeSpec) : _root_.Go.OpenSpec := { _root_.Go.OpenSpec.ofChange s with cond := some uptoSmall }

/-- 'patchbaylaw23.MirrorNotes', WHERE WHAT IT READS IS OF BULK AT MOST 1048576: true; the input reads as it did. -/
def mirrorNotesUptoRow : OpenClaim := { program := "ytmkkanmkjfnpdaa", sum := "673a6e152b2a332448b590b2f317f304145f350054cdf9ede206b23225dd4258", func := "patchbay/patchbaylaw23.MirrorNotes", spec := "mirrorNotes", inPlace := ["sync/atomic.StoreUint64", "sync/atomic.AddUint64", "sync/atomic.LoadUint64", "sync/atomic.CompareAndSwapUint64"], unfollowed := true, recurses := true, leaving := true, apart := false, narrowed := true }
def MirrorNotesUptoSaid : Prop := mirrorNotesUptoRow.holds Try.pinned (OpenSpec.upto mirrorNotesSpec)

/-- 'patchbaylaw23.MirrorKnown', WHERE WHAT IT READS IS OF BULK AT MOST 1048576: true; the input reads as it did. -/
def mirrorKnownUptoRow : OpenClaim := { program := "ytmkkanmkjfnpdaa", sum := "673a6e152b2a332448b590b2f317f304145f350054cdf9ede206b23225dd4258", func := "patchbay/patchbaylaw23.MirrorKnown", spec := "mirrorKnown", inPlace := ["sync/atomic.AddUint64", "sync/atomic.LoadUint64", "sync/atomic.CompareAndSwapUint64", "sync/atomic.StoreUint64"], unfollowed := true, recurses := true, leaving := true, apart := false, narrowed := true }
def MirrorKnownUptoSaid : Prop := mirrorKnownUptoRow.holds Try.pinned (OpenSpec.upto mirrorKnownSpec)

/-- 'patchbaylaw23.MirrorStill', WHERE WHAT IT READS IS OF BULK AT MOST 1048576: true; the input reads as it did. -/
def mirrorStillUptoRow : OpenClaim := { program := "ytmkkanmkjfnpdaa", sum := "673a6e152b2a332448b590b2f317f304145f350054cdf9ede206b23225dd4258", func := "patchbay/patchbaylaw23.MirrorStill", spec := "mirrorStill", inPlace := ["sync/atomic.StoreUint64", "sync/atomic.AddUint64", "sync/atomic.LoadUint64", "sync/atomic.CompareAndSwapUint64", "(*sync.WaitGroup).Add", "internal/race.ReleaseMerge", "internal/race.Disable", "internal/race.Enable", "internal/synctest.IsInBubble", "internal/synctest.Associate[sync.WaitGroup]", "sync.fatal", "sync/atomic.OrUint64", "internal/race.Read", "internal/synctest.Disassociate[sync.WaitGroup]", "sync.runtime_Semrelease", "(*sync.WaitGroup).Done", "(*sync.WaitGroup).Wait", "internal/race.Acquire", "internal/synctest.IsAssociated[sync.WaitGroup]", "internal/race.Write", "sync.runtime_SemacquireWaitGroup"], unfollowed := true, recurses := true, leaving := true, apart := false, narrowed := true }
def MirrorStillUptoSaid : Prop := mirrorStillUptoRow.holds Try.pinned (OpenSpec.upto mirrorStillSpec)

/-- 'patchbaylaw23.MirrorPlays', WHERE WHAT IT READS IS OF BULK AT MOST 1048576: true; the input reads as it did. -/
def mirrorPlaysUptoRow : OpenClaim := { program := "ytmkkanmkjfnpdaa", sum := "673a6e152b2a332448b590b2f317f304145f350054cdf9ede206b23225dd4258", func := "patchbay/patchbaylaw23.MirrorPlays", spec := "mirrorPlays", inPlace := ["sync/atomic.StoreUint64", "sync/atomic.AddUint64", "sync/atomic.LoadUint64", "sync/atomic.CompareAndSwapUint64", "(*sync.WaitGroup).Add", "internal/race.ReleaseMerge", "internal/race.Disable", "internal/race.Enable", "internal/synctest.IsInBubble", "internal/synctest.Associate[sync.WaitGroup]", "sync.fatal", "sync/atomic.OrUint64", "internal/race.Read", "internal/synctest.Disassociate[sync.WaitGroup]", "sync.runtime_Semrelease", "(*sync.WaitGroup).Done", "(*sync.WaitGroup).Wait", "internal/race.Acquire", "internal/synctest.IsAssociated[sync.WaitGroup]", "internal/race.Write", "sync.runtime_SemacquireWaitGroup"], unfollowed := true, recurses := true, leaving := true, apart := false, narrowed := true }
def MirrorPlaysUptoSaid : Prop := mirrorPlaysUptoRow.holds Try.pinned (OpenSpec.upto mirrorPlaysSpec)

/-- 'patchbaylaw23.MirrorTurns', WHERE WHAT IT READS IS OF BULK AT MOST 1048576: true; the input reads as it did. -/
def mirrorTurnsUptoRow : OpenClaim := { program := "ytmkkanmkjfnpdaa", sum := "673a6e152b2a332448b590b2f317f304145f350054cdf9ede206b23225dd4258", func := "patchbay/patchbaylaw23.MirrorTurns", spec := "mirrorTurns", inPlace := ["sync/atomic.StoreUint64", "sync/atomic.AddUint64", "sync/atomic.LoadUint64", "sync/atomic.CompareAndSwapUint64", "(*sync.WaitGroup).Add", "internal/race.ReleaseMerge", "internal/race.Disable", "internal/race.Enable", "internal/synctest.IsInBubble", "internal/synctest.Associate[sync.WaitGroup]", "sync.fatal", "sync/atomic.OrUint64", "internal/race.Read", "internal/synctest.Disassociate[sync.WaitGroup]", "sync.runtime_Semrelease", "(*sync.WaitGroup).Done", "(*sync.WaitGroup).Wait", "internal/race.Acquire", "internal/synctest.IsAssociated[sync.WaitGroup]", "internal/race.Write", "sync.runtime_SemacquireWaitGroup"], unfollowed := true, recurses := true, leaving := true, apart := false, narrowed := true }
def MirrorTurnsUptoSaid : Prop := mirrorTurnsUptoRow.holds Try.pinned (OpenSpec.upto mirrorTurnsSpec)

end Rows
end Go.Proofs.Ytmkkanmkjfnpdaa
