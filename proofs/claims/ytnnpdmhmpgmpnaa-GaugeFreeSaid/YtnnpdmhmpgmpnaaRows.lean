/-
  No cell of these rows narrows 'for every input' (looked for: loops, veiled, ifaces, maps, wideKeys, modest, calm, conditions, laid).
  DERIVED. THE GIVEN ROWS OF THIS SEAT. 7 by the template 'for every input the law returns true; each argument reads behind the call as it read before'; 0 by the template 'total and deterministic' (their statements: YtnnpdmhmpgmpnaaTotals.lean).
  GIVEN WITH THE SEED: the statements are not yours to turn. If you find one false, say at which input.
  Laid BY PROGRAM, IN A SANDBOX (cutbox-rows.mjs): the forced cells as the released guide's own fill.sh prints them over the translation 0b8f6c6421b4fbfd… (all of the seat's roots in one cut). By AI agents, Wed Nov 11 2026. No macro, syntax, notation, axiom, sorry.
-/
import Derived.Test.YtnnpdmhmpgmpnaaChecked
import GoSem.Claim
import GoSem.ClaimJoined
import GoSem.ClaimMapViews
import Derived.JoinedTies
import Derived.KernelRfl
namespace Go.Proofs.Ytnnpdmhmpgmpnaa
/- THE CELL 'sum', in the pinned program and in every row, IS THE sha256 OF THE DUMP (.gsa) THAT YtnnpdmhmpgmpnaaProg.lean LOADS. Nothing in Lean hashes anything: it is a label: what it is worth is what the hold of that sum in a sandbox is worth. -/
noncomputable def Try.pinned : Pinned := { name := "ytnnpdmhmpgmpnaa", sum := "0b8f6c6421b4fbfde554332a15a60d317932e8a423f808c5343a165b584ea0f9", checked := Try.checked }
namespace Rows
def none {H : Type} : Left H := { results := [], args := [] }

/-- 'patchbaylaw14.GaugeBreakerAlone': WHATEVER THE INPUT: true; the input reads as it did. -/
def gaugeBreakerAloneSpec : ChangeSpec := { name := "gaugeBreakerAlone", fn := fun _ => fun
  | [d1, d2, d3] => { results := [.lit (.bool true)], args := [d1, d2, d3] }
  | _ => none }
def gaugeBreakerAloneRow : OpenClaim := { program := "ytnnpdmhmpgmpnaa", sum := "0b8f6c6421b4fbfde554332a15a60d317932e8a423f808c5343a165b584ea0f9", func := "patchbay/patchbaylaw14.GaugeBreakerAlone", spec := "gaugeBreakerAlone", inPlace := ["sync/atomic.LoadUint64", "sync/atomic.CompareAndSwapUint64"], unfollowed := true, recurses := true, leaving := true, apart := false }
def GaugeBreakerAloneSaid : Prop := gaugeBreakerAloneRow.holds Try.pinned (OpenSpec.ofChange gaugeBreakerAloneSpec)

/-- ITS FALSE NEIGHBOUR: 'it returns false'. Refute it at one input. -/
def gaugeBreakerAloneWrong : ChangeSpec := { name := "gaugeBreakerAlone", fn := fun _ => fun
  | [d1, d2, d3] => { results := [.lit (.bool false)], args := [d1, d2, d3] }
  | _ => none }
def GaugeBreakerAloneWrongFalsely : Prop := gaugeBreakerAloneRow.holds Try.pinned (OpenSpec.ofChange gaugeBreakerAloneWrong)

/-- 'patchbaylaw14.GaugeNews': WHATEVER THE INPUT: true; the input reads as it did. -/
def gaugeNewsSpec : ChangeSpec := { name := "gaugeNews", fn := fun _ => fun
  | [d1, d2, d3] => { results := [.lit (.bool true)], args := [d1, d2, d3] }
  | _ => none }
def gaugeNewsRow : OpenClaim := { program := "ytnnpdmhmpgmpnaa", sum := "0b8f6c6421b4fbfde554332a15a60d317932e8a423f808c5343a165b584ea0f9", func := "patchbay/patchbaylaw14.GaugeNews", spec := "gaugeNews", inPlace := ["sync/atomic.LoadUint64", "sync/atomic.CompareAndSwapUint64"], unfollowed := true, recurses := true, leaving := true, apart := false }
def GaugeNewsSaid : Prop := gaugeNewsRow.holds Try.pinned (OpenSpec.ofChange gaugeNewsSpec)

/-- ITS FALSE NEIGHBOUR: 'it returns false'. Refute it at one input. -/
def gaugeNewsWrong : ChangeSpec := { name := "gaugeNews", fn := fun _ => fun
  | [d1, d2, d3] => { results := [.lit (.bool false)], args := [d1, d2, d3] }
  | _ => none }
def GaugeNewsWrongFalsely : Prop := gaugeNewsRow.holds Try.pinned (OpenSpec.ofChange gaugeNewsWrong)

/-- 'patchbaylaw14.GaugeNames': WHATEVER THE INPUT: true; the input reads as it did. -/
def gaugeNamesSpec : ChangeSpec := { name := "gaugeNames", fn := fun _ => fun
  | [] => { results := [.lit (.bool true)], args := [] }
  | _ => none }
def gaugeNamesRow : OpenClaim := { program := "ytnnpdmhmpgmpnaa", sum := "0b8f6c6421b4fbfde554332a15a60d317932e8a423f808c5343a165b584ea0f9", func := "patchbay/patchbaylaw14.GaugeNames", spec := "gaugeNames", inPlace := ["sync/atomic.LoadUint64", "sync/atomic.CompareAndSwapUint64"], unfollowed := true, recurses := true, leaving := true, apart := false }
def GaugeNamesSaid : Prop := gaugeNamesRow.holds Try.pinned (OpenSpec.ofChange gaugeNamesSpec)

/-- ITS FALSE NEIGHBOUR: 'it returns false'. Refute it at one input. -/
def gaugeNamesWrong : ChangeSpec := { name := "gaugeNames", fn := fun _ => fun
  | [] => { results := [.lit (.bool false)], args := [] }
  | _ => none }
def GaugeNamesWrongFalsely : Prop := gaugeNamesRow.holds Try.pinned (OpenSpec.ofChange gaugeNamesWrong)

/-- 'patchbaylaw14.GaugeFree': WHATEVER THE INPUT: true; the input reads as it did. -/
def gaugeFreeSpec : ChangeSpec := { name := "gaugeFree", fn := fun _ => fun
  | [d1, d2] => { results := [.lit (.bool true)], args := [d1, d2] }
  | _ => none }
def gaugeFreeRow : OpenClaim := { program := "ytnnpdmhmpgmpnaa", sum := "0b8f6c6421b4fbfde554332a15a60d317932e8a423f808c5343a165b584ea0f9", func := "patchbay/patchbaylaw14.GaugeFree", spec := "gaugeFree", inPlace := ["sync/atomic.LoadUint64", "sync/atomic.CompareAndSwapUint64", "(*sync.WaitGroup).Add", "internal/race.ReleaseMerge", "internal/race.Disable", "internal/race.Enable", "internal/synctest.IsInBubble", "internal/synctest.Associate[sync.WaitGroup]", "sync.fatal", "sync/atomic.OrUint64", "sync/atomic.AddUint64", "internal/race.Read", "sync/atomic.StoreUint64", "internal/synctest.Disassociate[sync.WaitGroup]", "sync.runtime_Semrelease", "(*sync.WaitGroup).Done", "(*sync.WaitGroup).Wait", "internal/race.Acquire", "internal/synctest.IsAssociated[sync.WaitGroup]", "internal/race.Write", "sync.runtime_SemacquireWaitGroup"], unfollowed := true, recurses := true, leaving := true, apart := false }
def GaugeFreeSaid : Prop := gaugeFreeRow.holds Try.pinned (OpenSpec.ofChange gaugeFreeSpec)

/-- ITS FALSE NEIGHBOUR: 'it returns false'. Refute it at one input. -/
def gaugeFreeWrong : ChangeSpec := { name := "gaugeFree", fn := fun _ => fun
  | [d1, d2] => { results := [.lit (.bool false)], args := [d1, d2] }
  | _ => none }
def GaugeFreeWrongFalsely : Prop := gaugeFreeRow.holds Try.pinned (OpenSpec.ofChange gaugeFreeWrong)

/-- 'patchbaylaw14.GaugeBreakerOne': WHATEVER THE INPUT: true; the input reads as it did. -/
def gaugeBreakerOneSpec : ChangeSpec := { name := "gaugeBreakerOne", fn := fun _ => fun
  | [d1, d2, d3] => { results := [.lit (.bool true)], args := [d1, d2, d3] }
  | _ => none }
def gaugeBreakerOneRow : OpenClaim := { program := "ytnnpdmhmpgmpnaa", sum := "0b8f6c6421b4fbfde554332a15a60d317932e8a423f808c5343a165b584ea0f9", func := "patchbay/patchbaylaw14.GaugeBreakerOne", spec := "gaugeBreakerOne", inPlace := ["sync/atomic.LoadUint64", "sync/atomic.CompareAndSwapUint64", "(*sync.WaitGroup).Add", "internal/race.ReleaseMerge", "internal/race.Disable", "internal/race.Enable", "internal/synctest.IsInBubble", "internal/synctest.Associate[sync.WaitGroup]", "sync.fatal", "sync/atomic.OrUint64", "sync/atomic.AddUint64", "internal/race.Read", "sync/atomic.StoreUint64", "internal/synctest.Disassociate[sync.WaitGroup]", "sync.runtime_Semrelease", "(*sync.WaitGroup).Done", "(*sync.WaitGroup).Wait", "internal/race.Acquire", "internal/synctest.IsAssociated[sync.WaitGroup]", "internal/race.Write", "sync.runtime_SemacquireWaitGroup"], unfollowed := true, recurses := true, leaving := true, apart := false }
def GaugeBreakerOneSaid : Prop := gaugeBreakerOneRow.holds Try.pinned (OpenSpec.ofChange gaugeBreakerOneSpec)

/-- ITS FALSE NEIGHBOUR: 'it returns false'. Refute it at one input. -/
def gaugeBreakerOneWrong : ChangeSpec := { name := "gaugeBreakerOne", fn := fun _ => fun
  | [d1, d2, d3] => { results := [.lit (.bool false)], args := [d1, d2, d3] }
  | _ => none }
def GaugeBreakerOneWrongFalsely : Prop := gaugeBreakerOneRow.holds Try.pinned (OpenSpec.ofChange gaugeBreakerOneWrong)

/-- 'patchbaylaw14.GaugePlays': WHATEVER THE INPUT: true; the input reads as it did. -/
def gaugePlaysSpec : ChangeSpec := { name := "gaugePlays", fn := fun _ => fun
  | [d] => { results := [.lit (.bool true)], args := [d] }
  | _ => none }
def gaugePlaysRow : OpenClaim := { program := "ytnnpdmhmpgmpnaa", sum := "0b8f6c6421b4fbfde554332a15a60d317932e8a423f808c5343a165b584ea0f9", func := "patchbay/patchbaylaw14.GaugePlays", spec := "gaugePlays", inPlace := ["sync/atomic.LoadUint64", "sync/atomic.CompareAndSwapUint64", "(*sync.WaitGroup).Add", "internal/race.ReleaseMerge", "internal/race.Disable", "internal/race.Enable", "internal/synctest.IsInBubble", "internal/synctest.Associate[sync.WaitGroup]", "sync.fatal", "sync/atomic.OrUint64", "sync/atomic.AddUint64", "internal/race.Read", "sync/atomic.StoreUint64", "internal/synctest.Disassociate[sync.WaitGroup]", "sync.runtime_Semrelease", "(*sync.WaitGroup).Done", "(*sync.WaitGroup).Wait", "internal/race.Acquire", "internal/synctest.IsAssociated[sync.WaitGroup]", "internal/race.Write", "sync.runtime_SemacquireWaitGroup"], unfollowed := true, recurses := true, leaving := true, apart := false }
def GaugePlaysSaid : Prop := gaugePlaysRow.holds Try.pinned (OpenSpec.ofChange gaugePlaysSpec)

/-- ITS FALSE NEIGHBOUR: 'it returns false'. Refute it at one input. -/
def gaugePlaysWrong : ChangeSpec := { name := "gaugePlays", fn := fun _ => fun
  | [d] => { results := [.lit (.bool false)], args := [d] }
  | _ => none }
def GaugePlaysWrongFalsely : Prop := gaugePlaysRow.holds Try.pinned (OpenSpec.ofChange gaugePlaysWrong)

/-- 'patchbaylaw14.GaugeNever': WHATEVER THE INPUT: true; the input reads as it did. -/
def gaugeNeverSpec : ChangeSpec := { name := "gaugeNever", fn := fun _ => fun
  | [d1, d2, d3] => { results := [.lit (.bool true)], args := [d1, d2, d3] }
  | _ => none }
def gaugeNeverRow : OpenClaim := { program := "ytnnpdmhmpgmpnaa", sum := "0b8f6c6421b4fbfde554332a15a60d317932e8a423f808c5343a165b584ea0f9", func := "patchbay/patchbaylaw14.GaugeNever", spec := "gaugeNever", inPlace := ["sync/atomic.LoadUint64", "sync/atomic.CompareAndSwapUint64", "(*sync.WaitGroup).Add", "internal/race.ReleaseMerge", "internal/race.Disable", "internal/race.Enable", "internal/synctest.IsInBubble", "internal/synctest.Associate[sync.WaitGroup]", "sync.fatal", "sync/atomic.OrUint64", "sync/atomic.AddUint64", "internal/race.Read", "sync/atomic.StoreUint64", "internal/synctest.Disassociate[sync.WaitGroup]", "sync.runtime_Semrelease", "(*sync.WaitGroup).Done", "(*sync.WaitGroup).Wait", "internal/race.Acquire", "internal/synctest.IsAssociated[sync.WaitGroup]", "internal/race.Write", "sync.runtime_SemacquireWaitGroup"], unfollowed := true, recurses := true, leaving := true, apart := false }
def GaugeNeverSaid : Prop := gaugeNeverRow.holds Try.pinned (OpenSpec.ofChange gaugeNeverSpec)

/-- ITS FALSE NEIGHBOUR: 'it returns false'. Refute it at one input. -/
def gaugeNeverWrong : ChangeSpec := { name := "gaugeNever", fn := fun _ => fun
  | [d1, d2, d3] => { results := [.lit (.bool false)], args := [d1, d2, d3] }
  | _ => none }
def GaugeNeverWrongFalsely : Prop := gaugeNeverRow.holds Try.pinned (OpenSpec.ofChange gaugeNeverWrong)

/- THE SECOND FORM. 'bulk': how many values and letters a reading holds, each counted each time it is reached (what is shared counts as often as it is met; a slice's spare places count too). A statement '..UptoSaid' is the law's where the arguments, and the package variables that the reading takes, are together of bulk at most 1048576: NARROWER than '..Said'. Prove '..Said' where nothing that the law and all that it calls make is longer than what came in: it says more and counts as full. Else prove '..UptoSaid'. A law counts once. -/
mutual
def uptoBulk {H : Type} : DataW H → Nat
  | .lit (.string bytes) => bytes.length + 1
  | .lit _ => 1
  | .nil => 1
  | .ptr d => uptoBulk d + 1
  | .slice elems spare => uptoBulkAll elems + uptoBulkAll spare + 1
  | .agg parts => uptoBulkAll parts + 1
  | .iface _ d => uptoBulk d + 1
  | .map entries => uptoBulkEntries entries + 1
  | .held _ => 1
def uptoBulkAll {H : Type} : List (DataW H) → Nat
  | [] => 0
  | d :: r => uptoBulk d + uptoBulkAll r
def uptoBulkEntries {H : Type} : List (Lit × DataW H) → Nat
  | [] => 0
  | x :: r => uptoBulkEntry x + uptoBulkEntries r
def uptoBulkEntry {H : Type} : Lit × DataW H → Nat
  | (.string bytes, d) => bytes.length + uptoBulk d + 1
  | (_, d) => uptoBulk d + 1
 end
def uptoSmall : (H : Type) → List (DataW H) → Bool := fun _ ds => decide (uptoBulkAll ds ≤ 1048576)
def OpenSpec.upto (s : _root_.Go.ChangeSpec) : _root_.Go.OpenSpec := { _root_.Go.OpenSpec.ofChange s with cond := some uptoSmall }

/-- 'patchbaylaw14.GaugeBreakerAlone', WHERE WHAT IT READS IS OF BULK AT MOST 1048576: true; the input reads as it did. -/
def gaugeBreakerAloneUptoRow : OpenClaim := { program := "ytnnpdmhmpgmpnaa", sum := "0b8f6c6421b4fbfde554332a15a60d317932e8a423f808c5343a165b584ea0f9", func := "patchbay/patchbaylaw14.GaugeBreakerAlone", spec := "gaugeBreakerAlone", inPlace := ["sync/atomic.LoadUint64", "sync/atomic.CompareAndSwapUint64"], unfollowed := true, recurses := true, leaving := true, apart := false, narrowed := true }
def GaugeBreakerAloneUptoSaid : Prop := gaugeBreakerAloneUptoRow.holds Try.pinned (OpenSpec.upto gaugeBreakerAloneSpec)

/-- 'patchbaylaw14.GaugeNews', WHERE WHAT IT READS IS OF BULK AT MOST 1048576: true; the input reads as it did. -/
def gaugeNewsUptoRow : OpenClaim := { program := "ytnnpdmhmpgmpnaa", sum := "0b8f6c6421b4fbfde554332a15a60d317932e8a423f808c5343a165b584ea0f9", func := "patchbay/patchbaylaw14.GaugeNews", spec := "gaugeNews", inPlace := ["sync/atomic.LoadUint64", "sync/atomic.CompareAndSwapUint64"], unfollowed := true, recurses := true, leaving := true, apart := false, narrowed := true }
def GaugeNewsUptoSaid : Prop := gaugeNewsUptoRow.holds Try.pinned (OpenSpec.upto gaugeNewsSpec)

/-- 'patchbaylaw14.GaugeNames', WHERE WHAT IT READS IS OF BULK AT MOST 1048576: true; the input reads as it did. -/
def gaugeNamesUptoRow : OpenClaim := { program := "ytnnpdmhmpgmpnaa", sum := "0b8f6c6421b4fbfde554332a15a60d317932e8a423f808c5343a165b584ea0f9", func := "patchbay/patchbaylaw14.GaugeNames", spec := "gaugeNames", inPlace := ["sync/atomic.LoadUint64", "sync/atomic.CompareAndSwapUint64"], unfollowed := true, recurses := true, leaving := true, apart := false, narrowed := true }
def GaugeNamesUptoSaid : Prop := gaugeNamesUptoRow.holds Try.pinned (OpenSpec.upto gaugeNamesSpec)

/-- 'patchbaylaw14.GaugeFree', WHERE WHAT IT READS IS OF BULK AT MOST 1048576: true; the input reads as it did. -/
def gaugeFreeUptoRow : OpenClaim := { program := "ytnnpdmhmpgmpnaa", sum := "0b8f6c6421b4fbfde554332a15a60d317932e8a423f808c5343a165b584ea0f9", func := "patchbay/patchbaylaw14.GaugeFree", spec := "gaugeFree", inPlace := ["sync/atomic.LoadUint64", "sync/atomic.CompareAndSwapUint64", "(*sync.WaitGroup).Add", "internal/race.ReleaseMerge", "internal/race.Disable", "internal/race.Enable", "internal/synctest.IsInBubble", "internal/synctest.Associate[sync.WaitGroup]", "sync.fatal", "sync/atomic.OrUint64", "sync/atomic.AddUint64", "internal/race.Read", "sync/atomic.StoreUint64", "internal/synctest.Disassociate[sync.WaitGroup]", "sync.runtime_Semrelease", "(*sync.WaitGroup).Done", "(*sync.WaitGroup).Wait", "internal/race.Acquire", "internal/synctest.IsAssociated[sync.WaitGroup]", "internal/race.Write", "sync.runtime_SemacquireWaitGroup"], unfollowed := true, recurses := true, leaving := true, apart := false, narrowed := true }
def GaugeFreeUptoSaid : Prop := gaugeFreeUptoRow.holds Try.pinned (OpenSpec.upto gaugeFreeSpec)

/-- 'patchbaylaw14.GaugeBreakerOne', WHERE WHAT IT READS IS OF BULK AT MOST 1048576: true; the input reads as it did. -/
def gaugeBreakerOneUptoRow : OpenClaim := { program := "ytnnpdmhmpgmpnaa", sum := "0b8f6c6421b4fbfde554332a15a60d317932e8a423f808c5343a165b584ea0f9", func := "patchbay/patchbaylaw14.GaugeBreakerOne", spec := "gaugeBreakerOne", inPlace := ["sync/atomic.LoadUint64", "sync/atomic.CompareAndSwapUint64", "(*sync.WaitGroup).Add", "internal/race.ReleaseMerge", "internal/race.Disable", "internal/race.Enable", "internal/synctest.IsInBubble", "internal/synctest.Associate[sync.WaitGroup]", "sync.fatal", "sync/atomic.OrUint64", "sync/atomic.AddUint64", "internal/race.Read", "sync/atomic.StoreUint64", "internal/synctest.Disassociate[sync.WaitGroup]", "sync.runtime_Semrelease", "(*sync.WaitGroup).Done", "(*sync.WaitGroup).Wait", "internal/race.Acquire", "internal/synctest.IsAssociated[sync.WaitGroup]", "internal/race.Write", "sync.runtime_SemacquireWaitGroup"], unfollowed := true, recurses := true, leaving := true, apart := false, narrowed := true }
def GaugeBreakerOneUptoSaid : Prop := gaugeBreakerOneUptoRow.holds Try.pinned (OpenSpec.upto gaugeBreakerOneSpec)

/-- 'patchbaylaw14.GaugePlays', WHERE WHAT IT READS IS OF BULK AT MOST 1048576: true; the input reads as it did. -/
def gaugePlaysUptoRow : OpenClaim := { program := "ytnnpdmhmpgmpnaa", sum := "0b8f6c6421b4fbfde554332a15a60d317932e8a423f808c5343a165b584ea0f9", func := "patchbay/patchbaylaw14.GaugePlays", spec := "gaugePlays", inPlace := ["sync/atomic.LoadUint64", "sync/atomic.CompareAndSwapUint64", "(*sync.WaitGroup).Add", "internal/race.ReleaseMerge", "internal/race.Disable", "internal/race.Enable", "internal/synctest.IsInBubble", "internal/synctest.Associate[sync.WaitGroup]", "sync.fatal", "sync/atomic.OrUint64", "sync/atomic.AddUint64", "internal/race.Read", "sync/atomic.StoreUint64", "internal/synctest.Disassociate[sync.WaitGroup]", "sync.runtime_Semrelease", "(*sync.WaitGroup).Done", "(*sync.WaitGroup).Wait", "internal/race.Acquire", "internal/synctest.IsAssociated[sync.WaitGroup]", "internal/race.Write", "sync.runtime_SemacquireWaitGroup"], unfollowed := true, recurses := true, leaving := true, apart := false, narrowed := true }
def GaugePlaysUptoSaid : Prop := gaugePlaysUptoRow.holds Try.pinned (OpenSpec.upto gaugePlaysSpec)

/-- 'patchbaylaw14.GaugeNever', WHERE WHAT IT READS IS OF BULK AT MOST 1048576: true; the input reads as it did. -/
def gaugeNeverUptoRow : OpenClaim := { program := "ytnnpdmhmpgmpnaa", sum := "0b8f6c6421b4fbfde554332a15a60d317932e8a423f808c5343a165b584ea0f9", func := "patchbay/patchbaylaw14.GaugeNever", spec := "gaugeNever", inPlace := ["sync/atomic.LoadUint64", "sync/atomic.CompareAndSwapUint64", "(*sync.WaitGroup).Add", "internal/race.ReleaseMerge", "internal/race.Disable", "internal/race.Enable", "internal/synctest.IsInBubble", "internal/synctest.Associate[sync.WaitGroup]", "sync.fatal", "sync/atomic.OrUint64", "sync/atomic.AddUint64", "internal/race.Read", "sync/atomic.StoreUint64", "internal/synctest.Disassociate[sync.WaitGroup]", "sync.runtime_Semrelease", "(*sync.WaitGroup).Done", "(*sync.WaitGroup).Wait", "internal/race.Acquire", "internal/synctest.IsAssociated[sync.WaitGroup]", "internal/race.Write", "sync.runtime_SemacquireWaitGroup"], unfollowed := true, recurses := true, leaving := true, apart := false, narrowed := true }
def GaugeNeverUptoSaid : Prop := gaugeNeverUptoRow.holds Try.pinned (OpenSpec.upto gaugeNeverSpec)

end Rows
end Go.Proofs.Ytnnpdmhmpgmpnaa
