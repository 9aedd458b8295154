/-
  No cell of these rows narrows 'for every input' (looked for: loops, veiled, ifaces, maps, wideKeys, modest, calm, conditions, laid).
  DERIVED. THE GIVEN ROWS OF THIS SEAT. 12 by the template 'for every input the law returns true; each argument reads behind the call as it read before'; 0 by the template 'total and deterministic' (their statements: YtkpcngcegipalaaTotals.lean).
  GIVEN WITH THE SEED: the statements are not yours to turn. If you find one false, say at which input.
  Laid BY PROGRAM, IN A SANDBOX (cutbox-rows.mjs): the forced cells as the released guide's own fill.sh prints them over the translation d2e885e7445bd9cc… (all of the seat's roots in one cut). By AI agents, Wed Nov 11 2026. No macro, syntax, notation, axiom, sorry.
-/
import Derived.Test.YtkpcngcegipalaaChecked
import GoSem.Claim
import GoSem.ClaimJoined
import GoSem.ClaimMapViews
import Derived.JoinedTies
import Derived.KernelRfl
namespace Go.Proofs.Ytkpcngcegipalaa
/- THE CELL 'sum', in the pinned program and in every row, IS THE sha256 OF THE DUMP (.gsa) THAT YtkpcngcegipalaaProg.lean LOADS. Nothing in Lean hashes anything: it is a label: what it is worth is what the hold of that sum in a sandbox is worth. -/
noncomputable def Try.pinned : Pinned := { name := "ytkpcngcegipalaa", sum := "d2e885e7445bd9cc7256689574764bc3b21ac1213bc2e4a43dbf07377b6ca953", checked := Try.checked }
namespace Rows
def none {H : Type} : Left H := { results := [], args := [] }

/-- 'tallowlaw17.InternAgain': WHATEVER THE INPUT: true; the input reads as it did. -/
def internAgainSpec : ChangeSpec := { name := "internAgain", fn := fun _ => fun
  | [d1, d2, d3] => { results := [.lit (.bool true)], args := [d1, d2, d3] }
  | _ => none }
def internAgainRow : OpenClaim := { program := "ytkpcngcegipalaa", sum := "d2e885e7445bd9cc7256689574764bc3b21ac1213bc2e4a43dbf07377b6ca953", func := "tallow/tallowlaw17.InternAgain", spec := "internAgain", inPlace := ["slices.overlaps[int]"], unfollowed := true, recurses := true, apart := false }
def InternAgainSaid : Prop := internAgainRow.holds Try.pinned (OpenSpec.ofChange internAgainSpec)

/-- ITS FALSE NEIGHBOUR: 'it returns false'. Refute it at one input. -/
def internAgainWrong : ChangeSpec := { name := "internAgain", fn := fun _ => fun
  | [d1, d2, d3] => { results := [.lit (.bool false)], args := [d1, d2, d3] }
  | _ => none }
def InternAgainWrongFalsely : Prop := internAgainRow.holds Try.pinned (OpenSpec.ofChange internAgainWrong)

/-- 'tallowlaw17.InternKnown': WHATEVER THE INPUT: true; the input reads as it did. -/
def internKnownSpec : ChangeSpec := { name := "internKnown", fn := fun _ => fun
  | [] => { results := [.lit (.bool true)], args := [] }
  | _ => none }
def internKnownRow : OpenClaim := { program := "ytkpcngcegipalaa", sum := "d2e885e7445bd9cc7256689574764bc3b21ac1213bc2e4a43dbf07377b6ca953", func := "tallow/tallowlaw17.InternKnown", spec := "internKnown", inPlace := ["slices.overlaps[int]", "maps.clone"], unfollowed := true, recurses := true, apart := false }
def InternKnownSaid : Prop := internKnownRow.holds Try.pinned (OpenSpec.ofChange internKnownSpec)

/-- ITS FALSE NEIGHBOUR: 'it returns false'. Refute it at one input. -/
def internKnownWrong : ChangeSpec := { name := "internKnown", fn := fun _ => fun
  | [] => { results := [.lit (.bool false)], args := [] }
  | _ => none }
def InternKnownWrongFalsely : Prop := internKnownRow.holds Try.pinned (OpenSpec.ofChange internKnownWrong)

/-- 'tallowlaw17.InternPlays': WHATEVER THE INPUT: true; the input reads as it did. -/
def internPlaysSpec : ChangeSpec := { name := "internPlays", fn := fun _ => fun
  | [d] => { results := [.lit (.bool true)], args := [d] }
  | _ => none }
def internPlaysRow : OpenClaim := { program := "ytkpcngcegipalaa", sum := "d2e885e7445bd9cc7256689574764bc3b21ac1213bc2e4a43dbf07377b6ca953", func := "tallow/tallowlaw17.InternPlays", spec := "internPlays", inPlace := ["slices.overlaps[int]", "maps.clone"], unfollowed := true, recurses := true, apart := false }
def InternPlaysSaid : Prop := internPlaysRow.holds Try.pinned (OpenSpec.ofChange internPlaysSpec)

/-- ITS FALSE NEIGHBOUR: 'it returns false'. Refute it at one input. -/
def internPlaysWrong : ChangeSpec := { name := "internPlays", fn := fun _ => fun
  | [d] => { results := [.lit (.bool false)], args := [d] }
  | _ => none }
def InternPlaysWrongFalsely : Prop := internPlaysRow.holds Try.pinned (OpenSpec.ofChange internPlaysWrong)

/-- 'tallowlaw14.DrainChain': WHATEVER THE INPUT: true; the input reads as it did. -/
def drainChainSpec : ChangeSpec := { name := "drainChain", fn := fun _ => fun
  | [d] => { results := [.lit (.bool true)], args := [d] }
  | _ => none }
def drainChainRow : OpenClaim := { program := "ytkpcngcegipalaa", sum := "d2e885e7445bd9cc7256689574764bc3b21ac1213bc2e4a43dbf07377b6ca953", func := "tallow/tallowlaw14.DrainChain", spec := "drainChain", inPlace := ["slices.overlaps[int]"], unfollowed := true, recurses := true, apart := false }
def DrainChainSaid : Prop := drainChainRow.holds Try.pinned (OpenSpec.ofChange drainChainSpec)

/-- ITS FALSE NEIGHBOUR: 'it returns false'. Refute it at one input. -/
def drainChainWrong : ChangeSpec := { name := "drainChain", fn := fun _ => fun
  | [d] => { results := [.lit (.bool false)], args := [d] }
  | _ => none }
def DrainChainWrongFalsely : Prop := drainChainRow.holds Try.pinned (OpenSpec.ofChange drainChainWrong)

/-- 'tallowlaw14.DrainEnds': WHATEVER THE INPUT: true; the input reads as it did. -/
def drainEndsSpec : ChangeSpec := { name := "drainEnds", fn := fun _ => fun
  | [d] => { results := [.lit (.bool true)], args := [d] }
  | _ => none }
def drainEndsRow : OpenClaim := { program := "ytkpcngcegipalaa", sum := "d2e885e7445bd9cc7256689574764bc3b21ac1213bc2e4a43dbf07377b6ca953", func := "tallow/tallowlaw14.DrainEnds", spec := "drainEnds", inPlace := ["slices.overlaps[int]"], unfollowed := true, recurses := true, apart := false }
def DrainEndsSaid : Prop := drainEndsRow.holds Try.pinned (OpenSpec.ofChange drainEndsSpec)

/-- ITS FALSE NEIGHBOUR: 'it returns false'. Refute it at one input. -/
def drainEndsWrong : ChangeSpec := { name := "drainEnds", fn := fun _ => fun
  | [d] => { results := [.lit (.bool false)], args := [d] }
  | _ => none }
def DrainEndsWrongFalsely : Prop := drainEndsRow.holds Try.pinned (OpenSpec.ofChange drainEndsWrong)

/-- 'tallowlaw14.DrainSplits': WHATEVER THE INPUT: true; the input reads as it did. -/
def drainSplitsSpec : ChangeSpec := { name := "drainSplits", fn := fun _ => fun
  | [d1, d2, d3] => { results := [.lit (.bool true)], args := [d1, d2, d3] }
  | _ => none }
def drainSplitsRow : OpenClaim := { program := "ytkpcngcegipalaa", sum := "d2e885e7445bd9cc7256689574764bc3b21ac1213bc2e4a43dbf07377b6ca953", func := "tallow/tallowlaw14.DrainSplits", spec := "drainSplits", inPlace := ["slices.overlaps[int]"], unfollowed := true, recurses := true, apart := false }
def DrainSplitsSaid : Prop := drainSplitsRow.holds Try.pinned (OpenSpec.ofChange drainSplitsSpec)

/-- ITS FALSE NEIGHBOUR: 'it returns false'. Refute it at one input. -/
def drainSplitsWrong : ChangeSpec := { name := "drainSplits", fn := fun _ => fun
  | [d1, d2, d3] => { results := [.lit (.bool false)], args := [d1, d2, d3] }
  | _ => none }
def DrainSplitsWrongFalsely : Prop := drainSplitsRow.holds Try.pinned (OpenSpec.ofChange drainSplitsWrong)

/-- 'tallowlaw14.DrainKnown': WHATEVER THE INPUT: true; the input reads as it did. -/
def drainKnownSpec : ChangeSpec := { name := "drainKnown", fn := fun _ => fun
  | [] => { results := [.lit (.bool true)], args := [] }
  | _ => none }
def drainKnownRow : OpenClaim := { program := "ytkpcngcegipalaa", sum := "d2e885e7445bd9cc7256689574764bc3b21ac1213bc2e4a43dbf07377b6ca953", func := "tallow/tallowlaw14.DrainKnown", spec := "drainKnown", inPlace := ["slices.overlaps[int]"], unfollowed := true, recurses := true, apart := false }
def DrainKnownSaid : Prop := drainKnownRow.holds Try.pinned (OpenSpec.ofChange drainKnownSpec)

/-- ITS FALSE NEIGHBOUR: 'it returns false'. Refute it at one input. -/
def drainKnownWrong : ChangeSpec := { name := "drainKnown", fn := fun _ => fun
  | [] => { results := [.lit (.bool false)], args := [] }
  | _ => none }
def DrainKnownWrongFalsely : Prop := drainKnownRow.holds Try.pinned (OpenSpec.ofChange drainKnownWrong)

/-- 'tallowlaw14.DrainPlays': WHATEVER THE INPUT: true; the input reads as it did. -/
def drainPlaysSpec : ChangeSpec := { name := "drainPlays", fn := fun _ => fun
  | [d] => { results := [.lit (.bool true)], args := [d] }
  | _ => none }
def drainPlaysRow : OpenClaim := { program := "ytkpcngcegipalaa", sum := "d2e885e7445bd9cc7256689574764bc3b21ac1213bc2e4a43dbf07377b6ca953", func := "tallow/tallowlaw14.DrainPlays", spec := "drainPlays", inPlace := ["slices.overlaps[int]"], unfollowed := true, recurses := true, apart := false }
def DrainPlaysSaid : Prop := drainPlaysRow.holds Try.pinned (OpenSpec.ofChange drainPlaysSpec)

/-- ITS FALSE NEIGHBOUR: 'it returns false'. Refute it at one input. -/
def drainPlaysWrong : ChangeSpec := { name := "drainPlays", fn := fun _ => fun
  | [d] => { results := [.lit (.bool false)], args := [d] }
  | _ => none }
def DrainPlaysWrongFalsely : Prop := drainPlaysRow.holds Try.pinned (OpenSpec.ofChange drainPlaysWrong)

/-- 'tallowlaw13.CellsWatch': WHATEVER THE INPUT: true; the input reads as it did. -/
def cellsWatchSpec : ChangeSpec := { name := "cellsWatch", fn := fun _ => fun
  | [d1, d2, d3] => { results := [.lit (.bool true)], args := [d1, d2, d3] }
  | _ => none }
def cellsWatchRow : OpenClaim := { program := "ytkpcngcegipalaa", sum := "d2e885e7445bd9cc7256689574764bc3b21ac1213bc2e4a43dbf07377b6ca953", func := "tallow/tallowlaw13.CellsWatch", spec := "cellsWatch", inPlace := ["slices.overlaps[int]", "maps.clone"], unfollowed := true, recurses := true, apart := false }
def CellsWatchSaid : Prop := cellsWatchRow.holds Try.pinned (OpenSpec.ofChange cellsWatchSpec)

/-- ITS FALSE NEIGHBOUR: 'it returns false'. Refute it at one input. -/
def cellsWatchWrong : ChangeSpec := { name := "cellsWatch", fn := fun _ => fun
  | [d1, d2, d3] => { results := [.lit (.bool false)], args := [d1, d2, d3] }
  | _ => none }
def CellsWatchWrongFalsely : Prop := cellsWatchRow.holds Try.pinned (OpenSpec.ofChange cellsWatchWrong)

/-- 'tallowlaw13.CellsCount': WHATEVER THE INPUT: true; the input reads as it did. -/
def cellsCountSpec : ChangeSpec := { name := "cellsCount", fn := fun _ => fun
  | [d] => { results := [.lit (.bool true)], args := [d] }
  | _ => none }
def cellsCountRow : OpenClaim := { program := "ytkpcngcegipalaa", sum := "d2e885e7445bd9cc7256689574764bc3b21ac1213bc2e4a43dbf07377b6ca953", func := "tallow/tallowlaw13.CellsCount", spec := "cellsCount", inPlace := ["slices.overlaps[int]"], unfollowed := true, recurses := true, apart := false }
def CellsCountSaid : Prop := cellsCountRow.holds Try.pinned (OpenSpec.ofChange cellsCountSpec)

/-- ITS FALSE NEIGHBOUR: 'it returns false'. Refute it at one input. -/
def cellsCountWrong : ChangeSpec := { name := "cellsCount", fn := fun _ => fun
  | [d] => { results := [.lit (.bool false)], args := [d] }
  | _ => none }
def CellsCountWrongFalsely : Prop := cellsCountRow.holds Try.pinned (OpenSpec.ofChange cellsCountWrong)

/-- 'tallowlaw13.CellsPlay': WHATEVER THE INPUT: true; the input reads as it did. -/
def cellsPlaySpec : ChangeSpec := { name := "cellsPlay", fn := fun _ => fun
  | [d1, d2] => { results := [.lit (.bool true)], args := [d1, d2] }
  | _ => none }
def cellsPlayRow : OpenClaim := { program := "ytkpcngcegipalaa", sum := "d2e885e7445bd9cc7256689574764bc3b21ac1213bc2e4a43dbf07377b6ca953", func := "tallow/tallowlaw13.CellsPlay", spec := "cellsPlay", inPlace := ["maps.clone", "slices.overlaps[int]"], unfollowed := true, recurses := true, apart := false }
def CellsPlaySaid : Prop := cellsPlayRow.holds Try.pinned (OpenSpec.ofChange cellsPlaySpec)

/-- ITS FALSE NEIGHBOUR: 'it returns false'. Refute it at one input. -/
def cellsPlayWrong : ChangeSpec := { name := "cellsPlay", fn := fun _ => fun
  | [d1, d2] => { results := [.lit (.bool false)], args := [d1, d2] }
  | _ => none }
def CellsPlayWrongFalsely : Prop := cellsPlayRow.holds Try.pinned (OpenSpec.ofChange cellsPlayWrong)

/-- 'tallowlaw13.CellsKnown': WHATEVER THE INPUT: true; the input reads as it did. -/
def cellsKnownSpec : ChangeSpec := { name := "cellsKnown", fn := fun _ => fun
  | [] => { results := [.lit (.bool true)], args := [] }
  | _ => none }
def cellsKnownRow : OpenClaim := { program := "ytkpcngcegipalaa", sum := "d2e885e7445bd9cc7256689574764bc3b21ac1213bc2e4a43dbf07377b6ca953", func := "tallow/tallowlaw13.CellsKnown", spec := "cellsKnown", inPlace := ["slices.overlaps[int]", "maps.clone"], unfollowed := true, recurses := true, apart := false }
def CellsKnownSaid : Prop := cellsKnownRow.holds Try.pinned (OpenSpec.ofChange cellsKnownSpec)

/-- ITS FALSE NEIGHBOUR: 'it returns false'. Refute it at one input. -/
def cellsKnownWrong : ChangeSpec := { name := "cellsKnown", fn := fun _ => fun
  | [] => { results := [.lit (.bool false)], args := [] }
  | _ => none }
def CellsKnownWrongFalsely : Prop := cellsKnownRow.holds Try.pinned (OpenSpec.ofChange cellsKnownWrong)

/- THE SECOND FORM. 'bulk': how many values and letters a reading holds, each counted each time it is reached (what is shared counts as often as it is met; a slice's spare places count too). A statement '..UptoSaid' is the law's where the arguments, and the package variables that the reading takes, are together of bulk at most 1048576: NARROWER than '..Said'. Prove '..Said' where nothing that the law and all that it calls make is longer than what came in: it says more and counts as full. Else prove '..UptoSaid'. A law counts once. -/
mutual
def uptoBulk {H : Type} : DataW H → Nat
  | .lit (.string bytes) => bytes.length + 1
  | .lit _ => 1
  | .nil => 1
  | .ptr d => uptoBulk d + 1
  | .slice elems spare => uptoBulkAll elems + uptoBulkAll spare + 1
  | .agg parts => uptoBulkAll parts + 1
  | .iface _ d => uptoBulk d + 1
  | .map entries => uptoBulkEntries entries + 1
  | .held _ => 1
def uptoBulkAll {H : Type} : List (DataW H) → Nat
  | [] => 0
  | d :: r => uptoBulk d + uptoBulkAll r
def uptoBulkEntries {H : Type} : List (Lit × DataW H) → Nat
  | [] => 0
  | x :: r => uptoBulkEntry x + uptoBulkEntries r
def uptoBulkEntry {H : Type} : Lit × DataW H → Nat
  | (.string bytes, d) => bytes.length + uptoBulk d + 1
  | (_, d) => uptoBulk d + 1
 end
def uptoSmall : (H : Type) → List (DataW H) → Bool := fun _ ds => decide (uptoBulkAll ds ≤ 1048576)
def OpenSpec.upto (s : _root_.Go.ChangeSpec) : _root_.Go.OpenSpec := { _root_.Go.OpenSpec.ofChange s with cond := some uptoSmall }

/-- 'tallowlaw17.InternAgain', WHERE WHAT IT READS IS OF BULK AT MOST 1048576: true; the input reads as it did. -/
def internAgainUptoRow : OpenClaim := { program := "ytkpcngcegipalaa", sum := "d2e885e7445bd9cc7256689574764bc3b21ac1213bc2e4a43dbf07377b6ca953", func := "tallow/tallowlaw17.InternAgain", spec := "internAgain", inPlace := ["slices.overlaps[int]"], unfollowed := true, recurses := true, apart := false, narrowed := true }
def InternAgainUptoSaid : Prop := internAgainUptoRow.holds Try.pinned (OpenSpec.upto internAgainSpec)

/-- 'tallowlaw17.InternKnown', WHERE WHAT IT READS IS OF BULK AT MOST 1048576: true; the input reads as it did. -/
def internKnownUptoRow : OpenClaim := { program := "ytkpcngcegipalaa", sum := "d2e885e7445bd9cc7256689574764bc3b21ac1213bc2e4a43dbf07377b6ca953", func := "tallow/tallowlaw17.InternKnown", spec := "internKnown", inPlace := ["slices.overlaps[int]", "maps.clone"], unfollowed := true, recurses := true, apart := false, narrowed := true }
def InternKnownUptoSaid : Prop := internKnownUptoRow.holds Try.pinned (OpenSpec.upto internKnownSpec)

/-- 'tallowlaw17.InternPlays', WHERE WHAT IT READS IS OF BULK AT MOST 1048576: true; the input reads as it did. -/
def internPlaysUptoRow : OpenClaim := { program := "ytkpcngcegipalaa", sum := "d2e885e7445bd9cc7256689574764bc3b21ac1213bc2e4a43dbf07377b6ca953", func := "tallow/tallowlaw17.InternPlays", spec := "internPlays", inPlace := ["slices.overlaps[int]", "maps.clone"], unfollowed := true, recurses := true, apart := false, narrowed := true }
def InternPlaysUptoSaid : Prop := internPlaysUptoRow.holds Try.pinned (OpenSpec.upto internPlaysSpec)

/-- 'tallowlaw14.DrainChain', WHERE WHAT IT READS IS OF BULK AT MOST 1048576: true; the input reads as it did. -/
def drainChainUptoRow : OpenClaim := { program := "ytkpcngcegipalaa", sum := "d2e885e7445bd9cc7256689574764bc3b21ac1213bc2e4a43dbf07377b6ca953", func := "tallow/tallowlaw14.DrainChain", spec := "drainChain", inPlace := ["slices.overlaps[int]"], unfollowed := true, recurses := true, apart := false, narrowed := true }
def DrainChainUptoSaid : Prop := drainChainUptoRow.holds Try.pinned (OpenSpec.upto drainChainSpec)

/-- 'tallowlaw14.DrainEnds', WHERE WHAT IT READS IS OF BULK AT MOST 1048576: true; the input reads as it did. -/
def drainEndsUptoRow : OpenClaim := { program := "ytkpcngcegipalaa", sum := "d2e885e7445bd9cc7256689574764bc3b21ac1213bc2e4a43dbf07377b6ca953", func := "tallow/tallowlaw14.DrainEnds", spec := "drainEnds", inPlace := ["slices.overlaps[int]"], unfollowed := true, recurses := true, apart := false, narrowed := true }
def DrainEndsUptoSaid : Prop := drainEndsUptoRow.holds Try.pinned (OpenSpec.upto drainEndsSpec)

/-- 'tallowlaw14.DrainSplits', WHERE WHAT IT READS IS OF BULK AT MOST 1048576: true; the input reads as it did. -/
def drainSplitsUptoRow : OpenClaim := { program := "ytkpcngcegipalaa", sum := "d2e885e7445bd9cc7256689574764bc3b21ac1213bc2e4a43dbf07377b6ca953", func := "tallow/tallowlaw14.DrainSplits", spec := "drainSplits", inPlace := ["slices.overlaps[int]"], unfollowed := true, recurses := true, apart := false, narrowed := true }
def DrainSplitsUptoSaid : Prop := drainSplitsUptoRow.holds Try.pinned (OpenSpec.upto drainSplitsSpec)

/-- 'tallowlaw14.DrainKnown', WHERE WHAT IT READS IS OF BULK AT MOST 1048576: true; the input reads as it did. -/
def drainKnownUptoRow : OpenClaim := { program := "ytkpcngcegipalaa", sum := "d2e885e7445bd9cc7256689574764bc3b21ac1213bc2e4a43dbf07377b6ca953", func := "tallow/tallowlaw14.DrainKnown", spec := "drainKnown", inPlace := ["slices.overlaps[int]"], unfollowed := true, recurses := true, apart := false, narrowed := true }
def DrainKnownUptoSaid : Prop := drainKnownUptoRow.holds Try.pinned (OpenSpec.upto drainKnownSpec)

/-- 'tallowlaw14.DrainPlays', WHERE WHAT IT READS IS OF BULK AT MOST 1048576: true; the input reads as it did. -/
def drainPlaysUptoRow : OpenClaim := { program := "ytkpcngcegipalaa", sum := "d2e885e7445bd9cc7256689574764bc3b21ac1213bc2e4a43dbf07377b6ca953", func := "tallow/tallowlaw14.DrainPlays", spec := "drainPlays", inPlace := ["slices.overlaps[int]"], unfollowed := true, recurses := true, apart := false, narrowed := true }
def DrainPlaysUptoSaid : Prop := drainPlaysUptoRow.holds Try.pinned (OpenSpec.upto drainPlaysSpec)

/-- 'tallowlaw13.CellsWatch', WHERE WHAT IT READS IS OF BULK AT MOST 1048576: true; the input reads as it did. -/
def cellsWatchUptoRow : OpenClaim := { program := "ytkpcngcegipalaa", sum := "d2e885e7445bd9cc7256689574764bc3b21ac1213bc2e4a43dbf07377b6ca953", func := "tallow/tallowlaw13.CellsWatch", spec := "cellsWatch", inPlace := ["slices.overlaps[int]", "maps.clone"], unfollowed := true, recurses := true, apart := false, narrowed := true }
def CellsWatchUptoSaid : Prop := cellsWatchUptoRow.holds Try.pinned (OpenSpec.upto cellsWatchSpec)

/-- 'tallowlaw13.CellsCount', WHERE WHAT IT READS IS OF BULK AT MOST 1048576: true; the input reads as it did. -/
def cellsCountUptoRow : OpenClaim := { program := "ytkpcngcegipalaa", sum := "d2e885e7445bd9cc7256689574764bc3b21ac1213bc2e4a43dbf07377b6ca953", func := "tallow/tallowlaw13.CellsCount", spec := "cellsCount", inPlace := ["slices.overlaps[int]"], unfollowed := true, recurses := true, apart := false, narrowed := true }
def CellsCountUptoSaid : Prop := cellsCountUptoRow.holds Try.pinned (OpenSpec.upto cellsCountSpec)

/-- 'tallowlaw13.CellsPlay', WHERE WHAT IT READS IS OF BULK AT MOST 1048576: true; the input reads as it did. -/
def cellsPlayUptoRow : OpenClaim := { program := "ytkpcngcegipalaa", sum := "d2e885e7445bd9cc7256689574764bc3b21ac1213bc2e4a43dbf07377b6ca953", func := "tallow/tallowlaw13.CellsPlay", spec := "cellsPlay", inPlace := ["maps.clone", "slices.overlaps[int]"], unfollowed := true, recurses := true, apart := false, narrowed := true }
def CellsPlayUptoSaid : Prop := cellsPlayUptoRow.holds Try.pinned (OpenSpec.upto cellsPlaySpec)

/-- 'tallowlaw13.CellsKnown', WHERE WHAT IT READS IS OF BULK AT MOST 1048576: true; the input reads as it did. -/
def cellsKnownUptoRow : OpenClaim := { program := "ytkpcngcegipalaa", sum := "d2e885e7445bd9cc7256689574764bc3b21ac1213bc2e4a43dbf07377b6ca953", func := "tallow/tallowlaw13.CellsKnown", spec := "cellsKnown", inPlace := ["slices.overlaps[int]", "maps.clone"], unfollowed := true, recurses := true, apart := false, narrowed := true }
def CellsKnownUptoSaid : Prop := cellsKnownUptoRow.holds Try.pinned (OpenSpec.upto cellsKnownSpec)

end Rows
end Go.Proofs.Ytkpcngcegipalaa
