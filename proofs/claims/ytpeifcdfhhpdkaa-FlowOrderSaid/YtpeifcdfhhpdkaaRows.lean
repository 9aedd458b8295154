/-
  No cell of these rows narrows 'for every input' (looked for: loops, veiled, ifaces, maps, wideKeys, modest, calm, conditions, laid).
  DERIVED. THE GIVEN ROWS OF THIS SEAT. 9 by the template 'for every input the law returns true; each argument reads behind the call as it read before'; 0 by the template 'total and deterministic' (their statements: YtpeifcdfhhpdkaaTotals.lean).
  GIVEN WITH THE SEED: the statements are not yours to turn. If you find one false, say at which input.
  Laid BY PROGRAM, IN A SANDBOX (cutbox-rows.mjs): the forced cells as the released guide's own fill.sh prints them over the translation c94170d6b20c75be… (all of the seat's roots in one cut). By AI agents, Wed Nov 11 2026. No macro, syntax, notation, axiom, sorry.
-/
import Derived.Test.YtpeifcdfhhpdkaaChecked
import GoSem.Claim
import GoSem.ClaimJoined
import GoSem.ClaimMapViews
import Derived.JoinedTies
import Derived.KernelRfl
namespace Go.Proofs.Ytpeifcdfhhpdkaa
/- THE CELL 'sum', in the pinned program and in every row, IS THE sha256 OF THE DUMP (.gsa) THAT YtpeifcdfhhpdkaaProg.lean LOADS. Nothing in Lean hashes anything: it is a label: what it is worth is what the hold of that sum in a sandbox is worth. -/
noncomputable def Try.pinned : Pinned := { name := "ytpeifcdfhhpdkaa", sum := "c94170d6b20c75be8053321a0b75d8c8e3673995b141a10ef44a33b7ab451e75", checked := Try.checked }
namespace Rows
def none {H : Type} : Left H := { results := [], args := [] }

/-- 'tallowlaw22.FlowNext': WHATEVER THE INPUT: true; the input reads as it did. -/
def flowNextSpec : ChangeSpec := { name := "flowNext", fn := fun _ => fun
  | [d1, d2] => { results := [.lit (.bool true)], args := [d1, d2] }
  | _ => none }
def flowNextRow : OpenClaim := { program := "ytpeifcdfhhpdkaa", sum := "c94170d6b20c75be8053321a0b75d8c8e3673995b141a10ef44a33b7ab451e75", func := "tallow/tallowlaw22.FlowNext", spec := "flowNext", unfollowed := true, recurses := true, apart := false }
def FlowNextSaid : Prop := flowNextRow.holds Try.pinned (OpenSpec.ofChange flowNextSpec)

/-- ITS FALSE NEIGHBOUR: 'it returns false'. Refute it at one input. -/
def flowNextWrong : ChangeSpec := { name := "flowNext", fn := fun _ => fun
  | [d1, d2] => { results := [.lit (.bool false)], args := [d1, d2] }
  | _ => none }
def FlowNextWrongFalsely : Prop := flowNextRow.holds Try.pinned (OpenSpec.ofChange flowNextWrong)

/-- 'tallowlaw22.FlowThrough': WHATEVER THE INPUT: true; the input reads as it did. -/
def flowThroughSpec : ChangeSpec := { name := "flowThrough", fn := fun _ => fun
  | [d1, d2] => { results := [.lit (.bool true)], args := [d1, d2] }
  | _ => none }
def flowThroughRow : OpenClaim := { program := "ytpeifcdfhhpdkaa", sum := "c94170d6b20c75be8053321a0b75d8c8e3673995b141a10ef44a33b7ab451e75", func := "tallow/tallowlaw22.FlowThrough", spec := "flowThrough", unfollowed := true, recurses := true, apart := false }
def FlowThroughSaid : Prop := flowThroughRow.holds Try.pinned (OpenSpec.ofChange flowThroughSpec)

/-- ITS FALSE NEIGHBOUR: 'it returns false'. Refute it at one input. -/
def flowThroughWrong : ChangeSpec := { name := "flowThrough", fn := fun _ => fun
  | [d1, d2] => { results := [.lit (.bool false)], args := [d1, d2] }
  | _ => none }
def FlowThroughWrongFalsely : Prop := flowThroughRow.holds Try.pinned (OpenSpec.ofChange flowThroughWrong)

/-- 'tallowlaw22.FlowClosed': WHATEVER THE INPUT: true; the input reads as it did. -/
def flowClosedSpec : ChangeSpec := { name := "flowClosed", fn := fun _ => fun
  | [d1, d2] => { results := [.lit (.bool true)], args := [d1, d2] }
  | _ => none }
def flowClosedRow : OpenClaim := { program := "ytpeifcdfhhpdkaa", sum := "c94170d6b20c75be8053321a0b75d8c8e3673995b141a10ef44a33b7ab451e75", func := "tallow/tallowlaw22.FlowClosed", spec := "flowClosed", unfollowed := true, recurses := true, apart := false }
def FlowClosedSaid : Prop := flowClosedRow.holds Try.pinned (OpenSpec.ofChange flowClosedSpec)

/-- ITS FALSE NEIGHBOUR: 'it returns false'. Refute it at one input. -/
def flowClosedWrong : ChangeSpec := { name := "flowClosed", fn := fun _ => fun
  | [d1, d2] => { results := [.lit (.bool false)], args := [d1, d2] }
  | _ => none }
def FlowClosedWrongFalsely : Prop := flowClosedRow.holds Try.pinned (OpenSpec.ofChange flowClosedWrong)

/-- 'tallowlaw22.FlowOrder': WHATEVER THE INPUT: true; the input reads as it did. -/
def flowOrderSpec : ChangeSpec := { name := "flowOrder", fn := fun _ => fun
  | [d] => { results := [.lit (.bool true)], args := [d] }
  | _ => none }
def flowOrderRow : OpenClaim := { program := "ytpeifcdfhhpdkaa", sum := "c94170d6b20c75be8053321a0b75d8c8e3673995b141a10ef44a33b7ab451e75", func := "tallow/tallowlaw22.FlowOrder", spec := "flowOrder", unfollowed := true, recurses := true, apart := false }
def FlowOrderSaid : Prop := flowOrderRow.holds Try.pinned (OpenSpec.ofChange flowOrderSpec)

/-- ITS FALSE NEIGHBOUR: 'it returns false'. Refute it at one input. -/
def flowOrderWrong : ChangeSpec := { name := "flowOrder", fn := fun _ => fun
  | [d] => { results := [.lit (.bool false)], args := [d] }
  | _ => none }
def FlowOrderWrongFalsely : Prop := flowOrderRow.holds Try.pinned (OpenSpec.ofChange flowOrderWrong)

/-- 'tallowlaw22.FlowLine': WHATEVER THE INPUT: true; the input reads as it did. -/
def flowLineSpec : ChangeSpec := { name := "flowLine", fn := fun _ => fun
  | [d1, d2] => { results := [.lit (.bool true)], args := [d1, d2] }
  | _ => none }
def flowLineRow : OpenClaim := { program := "ytpeifcdfhhpdkaa", sum := "c94170d6b20c75be8053321a0b75d8c8e3673995b141a10ef44a33b7ab451e75", func := "tallow/tallowlaw22.FlowLine", spec := "flowLine", unfollowed := true, recurses := true, apart := false }
def FlowLineSaid : Prop := flowLineRow.holds Try.pinned (OpenSpec.ofChange flowLineSpec)

/-- ITS FALSE NEIGHBOUR: 'it returns false'. Refute it at one input. -/
def flowLineWrong : ChangeSpec := { name := "flowLine", fn := fun _ => fun
  | [d1, d2] => { results := [.lit (.bool false)], args := [d1, d2] }
  | _ => none }
def FlowLineWrongFalsely : Prop := flowLineRow.holds Try.pinned (OpenSpec.ofChange flowLineWrong)

/-- 'tallowlaw22.FlowKnown': WHATEVER THE INPUT: true; the input reads as it did. -/
def flowKnownSpec : ChangeSpec := { name := "flowKnown", fn := fun _ => fun
  | [] => { results := [.lit (.bool true)], args := [] }
  | _ => none }
def flowKnownRow : OpenClaim := { program := "ytpeifcdfhhpdkaa", sum := "c94170d6b20c75be8053321a0b75d8c8e3673995b141a10ef44a33b7ab451e75", func := "tallow/tallowlaw22.FlowKnown", spec := "flowKnown", unfollowed := true, recurses := true, apart := false }
def FlowKnownSaid : Prop := flowKnownRow.holds Try.pinned (OpenSpec.ofChange flowKnownSpec)

/-- ITS FALSE NEIGHBOUR: 'it returns false'. Refute it at one input. -/
def flowKnownWrong : ChangeSpec := { name := "flowKnown", fn := fun _ => fun
  | [] => { results := [.lit (.bool false)], args := [] }
  | _ => none }
def FlowKnownWrongFalsely : Prop := flowKnownRow.holds Try.pinned (OpenSpec.ofChange flowKnownWrong)

/-- 'tallowlaw23.OwnChecks': WHATEVER THE INPUT: true; the input reads as it did. -/
def ownChecksSpec : ChangeSpec := { name := "ownChecks", fn := fun _ => fun
  | [d] => { results := [.lit (.bool true)], args := [d] }
  | _ => none }
def ownChecksRow : OpenClaim := { program := "ytpeifcdfhhpdkaa", sum := "c94170d6b20c75be8053321a0b75d8c8e3673995b141a10ef44a33b7ab451e75", func := "tallow/tallowlaw23.OwnChecks", spec := "ownChecks", unfollowed := true, recurses := true, apart := false }
def OwnChecksSaid : Prop := ownChecksRow.holds Try.pinned (OpenSpec.ofChange ownChecksSpec)

/-- ITS FALSE NEIGHBOUR: 'it returns false'. Refute it at one input. -/
def ownChecksWrong : ChangeSpec := { name := "ownChecks", fn := fun _ => fun
  | [d] => { results := [.lit (.bool false)], args := [d] }
  | _ => none }
def OwnChecksWrongFalsely : Prop := ownChecksRow.holds Try.pinned (OpenSpec.ofChange ownChecksWrong)

/-- 'tallowlaw23.OwnWays': WHATEVER THE INPUT: true; the input reads as it did. -/
def ownWaysSpec : ChangeSpec := { name := "ownWays", fn := fun _ => fun
  | [d1, d2] => { results := [.lit (.bool true)], args := [d1, d2] }
  | _ => none }
def ownWaysRow : OpenClaim := { program := "ytpeifcdfhhpdkaa", sum := "c94170d6b20c75be8053321a0b75d8c8e3673995b141a10ef44a33b7ab451e75", func := "tallow/tallowlaw23.OwnWays", spec := "ownWays", unfollowed := true, recurses := true, apart := false }
def OwnWaysSaid : Prop := ownWaysRow.holds Try.pinned (OpenSpec.ofChange ownWaysSpec)

/-- ITS FALSE NEIGHBOUR: 'it returns false'. Refute it at one input. -/
def ownWaysWrong : ChangeSpec := { name := "ownWays", fn := fun _ => fun
  | [d1, d2] => { results := [.lit (.bool false)], args := [d1, d2] }
  | _ => none }
def OwnWaysWrongFalsely : Prop := ownWaysRow.holds Try.pinned (OpenSpec.ofChange ownWaysWrong)

/-- 'tallowlaw23.OwnShift': WHATEVER THE INPUT: true; the input reads as it did. -/
def ownShiftSpec : ChangeSpec := { name := "ownShift", fn := fun _ => fun
  | [d1, d2] => { results := [.lit (.bool true)], args := [d1, d2] }
  | _ => none }
def ownShiftRow : OpenClaim := { program := "ytpeifcdfhhpdkaa", sum := "c94170d6b20c75be8053321a0b75d8c8e3673995b141a10ef44a33b7ab451e75", func := "tallow/tallowlaw23.OwnShift", spec := "ownShift", unfollowed := true, recurses := true, apart := false }
def OwnShiftSaid : Prop := ownShiftRow.holds Try.pinned (OpenSpec.ofChange ownShiftSpec)

/-- ITS FALSE NEIGHBOUR: 'it returns false'. Refute it at one input. -/
def ownShiftWrong : ChangeSpec := { name := "ownShift", fn := fun _ => fun
  | [d1, d2] => { results := [.lit (.bool false)], args := [d1, d2] }
  | _ => none }
def OwnShiftWrongFalsely : Prop := ownShiftRow.holds Try.pinned (OpenSpec.ofChange ownShiftWrong)

/- THE SECOND FORM. 'bulk': how many values and letters a reading holds, each counted each time it is reached (what is shared counts as often as it is met; a slice's spare places count too). A statement '..UptoSaid' is the law's where the arguments, and the package variables that the reading takes, are together of bulk at most 1048576: NARROWER than '..Said'. Prove '..Said' where nothing that the law and all that it calls make is longer than what came in: it says more and counts as full. Else prove '..UptoSaid'. A law counts once. -/
mutual
def uptoBulk {H : Type} : DataW H → Nat
  | .lit (.string bytes) => bytes.length + 1
  | .lit _ => 1
  | .nil => 1
  | .ptr d => uptoBulk d + 1
  | .slice elems spare => uptoBulkAll elems + uptoBulkAll spare + 1
  | .agg parts => uptoBulkAll parts + 1
  | .iface _ d => uptoBulk d + 1
  | .map entries => uptoBulkEntries entries + 1
  | .held _ => 1
def uptoBulkAll {H : Type} : List (DataW H) → Nat
  | [] => 0
  | d :: r => uptoBulk d + uptoBulkAll r
def uptoBulkEntries {H : Type} : List (Lit × DataW H) → Nat
  | [] => 0
  | x :: r => uptoBulkEntry x + uptoBulkEntries r
def uptoBulkEntry {H : Type} : Lit × DataW H → Nat
  | (.string bytes, d) => bytes.length + uptoBulk d + 1
  | (_, d) => uptoBulk d + 1
 end
def uptoSmall : (H : Type) → List (DataW H) → Bool := fun _ ds => decide (uptoBulkAll ds ≤ 1048576)
def OpenSpec.upto (s : _root_.Go.ChangeSpec) : _root_.Go.OpenSpec := { _root_.Go.OpenSpec.ofChange s with cond := some uptoSmall }

/-- 'tallowlaw22.FlowNext', WHERE WHAT IT READS IS OF BULK AT MOST 1048576: true; the input reads as it did. -/
def flowNextUptoRow : OpenClaim := { program := "ytpeifcdfhhpdkaa", sum := "c94170d6b20c75be8053321a0b75d8c8e3673995b141a10ef44a33b7ab451e75", func := "tallow/tallowlaw22.FlowNext", spec := "flowNext", unfollowed := true, recurses := true, apart := false, narrowed := true }
def FlowNextUptoSaid : Prop := flowNextUptoRow.holds Try.pinned (OpenSpec.upto flowNextSpec)

/-- 'tallowlaw22.FlowThrough', WHERE WHAT IT READS IS OF BULK AT MOST 1048576: true; the input reads as it did. -/
def flowThroughUptoRow : OpenClaim := { program := "ytpeifcdfhhpdkaa", sum := "c94170d6b20c75be8053321a0b75d8c8e3673995b141a10ef44a33b7ab451e75", func := "tallow/tallowlaw22.FlowThrough", spec := "flowThrough", unfollowed := true, recurses := true, apart := false, narrowed := true }
def FlowThroughUptoSaid : Prop := flowThroughUptoRow.holds Try.pinned (OpenSpec.upto flowThroughSpec)

/-- 'tallowlaw22.FlowClosed', WHERE WHAT IT READS IS OF BULK AT MOST 1048576: true; the input reads as it did. -/
def flowClosedUptoRow : OpenClaim := { program := "ytpeifcdfhhpdkaa", sum := "c94170d6b20c75be8053321a0b75d8c8e3673995b141a10ef44a33b7ab451e75", func := "tallow/tallowlaw22.FlowClosed", spec := "flowClosed", unfollowed := true, recurses := true, apart := false, narrowed := true }
def FlowClosedUptoSaid : Prop := flowClosedUptoRow.holds Try.pinned (OpenSpec.upto flowClosedSpec)

/-- 'tallowlaw22.FlowOrder', WHERE WHAT IT READS IS OF BULK AT MOST 1048576: true; the input reads as it did. -/
def flowOrderUptoRow : OpenClaim := { program := "ytpeifcdfhhpdkaa", sum := "c94170d6b20c75be8053321a0b75d8c8e3673995b141a10ef44a33b7ab451e75", func := "tallow/tallowlaw22.FlowOrder", spec := "flowOrder", unfollowed := true, recurses := true, apart := false, narrowed := true }
def FlowOrderUptoSaid : Prop := flowOrderUptoRow.holds Try.pinned (OpenSpec.upto flowOrderSpec)

/-- 'tallowlaw22.FlowLine', WHERE WHAT IT READS IS OF BULK AT MOST 1048576: true; the input reads as it did. -/
def flowLineUptoRow : OpenClaim := { program := "ytpeifcdfhhpdkaa", sum := "c94170d6b20c75be8053321a0b75d8c8e3673995b141a10ef44a33b7ab451e75", func := "tallow/tallowlaw22.FlowLine", spec := "flowLine", unfollowed := true, recurses := true, apart := false, narrowed := true }
def FlowLineUptoSaid : Prop := flowLineUptoRow.holds Try.pinned (OpenSpec.upto flowLineSpec)

/-- 'tallowlaw22.FlowKnown', WHERE WHAT IT READS IS OF BULK AT MOST 1048576: true; the input reads as it did. -/
def flowKnownUptoRow : OpenClaim := { program := "ytpeifcdfhhpdkaa", sum := "c94170d6b20c75be8053321a0b75d8c8e3673995b141a10ef44a33b7ab451e75", func := "tallow/tallowlaw22.FlowKnown", spec := "flowKnown", unfollowed := true, recurses := true, apart := false, narrowed := true }
def FlowKnownUptoSaid : Prop := flowKnownUptoRow.holds Try.pinned (OpenSpec.upto flowKnownSpec)

/-- 'tallowlaw23.OwnChecks', WHERE WHAT IT READS IS OF BULK AT MOST 1048576: true; the input reads as it did. -/
def ownChecksUptoRow : OpenClaim := { program := "ytpeifcdfhhpdkaa", sum := "c94170d6b20c75be8053321a0b75d8c8e3673995b141a10ef44a33b7ab451e75", func := "tallow/tallowlaw23.OwnChecks", spec := "ownChecks", unfollowed := true, recurses := true, apart := false, narrowed := true }
def OwnChecksUptoSaid : Prop := ownChecksUptoRow.holds Try.pinned (OpenSpec.upto ownChecksSpec)

/-- 'tallowlaw23.OwnWays', WHERE WHAT IT READS IS OF BULK AT MOST 1048576: true; the input reads as it did. -/
def ownWaysUptoRow : OpenClaim := { program := "ytpeifcdfhhpdkaa", sum := "c94170d6b20c75be8053321a0b75d8c8e3673995b141a10ef44a33b7ab451e75", func := "tallow/tallowlaw23.OwnWays", spec := "ownWays", unfollowed := true, recurses := true, apart := false, narrowed := true }
def OwnWaysUptoSaid : Prop := ownWaysUptoRow.holds Try.pinned (OpenSpec.upto ownWaysSpec)

/-- 'tallowlaw23.OwnShift', WHERE WHAT IT READS IS OF BULK AT MOST 1048576: true; the input reads as it did. -/
def ownShiftUptoRow : OpenClaim := { program := "ytpeifcdfhhpdkaa", sum := "c94170d6b20c75be8053321a0b75d8c8e3673995b141a10ef44a33b7ab451e75", func := "tallow/tallowlaw23.OwnShift", spec := "ownShift", unfollowed := true, recurses := true, apart := false, narrowed := true }
def OwnShiftUptoSaid : Prop := ownShiftUptoRow.holds Try.pinned (OpenSpec.upto ownShiftSpec)

end Rows
end Go.Proofs.Ytpeifcdfhhpdkaa
